/-
  NARROWER THAN 'FOR EVERY INPUT', by the rows' own cells (each row's printed sentence says how): ReconReads: laid · ReconTakes: laid · ReconGives: laid · OrderTells: laid · OrderKnows: laid · OrderCame: laid · OrderStays: laid · CloseSafe: laid · CloseStays: laid · CloseLocal: laid · CloseDecides: laid · CloseTells: laid · CloseNext: laid.
  DERIVED. THE GIVEN ROWS OF THIS SEAT. 13 by the template 'for every input the law returns true; each argument reads behind the call as it read before'; 0 by the template 'total and deterministic' (their statements: YtjkmalddfoemhaaGreatDoorTotals.lean).
  GIVEN WITH THE SEED: the statements are not yours to turn. If you find one false, say at which input.
  Laid BY PROGRAM, IN A SANDBOX (cutbox-rows.mjs): the forced cells as the released guide's own fill.sh prints them over the translation c8f341cee4f51693… (all of the seat's roots in one cut). By AI agents, Wed Nov 11 2026. No macro, syntax, notation, axiom, sorry.
-/
import Derived.Test.YtjkmalddfoemhaaGreatDoorChecked
import GoSem.Claim
import GoSem.ClaimJoined
import GoSem.ClaimMapViews
import Derived.JoinedTies
import Derived.KernelRfl
namespace Go.Proofs.YtjkmalddfoemhaaGreatDoor
/- THE CELL 'sum', in the pinned program and in every row, IS THE sha256 OF THE DUMP (.gsa) THAT YtjkmalddfoemhaaGreatDoorProg.lean LOADS. Nothing in Lean hashes anything: it is a label: what it is worth is what the hold of that sum in a sandbox is worth. -/
noncomputable def Tryz.pinned : Pinned := { name := "ytjkmalddfoemhaagreatdoor", sum := "c8f341cee4f51693118ea3fe0fe6b36f1b13a0532f87aa6099122cd3ca8c87f9", checked := Tryz.checked }
namespace Rows
def none {H : Type} : Left H := { results := [], args := [] }

/- WHAT THE LISTED PACKAGE-LEVEL VARIABLES READ AS WHEN THE CALL BEGINS. Each datum BY PROGRAM (the guide's laid-datum.mjs) off the statement by which the dump's own 'gosem.cut.vars' lays the variable. In a bare row this is a premise. The card (YtjkmalddfoemhaaGreatDoorCards.lean) ties it to the program's text. -/
def laid_math_bits_deBruijn32tab {H : Type} : DataW H := .agg [.lit (.int .u8 0), .lit (.int .u8 1), .lit (.int .u8 28), .lit (.int .u8 2), .lit (.int .u8 29), .lit (.int .u8 14), .lit (.int .u8 24), .lit (.int .u8 3), .lit (.int .u8 30), .lit (.int .u8 22), .lit (.int .u8 20), .lit (.int .u8 15), .lit (.int .u8 25), .lit (.int .u8 17), .lit (.int .u8 4), .lit (.int .u8 8), .lit (.int .u8 31), .lit (.int .u8 27), .lit (.int .u8 13), .lit (.int .u8 23), .lit (.int .u8 21), .lit (.int .u8 19), .lit (.int .u8 16), .lit (.int .u8 7), .lit (.int .u8 26), .lit (.int .u8 12), .lit (.int .u8 18), .lit (.int .u8 6), .lit (.int .u8 11), .lit (.int .u8 5), .lit (.int .u8 10), .lit (.int .u8 9)]
def laid_math_bits_deBruijn64tab {H : Type} : DataW H := .agg [.lit (.int .u8 0), .lit (.int .u8 1), .lit (.int .u8 56), .lit (.int .u8 2), .lit (.int .u8 57), .lit (.int .u8 49), .lit (.int .u8 28), .lit (.int .u8 3), .lit (.int .u8 61), .lit (.int .u8 58), .lit (.int .u8 42), .lit (.int .u8 50), .lit (.int .u8 38), .lit (.int .u8 29), .lit (.int .u8 17), .lit (.int .u8 4), .lit (.int .u8 62), .lit (.int .u8 47), .lit (.int .u8 59), .lit (.int .u8 36), .lit (.int .u8 45), .lit (.int .u8 43), .lit (.int .u8 51), .lit (.int .u8 22), .lit (.int .u8 53), .lit (.int .u8 39), .lit (.int .u8 33), .lit (.int .u8 30), .lit (.int .u8 24), .lit (.int .u8 18), .lit (.int .u8 12), .lit (.int .u8 5), .lit (.int .u8 63), .lit (.int .u8 55), .lit (.int .u8 48), .lit (.int .u8 27), .lit (.int .u8 60), .lit (.int .u8 41), .lit (.int .u8 37), .lit (.int .u8 16), .lit (.int .u8 46), .lit (.int .u8 35), .lit (.int .u8 44), .lit (.int .u8 21), .lit (.int .u8 52), .lit (.int .u8 32), .lit (.int .u8 23), .lit (.int .u8 11), .lit (.int .u8 54), .lit (.int .u8 26), .lit (.int .u8 40), .lit (.int .u8 15), .lit (.int .u8 34), .lit (.int .u8 20), .lit (.int .u8 31), .lit (.int .u8 10), .lit (.int .u8 25), .lit (.int .u8 14), .lit (.int .u8 19), .lit (.int .u8 9), .lit (.int .u8 13), .lit (.int .u8 8), .lit (.int .u8 7), .lit (.int .u8 6)]
def laid_internal_strconv_uint64pow10 {H : Type} : DataW H := .agg [.lit (.int .u64 1), .lit (.int .u64 10), .lit (.int .u64 100), .lit (.int .u64 1000), .lit (.int .u64 10000), .lit (.int .u64 100000), .lit (.int .u64 1000000), .lit (.int .u64 10000000), .lit (.int .u64 100000000), .lit (.int .u64 1000000000), .lit (.int .u64 10000000000), .lit (.int .u64 100000000000), .lit (.int .u64 1000000000000), .lit (.int .u64 10000000000000), .lit (.int .u64 100000000000000), .lit (.int .u64 1000000000000000), .lit (.int .u64 10000000000000000), .lit (.int .u64 100000000000000000), .lit (.int .u64 1000000000000000000), .lit (.int .u64 10000000000000000000)]
def laid_strconv_ErrRange {H : Type} : DataW H := .iface "*errors.errorString" (.ptr (.agg [.lit (.string [118, 97, 108, 117, 101, 32, 111, 117, 116, 32, 111, 102, 32, 114, 97, 110, 103, 101])]))
def laid_strconv_ErrSyntax {H : Type} : DataW H := .iface "*errors.errorString" (.ptr (.agg [.lit (.string [105, 110, 118, 97, 108, 105, 100, 32, 115, 121, 110, 116, 97, 120])]))
def laid_stokvel_entry_uses {H : Type} : DataW H := .agg [.lit (.string [107, 116]), .lit (.string [99]), .lit (.string [99]), .lit (.string [99, 119, 110, 109]), .lit (.string [110, 114]), .lit (.string [119, 115]), .lit (.string [119, 109, 115]), .lit (.string [99, 119, 109, 114, 115]), .lit (.string [99, 110, 109, 114]), .lit (.string [110, 114]), .lit (.string [99, 110, 109, 116]), .lit (.string [114, 116]), .lit (.string [110, 114]), .lit (.string [114]), .lit (.string [99, 116]), .lit (.string [119, 110]), .lit (.string [99, 109]), .lit (.string [99, 107]), .lit (.string [110, 109, 114]), .lit (.string [110, 109, 114]), .lit (.string [110, 109, 114])]

/-- 'stokvellaw12.ReconReads': WHATEVER THE INPUT: true; the input reads as it did. -/
def reconReadsSpec : ChangeSpec := { name := "reconReads", fn := fun _ => fun
  | [d1, d2, d3] => { results := [.lit (.bool true)], args := [d1, d2, d3] }
  | _ => none }
def reconReadsRow : OpenClaim := { program := "ytjkmalddfoemhaagreatdoor", sum := "c8f341cee4f51693118ea3fe0fe6b36f1b13a0532f87aa6099122cd3ca8c87f9", func := "stokvel/stokvellaw12.ReconReads", spec := "reconReads", inPlace := ["internal/bytealg.IndexByteString", "internal/bytealg.IndexString", "internal/abi.NoEscape"], unfollowed := true, recurses := true, named := ["stokvel/entry.uses", "internal/strconv.uint64pow10", "math/bits.deBruijn32tab", "math/bits.deBruijn64tab", "strconv.ErrSyntax", "strconv.ErrRange", "internal/bytealg.MaxLen"], plainKeys := false, apart := false, laid := [("math/bits.deBruijn32tab", laid_math_bits_deBruijn32tab), ("math/bits.deBruijn64tab", laid_math_bits_deBruijn64tab), ("internal/strconv.uint64pow10", laid_internal_strconv_uint64pow10), ("strconv.ErrRange", laid_strconv_ErrRange), ("strconv.ErrSyntax", laid_strconv_ErrSyntax), ("stokvel/entry.uses", laid_stokvel_entry_uses)] }
def ReconReadsSaid : Prop := reconReadsRow.holds Tryz.pinned (OpenSpec.ofChange reconReadsSpec)

/-- ITS FALSE NEIGHBOUR: 'it returns false'. Refute it at one input. -/
def reconReadsWrong : ChangeSpec := { name := "reconReads", fn := fun _ => fun
  | [d1, d2, d3] => { results := [.lit (.bool false)], args := [d1, d2, d3] }
  | _ => none }
def ReconReadsWrongFalsely : Prop := reconReadsRow.holds Tryz.pinned (OpenSpec.ofChange reconReadsWrong)

/-- 'stokvellaw12.ReconTakes': WHATEVER THE INPUT: true; the input reads as it did. -/
def reconTakesSpec : ChangeSpec := { name := "reconTakes", fn := fun _ => fun
  | [d1, d2, d3] => { results := [.lit (.bool true)], args := [d1, d2, d3] }
  | _ => none }
def reconTakesRow : OpenClaim := { program := "ytjkmalddfoemhaagreatdoor", sum := "c8f341cee4f51693118ea3fe0fe6b36f1b13a0532f87aa6099122cd3ca8c87f9", func := "stokvel/stokvellaw12.ReconTakes", spec := "reconTakes", inPlace := ["internal/bytealg.IndexByteString", "internal/bytealg.IndexString", "internal/abi.NoEscape"], unfollowed := true, recurses := true, named := ["stokvel/entry.uses", "internal/strconv.uint64pow10", "math/bits.deBruijn32tab", "math/bits.deBruijn64tab", "strconv.ErrSyntax", "strconv.ErrRange", "internal/bytealg.MaxLen"], plainKeys := false, apart := false, laid := [("math/bits.deBruijn32tab", laid_math_bits_deBruijn32tab), ("math/bits.deBruijn64tab", laid_math_bits_deBruijn64tab), ("internal/strconv.uint64pow10", laid_internal_strconv_uint64pow10), ("strconv.ErrRange", laid_strconv_ErrRange), ("strconv.ErrSyntax", laid_strconv_ErrSyntax), ("stokvel/entry.uses", laid_stokvel_entry_uses)] }
def ReconTakesSaid : Prop := reconTakesRow.holds Tryz.pinned (OpenSpec.ofChange reconTakesSpec)

/-- ITS FALSE NEIGHBOUR: 'it returns false'. Refute it at one input. -/
def reconTakesWrong : ChangeSpec := { name := "reconTakes", fn := fun _ => fun
  | [d1, d2, d3] => { results := [.lit (.bool false)], args := [d1, d2, d3] }
  | _ => none }
def ReconTakesWrongFalsely : Prop := reconTakesRow.holds Tryz.pinned (OpenSpec.ofChange reconTakesWrong)

/-- 'stokvellaw12.ReconGives': WHATEVER THE INPUT: true; the input reads as it did. -/
def reconGivesSpec : ChangeSpec := { name := "reconGives", fn := fun _ => fun
  | [d1, d2, d3, d4] => { results := [.lit (.bool true)], args := [d1, d2, d3, d4] }
  | _ => none }
def reconGivesRow : OpenClaim := { program := "ytjkmalddfoemhaagreatdoor", sum := "c8f341cee4f51693118ea3fe0fe6b36f1b13a0532f87aa6099122cd3ca8c87f9", func := "stokvel/stokvellaw12.ReconGives", spec := "reconGives", inPlace := ["internal/bytealg.IndexByteString", "internal/bytealg.IndexString", "internal/abi.NoEscape"], unfollowed := true, recurses := true, named := ["stokvel/entry.uses", "internal/strconv.uint64pow10", "math/bits.deBruijn32tab", "math/bits.deBruijn64tab", "strconv.ErrSyntax", "strconv.ErrRange", "internal/bytealg.MaxLen"], plainKeys := false, apart := false, laid := [("math/bits.deBruijn32tab", laid_math_bits_deBruijn32tab), ("math/bits.deBruijn64tab", laid_math_bits_deBruijn64tab), ("internal/strconv.uint64pow10", laid_internal_strconv_uint64pow10), ("strconv.ErrRange", laid_strconv_ErrRange), ("strconv.ErrSyntax", laid_strconv_ErrSyntax), ("stokvel/entry.uses", laid_stokvel_entry_uses)] }
def ReconGivesSaid : Prop := reconGivesRow.holds Tryz.pinned (OpenSpec.ofChange reconGivesSpec)

/-- ITS FALSE NEIGHBOUR: 'it returns false'. Refute it at one input. -/
def reconGivesWrong : ChangeSpec := { name := "reconGives", fn := fun _ => fun
  | [d1, d2, d3, d4] => { results := [.lit (.bool false)], args := [d1, d2, d3, d4] }
  | _ => none }
def ReconGivesWrongFalsely : Prop := reconGivesRow.holds Tryz.pinned (OpenSpec.ofChange reconGivesWrong)

/-- 'stokvellaw33.OrderTells': WHATEVER THE INPUT: true; the input reads as it did. -/
def orderTellsSpec : ChangeSpec := { name := "orderTells", fn := fun _ => fun
  | [d1, d2, d3] => { results := [.lit (.bool true)], args := [d1, d2, d3] }
  | _ => none }
def orderTellsRow : OpenClaim := { program := "ytjkmalddfoemhaagreatdoor", sum := "c8f341cee4f51693118ea3fe0fe6b36f1b13a0532f87aa6099122cd3ca8c87f9", func := "stokvel/stokvellaw33.OrderTells", spec := "orderTells", inPlace := ["internal/bytealg.IndexByteString", "internal/bytealg.IndexString", "internal/abi.NoEscape"], unfollowed := true, recurses := true, named := ["stokvel/entry.uses", "internal/strconv.uint64pow10", "math/bits.deBruijn32tab", "math/bits.deBruijn64tab", "strconv.ErrSyntax", "strconv.ErrRange", "internal/bytealg.MaxLen"], plainKeys := false, apart := false, laid := [("math/bits.deBruijn32tab", laid_math_bits_deBruijn32tab), ("math/bits.deBruijn64tab", laid_math_bits_deBruijn64tab), ("internal/strconv.uint64pow10", laid_internal_strconv_uint64pow10), ("strconv.ErrRange", laid_strconv_ErrRange), ("strconv.ErrSyntax", laid_strconv_ErrSyntax), ("stokvel/entry.uses", laid_stokvel_entry_uses)] }
def OrderTellsSaid : Prop := orderTellsRow.holds Tryz.pinned (OpenSpec.ofChange orderTellsSpec)

/-- ITS FALSE NEIGHBOUR: 'it returns false'. Refute it at one input. -/
def orderTellsWrong : ChangeSpec := { name := "orderTells", fn := fun _ => fun
  | [d1, d2, d3] => { results := [.lit (.bool false)], args := [d1, d2, d3] }
  | _ => none }
def OrderTellsWrongFalsely : Prop := orderTellsRow.holds Tryz.pinned (OpenSpec.ofChange orderTellsWrong)

/-- 'stokvellaw33.OrderKnows': WHATEVER THE INPUT: true; the input reads as it did. -/
def orderKnowsSpec : ChangeSpec := { name := "orderKnows", fn := fun _ => fun
  | [d1, d2] => { results := [.lit (.bool true)], args := [d1, d2] }
  | _ => none }
def orderKnowsRow : OpenClaim := { program := "ytjkmalddfoemhaagreatdoor", sum := "c8f341cee4f51693118ea3fe0fe6b36f1b13a0532f87aa6099122cd3ca8c87f9", func := "stokvel/stokvellaw33.OrderKnows", spec := "orderKnows", inPlace := ["internal/bytealg.IndexByteString", "internal/bytealg.IndexString", "internal/abi.NoEscape"], unfollowed := true, recurses := true, named := ["stokvel/entry.uses", "internal/strconv.uint64pow10", "math/bits.deBruijn32tab", "math/bits.deBruijn64tab", "strconv.ErrSyntax", "strconv.ErrRange", "internal/bytealg.MaxLen"], plainKeys := false, apart := false, laid := [("math/bits.deBruijn32tab", laid_math_bits_deBruijn32tab), ("math/bits.deBruijn64tab", laid_math_bits_deBruijn64tab), ("internal/strconv.uint64pow10", laid_internal_strconv_uint64pow10), ("strconv.ErrRange", laid_strconv_ErrRange), ("strconv.ErrSyntax", laid_strconv_ErrSyntax), ("stokvel/entry.uses", laid_stokvel_entry_uses)] }
def OrderKnowsSaid : Prop := orderKnowsRow.holds Tryz.pinned (OpenSpec.ofChange orderKnowsSpec)

/-- ITS FALSE NEIGHBOUR: 'it returns false'. Refute it at one input. -/
def orderKnowsWrong : ChangeSpec := { name := "orderKnows", fn := fun _ => fun
  | [d1, d2] => { results := [.lit (.bool false)], args := [d1, d2] }
  | _ => none }
def OrderKnowsWrongFalsely : Prop := orderKnowsRow.holds Tryz.pinned (OpenSpec.ofChange orderKnowsWrong)

/-- 'stokvellaw33.OrderCame': WHATEVER THE INPUT: true; the input reads as it did. -/
def orderCameSpec : ChangeSpec := { name := "orderCame", fn := fun _ => fun
  | [d1, d2] => { results := [.lit (.bool true)], args := [d1, d2] }
  | _ => none }
def orderCameRow : OpenClaim := { program := "ytjkmalddfoemhaagreatdoor", sum := "c8f341cee4f51693118ea3fe0fe6b36f1b13a0532f87aa6099122cd3ca8c87f9", func := "stokvel/stokvellaw33.OrderCame", spec := "orderCame", inPlace := ["internal/bytealg.IndexByteString", "internal/bytealg.IndexString", "internal/abi.NoEscape"], unfollowed := true, recurses := true, named := ["stokvel/entry.uses", "internal/strconv.uint64pow10", "math/bits.deBruijn32tab", "math/bits.deBruijn64tab", "strconv.ErrSyntax", "strconv.ErrRange", "internal/bytealg.MaxLen"], plainKeys := false, apart := false, laid := [("math/bits.deBruijn32tab", laid_math_bits_deBruijn32tab), ("math/bits.deBruijn64tab", laid_math_bits_deBruijn64tab), ("internal/strconv.uint64pow10", laid_internal_strconv_uint64pow10), ("strconv.ErrRange", laid_strconv_ErrRange), ("strconv.ErrSyntax", laid_strconv_ErrSyntax), ("stokvel/entry.uses", laid_stokvel_entry_uses)] }
def OrderCameSaid : Prop := orderCameRow.holds Tryz.pinned (OpenSpec.ofChange orderCameSpec)

/-- ITS FALSE NEIGHBOUR: 'it returns false'. Refute it at one input. -/
def orderCameWrong : ChangeSpec := { name := "orderCame", fn := fun _ => fun
  | [d1, d2] => { results := [.lit (.bool false)], args := [d1, d2] }
  | _ => none }
def OrderCameWrongFalsely : Prop := orderCameRow.holds Tryz.pinned (OpenSpec.ofChange orderCameWrong)

/-- 'stokvellaw33.OrderStays': WHATEVER THE INPUT: true; the input reads as it did. -/
def orderStaysSpec : ChangeSpec := { name := "orderStays", fn := fun _ => fun
  | [d1, d2, d3, d4] => { results := [.lit (.bool true)], args := [d1, d2, d3, d4] }
  | _ => none }
def orderStaysRow : OpenClaim := { program := "ytjkmalddfoemhaagreatdoor", sum := "c8f341cee4f51693118ea3fe0fe6b36f1b13a0532f87aa6099122cd3ca8c87f9", func := "stokvel/stokvellaw33.OrderStays", spec := "orderStays", inPlace := ["internal/bytealg.IndexByteString", "internal/bytealg.IndexString", "internal/abi.NoEscape"], unfollowed := true, recurses := true, named := ["stokvel/entry.uses", "internal/strconv.uint64pow10", "math/bits.deBruijn32tab", "math/bits.deBruijn64tab", "strconv.ErrSyntax", "strconv.ErrRange", "internal/bytealg.MaxLen"], plainKeys := false, apart := false, laid := [("math/bits.deBruijn32tab", laid_math_bits_deBruijn32tab), ("math/bits.deBruijn64tab", laid_math_bits_deBruijn64tab), ("internal/strconv.uint64pow10", laid_internal_strconv_uint64pow10), ("strconv.ErrRange", laid_strconv_ErrRange), ("strconv.ErrSyntax", laid_strconv_ErrSyntax), ("stokvel/entry.uses", laid_stokvel_entry_uses)] }
def OrderStaysSaid : Prop := orderStaysRow.holds Tryz.pinned (OpenSpec.ofChange orderStaysSpec)

/-- ITS FALSE NEIGHBOUR: 'it returns false'. Refute it at one input. -/
def orderStaysWrong : ChangeSpec := { name := "orderStays", fn := fun _ => fun
  | [d1, d2, d3, d4] => { results := [.lit (.bool false)], args := [d1, d2, d3, d4] }
  | _ => none }
def OrderStaysWrongFalsely : Prop := orderStaysRow.holds Tryz.pinned (OpenSpec.ofChange orderStaysWrong)

/-- 'stokvellaw32.CloseSafe': WHATEVER THE INPUT: true; the input reads as it did. -/
def closeSafeSpec : ChangeSpec := { name := "closeSafe", fn := fun _ => fun
  | [d1, d2, d3] => { results := [.lit (.bool true)], args := [d1, d2, d3] }
  | _ => none }
def closeSafeRow : OpenClaim := { program := "ytjkmalddfoemhaagreatdoor", sum := "c8f341cee4f51693118ea3fe0fe6b36f1b13a0532f87aa6099122cd3ca8c87f9", func := "stokvel/stokvellaw32.CloseSafe", spec := "closeSafe", inPlace := ["internal/bytealg.IndexByteString", "internal/bytealg.IndexString", "internal/abi.NoEscape"], unfollowed := true, recurses := true, named := ["stokvel/entry.uses", "internal/strconv.uint64pow10", "math/bits.deBruijn32tab", "math/bits.deBruijn64tab", "strconv.ErrSyntax", "strconv.ErrRange", "internal/bytealg.MaxLen"], plainKeys := false, apart := false, laid := [("math/bits.deBruijn32tab", laid_math_bits_deBruijn32tab), ("math/bits.deBruijn64tab", laid_math_bits_deBruijn64tab), ("internal/strconv.uint64pow10", laid_internal_strconv_uint64pow10), ("strconv.ErrRange", laid_strconv_ErrRange), ("strconv.ErrSyntax", laid_strconv_ErrSyntax), ("stokvel/entry.uses", laid_stokvel_entry_uses)] }
def CloseSafeSaid : Prop := closeSafeRow.holds Tryz.pinned (OpenSpec.ofChange closeSafeSpec)

/-- ITS FALSE NEIGHBOUR: 'it returns false'. Refute it at one input. -/
def closeSafeWrong : ChangeSpec := { name := "closeSafe", fn := fun _ => fun
  | [d1, d2, d3] => { results := [.lit (.bool false)], args := [d1, d2, d3] }
  | _ => none }
def CloseSafeWrongFalsely : Prop := closeSafeRow.holds Tryz.pinned (OpenSpec.ofChange closeSafeWrong)

/-- 'stokvellaw32.CloseStays': WHATEVER THE INPUT: true; the input reads as it did. -/
def closeStaysSpec : ChangeSpec := { name := "closeStays", fn := fun _ => fun
  | [d1, d2, d3] => { results := [.lit (.bool true)], args := [d1, d2, d3] }
  | _ => none }
def closeStaysRow : OpenClaim := { program := "ytjkmalddfoemhaagreatdoor", sum := "c8f341cee4f51693118ea3fe0fe6b36f1b13a0532f87aa6099122cd3ca8c87f9", func := "stokvel/stokvellaw32.CloseStays", spec := "closeStays", inPlace := ["internal/bytealg.IndexByteString", "internal/bytealg.IndexString", "internal/abi.NoEscape"], unfollowed := true, recurses := true, named := ["stokvel/entry.uses", "internal/strconv.uint64pow10", "math/bits.deBruijn32tab", "math/bits.deBruijn64tab", "strconv.ErrSyntax", "strconv.ErrRange", "internal/bytealg.MaxLen"], plainKeys := false, apart := false, laid := [("math/bits.deBruijn32tab", laid_math_bits_deBruijn32tab), ("math/bits.deBruijn64tab", laid_math_bits_deBruijn64tab), ("internal/strconv.uint64pow10", laid_internal_strconv_uint64pow10), ("strconv.ErrRange", laid_strconv_ErrRange), ("strconv.ErrSyntax", laid_strconv_ErrSyntax), ("stokvel/entry.uses", laid_stokvel_entry_uses)] }
def CloseStaysSaid : Prop := closeStaysRow.holds Tryz.pinned (OpenSpec.ofChange closeStaysSpec)

/-- ITS FALSE NEIGHBOUR: 'it returns false'. Refute it at one input. -/
def closeStaysWrong : ChangeSpec := { name := "closeStays", fn := fun _ => fun
  | [d1, d2, d3] => { results := [.lit (.bool false)], args := [d1, d2, d3] }
  | _ => none }
def CloseStaysWrongFalsely : Prop := closeStaysRow.holds Tryz.pinned (OpenSpec.ofChange closeStaysWrong)

/-- 'stokvellaw32.CloseLocal': WHATEVER THE INPUT: true; the input reads as it did. -/
def closeLocalSpec : ChangeSpec := { name := "closeLocal", fn := fun _ => fun
  | [d1, d2, d3] => { results := [.lit (.bool true)], args := [d1, d2, d3] }
  | _ => none }
def closeLocalRow : OpenClaim := { program := "ytjkmalddfoemhaagreatdoor", sum := "c8f341cee4f51693118ea3fe0fe6b36f1b13a0532f87aa6099122cd3ca8c87f9", func := "stokvel/stokvellaw32.CloseLocal", spec := "closeLocal", inPlace := ["internal/bytealg.IndexByteString", "internal/bytealg.IndexString", "internal/abi.NoEscape"], unfollowed := true, recurses := true, named := ["stokvel/entry.uses", "internal/strconv.uint64pow10", "math/bits.deBruijn32tab", "math/bits.deBruijn64tab", "strconv.ErrSyntax", "strconv.ErrRange", "internal/bytealg.MaxLen"], plainKeys := false, apart := false, laid := [("math/bits.deBruijn32tab", laid_math_bits_deBruijn32tab), ("math/bits.deBruijn64tab", laid_math_bits_deBruijn64tab), ("internal/strconv.uint64pow10", laid_internal_strconv_uint64pow10), ("strconv.ErrRange", laid_strconv_ErrRange), ("strconv.ErrSyntax", laid_strconv_ErrSyntax), ("stokvel/entry.uses", laid_stokvel_entry_uses)] }
def CloseLocalSaid : Prop := closeLocalRow.holds Tryz.pinned (OpenSpec.ofChange closeLocalSpec)

/-- ITS FALSE NEIGHBOUR: 'it returns false'. Refute it at one input. -/
def closeLocalWrong : ChangeSpec := { name := "closeLocal", fn := fun _ => fun
  | [d1, d2, d3] => { results := [.lit (.bool false)], args := [d1, d2, d3] }
  | _ => none }
def CloseLocalWrongFalsely : Prop := closeLocalRow.holds Tryz.pinned (OpenSpec.ofChange closeLocalWrong)

/-- 'stokvellaw32.CloseDecides': WHATEVER THE INPUT: true; the input reads as it did. -/
def closeDecidesSpec : ChangeSpec := { name := "closeDecides", fn := fun _ => fun
  | [d1, d2, d3] => { results := [.lit (.bool true)], args := [d1, d2, d3] }
  | _ => none }
def closeDecidesRow : OpenClaim := { program := "ytjkmalddfoemhaagreatdoor", sum := "c8f341cee4f51693118ea3fe0fe6b36f1b13a0532f87aa6099122cd3ca8c87f9", func := "stokvel/stokvellaw32.CloseDecides", spec := "closeDecides", inPlace := ["internal/bytealg.IndexByteString", "internal/bytealg.IndexString", "internal/abi.NoEscape"], unfollowed := true, recurses := true, named := ["stokvel/entry.uses", "internal/strconv.uint64pow10", "math/bits.deBruijn32tab", "math/bits.deBruijn64tab", "strconv.ErrSyntax", "strconv.ErrRange", "internal/bytealg.MaxLen"], plainKeys := false, apart := false, laid := [("math/bits.deBruijn32tab", laid_math_bits_deBruijn32tab), ("math/bits.deBruijn64tab", laid_math_bits_deBruijn64tab), ("internal/strconv.uint64pow10", laid_internal_strconv_uint64pow10), ("strconv.ErrRange", laid_strconv_ErrRange), ("strconv.ErrSyntax", laid_strconv_ErrSyntax), ("stokvel/entry.uses", laid_stokvel_entry_uses)] }
def CloseDecidesSaid : Prop := closeDecidesRow.holds Tryz.pinned (OpenSpec.ofChange closeDecidesSpec)

/-- ITS FALSE NEIGHBOUR: 'it returns false'. Refute it at one input. -/
def closeDecidesWrong : ChangeSpec := { name := "closeDecides", fn := fun _ => fun
  | [d1, d2, d3] => { results := [.lit (.bool false)], args := [d1, d2, d3] }
  | _ => none }
def CloseDecidesWrongFalsely : Prop := closeDecidesRow.holds Tryz.pinned (OpenSpec.ofChange closeDecidesWrong)

/-- 'stokvellaw32.CloseTells': WHATEVER THE INPUT: true; the input reads as it did. -/
def closeTellsSpec : ChangeSpec := { name := "closeTells", fn := fun _ => fun
  | [d1, d2, d3, d4, d5] => { results := [.lit (.bool true)], args := [d1, d2, d3, d4, d5] }
  | _ => none }
def closeTellsRow : OpenClaim := { program := "ytjkmalddfoemhaagreatdoor", sum := "c8f341cee4f51693118ea3fe0fe6b36f1b13a0532f87aa6099122cd3ca8c87f9", func := "stokvel/stokvellaw32.CloseTells", spec := "closeTells", inPlace := ["internal/bytealg.IndexByteString", "internal/bytealg.IndexString", "internal/abi.NoEscape"], unfollowed := true, recurses := true, named := ["stokvel/entry.uses", "internal/strconv.uint64pow10", "math/bits.deBruijn32tab", "math/bits.deBruijn64tab", "strconv.ErrSyntax", "strconv.ErrRange", "internal/bytealg.MaxLen"], plainKeys := false, apart := false, laid := [("math/bits.deBruijn32tab", laid_math_bits_deBruijn32tab), ("math/bits.deBruijn64tab", laid_math_bits_deBruijn64tab), ("internal/strconv.uint64pow10", laid_internal_strconv_uint64pow10), ("strconv.ErrRange", laid_strconv_ErrRange), ("strconv.ErrSyntax", laid_strconv_ErrSyntax), ("stokvel/entry.uses", laid_stokvel_entry_uses)] }
def CloseTellsSaid : Prop := closeTellsRow.holds Tryz.pinned (OpenSpec.ofChange closeTellsSpec)

/-- ITS FALSE NEIGHBOUR: 'it returns false'. Refute it at one input. -/
def closeTellsWrong : ChangeSpec := { name := "closeTells", fn := fun _ => fun
  | [d1, d2, d3, d4, d5] => { results := [.lit (.bool false)], args := [d1, d2, d3, d4, d5] }
  | _ => none }
def CloseTellsWrongFalsely : Prop := closeTellsRow.holds Tryz.pinned (OpenSpec.ofChange closeTellsWrong)

/-- 'stokvellaw32.CloseNext': WHATEVER THE INPUT: true; the input reads as it did. -/
def closeNextSpec : ChangeSpec := { name := "closeNext", fn := fun _ => fun
  | [d1, d2, d3, d4] => { results := [.lit (.bool true)], args := [d1, d2, d3, d4] }
  | _ => none }
def closeNextRow : OpenClaim := { program := "ytjkmalddfoemhaagreatdoor", sum := "c8f341cee4f51693118ea3fe0fe6b36f1b13a0532f87aa6099122cd3ca8c87f9", func := "stokvel/stokvellaw32.CloseNext", spec := "closeNext", inPlace := ["internal/bytealg.IndexByteString", "internal/bytealg.IndexString", "internal/abi.NoEscape"], unfollowed := true, recurses := true, named := ["stokvel/entry.uses", "internal/strconv.uint64pow10", "math/bits.deBruijn32tab", "math/bits.deBruijn64tab", "strconv.ErrSyntax", "strconv.ErrRange", "internal/bytealg.MaxLen"], plainKeys := false, apart := false, laid := [("math/bits.deBruijn32tab", laid_math_bits_deBruijn32tab), ("math/bits.deBruijn64tab", laid_math_bits_deBruijn64tab), ("internal/strconv.uint64pow10", laid_internal_strconv_uint64pow10), ("strconv.ErrRange", laid_strconv_ErrRange), ("strconv.ErrSyntax", laid_strconv_ErrSyntax), ("stokvel/entry.uses", laid_stokvel_entry_uses)] }
def CloseNextSaid : Prop := closeNextRow.holds Tryz.pinned (OpenSpec.ofChange closeNextSpec)

/-- ITS FALSE NEIGHBOUR: 'it returns false'. Refute it at one input. -/
def closeNextWrong : ChangeSpec := { name := "closeNext", fn := fun _ => fun
  | [d1, d2, d3, d4] => { results := [.lit (.bool false)], args := [d1, d2, d3, d4] }
  | _ => none }
def CloseNextWrongFalsely : Prop := closeNextRow.holds Tryz.pinned (OpenSpec.ofChange closeNextWrong)

/- THE SECOND FORM. 'bulk': how many values and letters a reading holds, each counted each time it is reached (what is shared counts as often as it is met; a slice's spare places count too). A statement '..UptoSaid' is the law's where the arguments, and the package variables that the reading takes, are together of bulk at most 1048576: NARROWER than '..Said'. Prove '..Said' where nothing that the law and all that it calls make is longer than what came in: it says more and counts as full. Else prove '..UptoSaid'. A law counts once. -/
mutual
def uptoBulk {H : Type} : DataW H → Nat
  | .lit (.string bytes) => bytes.length + 1
  | .lit _ => 1
  | .nil => 1
  | .ptr d => uptoBulk d + 1
  | .slice elems spare => uptoBulkAll elems + uptoBulkAll spare + 1
  | .agg parts => uptoBulkAll parts + 1
  | .iface _ d => uptoBulk d + 1
  | .map entries => uptoBulkEntries entries + 1
  | .held _ => 1
def uptoBulkAll {H : Type} : List (DataW H) → Nat
  | [] => 0
  | d :: r => uptoBulk d + uptoBulkAll r
def uptoBulkEntries {H : Type} : List (Lit × DataW H) → Nat
  | [] => 0
  | x :: r => uptoBulkEntry x + uptoBulkEntries r
def uptoBulkEntry {H : Type} : Lit × DataW H → Nat
  | (.string bytes, d) => bytes.length + uptoBulk d + 1
  | (_, d) => uptoBulk d + 1
 end
def uptoSmall : (H : Type) → List (DataW H) → Bool := fun _ ds => decide (uptoBulkAll ds ≤ 1048576)
def OpenSpec.upto (s : _root_.Go.ChangeSpec) : _root_.Go.OpenSpec := { _root_.Go.OpenSpec.ofChange s with cond := some uptoSmall }

/-- 'stokvellaw12.ReconReads', WHERE WHAT IT READS IS OF BULK AT MOST 1048576: true; the input reads as it did. -/
def reconReadsUptoRow : OpenClaim := { program := "ytjkmalddfoemhaagreatdoor", sum := "c8f341cee4f51693118ea3fe0fe6b36f1b13a0532f87aa6099122cd3ca8c87f9", func := "stokvel/stokvellaw12.ReconReads", spec := "reconReads", inPlace := ["internal/bytealg.IndexByteString", "internal/bytealg.IndexString", "internal/abi.NoEscape"], unfollowed := true, recurses := true, named := ["stokvel/entry.uses", "internal/strconv.uint64pow10", "math/bits.deBruijn32tab", "math/bits.deBruijn64tab", "strconv.ErrSyntax", "strconv.ErrRange", "internal/bytealg.MaxLen"], plainKeys := false, apart := false, laid := [("math/bits.deBruijn32tab", laid_math_bits_deBruijn32tab), ("math/bits.deBruijn64tab", laid_math_bits_deBruijn64tab), ("internal/strconv.uint64pow10", laid_internal_strconv_uint64pow10), ("strconv.ErrRange", laid_strconv_ErrRange), ("strconv.ErrSyntax", laid_strconv_ErrSyntax), ("stokvel/entry.uses", laid_stokvel_entry_uses)], narrowed := true }
def ReconReadsUptoSaid : Prop := reconReadsUptoRow.holds Tryz.pinned (OpenSpec.upto reconReadsSpec)

/-- 'stokvellaw12.ReconTakes', WHERE WHAT IT READS IS OF BULK AT MOST 1048576: true; the input reads as it did. -/
def reconTakesUptoRow : OpenClaim := { program := "ytjkmalddfoemhaagreatdoor", sum := "c8f341cee4f51693118ea3fe0fe6b36f1b13a0532f87aa6099122cd3ca8c87f9", func := "stokvel/stokvellaw12.ReconTakes", spec := "reconTakes", inPlace := ["internal/bytealg.IndexByteString", "internal/bytealg.IndexString", "internal/abi.NoEscape"], unfollowed := true, recurses := true, named := ["stokvel/entry.uses", "internal/strconv.uint64pow10", "math/bits.deBruijn32tab", "math/bits.deBruijn64tab", "strconv.ErrSyntax", "strconv.ErrRange", "internal/bytealg.MaxLen"], plainKeys := false, apart := false, laid := [("math/bits.deBruijn32tab", laid_math_bits_deBruijn32tab), ("math/bits.deBruijn64tab", laid_math_bits_deBruijn64tab), ("internal/strconv.uint64pow10", laid_internal_strconv_uint64pow10), ("strconv.ErrRange", laid_strconv_ErrRange), ("strconv.ErrSyntax", laid_strconv_ErrSyntax), ("stokvel/entry.uses", laid_stokvel_entry_uses)], narrowed := true }
def ReconTakesUptoSaid : Prop := reconTakesUptoRow.holds Tryz.pinned (OpenSpec.upto reconTakesSpec)

/-- 'stokvellaw12.ReconGives', WHERE WHAT IT READS IS OF BULK AT MOST 1048576: true; the input reads as it did. -/
def reconGivesUptoRow : OpenClaim := { program := "ytjkmalddfoemhaagreatdoor", sum := "c8f341cee4f51693118ea3fe0fe6b36f1b13a0532f87aa6099122cd3ca8c87f9", func := "stokvel/stokvellaw12.ReconGives", spec := "reconGives", inPlace := ["internal/bytealg.IndexByteString", "internal/bytealg.IndexString", "internal/abi.NoEscape"], unfollowed := true, recurses := true, named := ["stokvel/entry.uses", "internal/strconv.uint64pow10", "math/bits.deBruijn32tab", "math/bits.deBruijn64tab", "strconv.ErrSyntax", "strconv.ErrRange", "internal/bytealg.MaxLen"], plainKeys := false, apart := false, laid := [("math/bits.deBruijn32tab", laid_math_bits_deBruijn32tab), ("math/bits.deBruijn64tab", laid_math_bits_deBruijn64tab), ("internal/strconv.uint64pow10", laid_internal_strconv_uint64pow10), ("strconv.ErrRange", laid_strconv_ErrRange), ("strconv.ErrSyntax", laid_strconv_ErrSyntax), ("stokvel/entry.uses", laid_stokvel_entry_uses)], narrowed := true }
def ReconGivesUptoSaid : Prop := reconGivesUptoRow.holds Tryz.pinned (OpenSpec.upto reconGivesSpec)

/-- 'stokvellaw33.OrderTells', WHERE WHAT IT READS IS OF BULK AT MOST 1048576: true; the input reads as it did. -/
def orderTellsUptoRow : OpenClaim := { program := "ytjkmalddfoemhaagreatdoor", sum := "c8f341cee4f51693118ea3fe0fe6b36f1b13a0532f87aa6099122cd3ca8c87f9", func := "stokvel/stokvellaw33.OrderTells", spec := "orderTells", inPlace := ["internal/bytealg.IndexByteString", "internal/bytealg.IndexString", "internal/abi.NoEscape"], unfollowed := true, recurses := true, named := ["stokvel/entry.uses", "internal/strconv.uint64pow10", "math/bits.deBruijn32tab", "math/bits.deBruijn64tab", "strconv.ErrSyntax", "strconv.ErrRange", "internal/bytealg.MaxLen"], plainKeys := false, apart := false, laid := [("math/bits.deBruijn32tab", laid_math_bits_deBruijn32tab), ("math/bits.deBruijn64tab", laid_math_bits_deBruijn64tab), ("internal/strconv.uint64pow10", laid_internal_strconv_uint64pow10), ("strconv.ErrRange", laid_strconv_ErrRange), ("strconv.ErrSyntax", laid_strconv_ErrSyntax), ("stokvel/entry.uses", laid_stokvel_entry_uses)], narrowed := true }
def OrderTellsUptoSaid : Prop := orderTellsUptoRow.holds Tryz.pinned (OpenSpec.upto orderTellsSpec)

/-- 'stokvellaw33.OrderKnows', WHERE WHAT IT READS IS OF BULK AT MOST 1048576: true; the input reads as it did. -/
def orderKnowsUptoRow : OpenClaim := { program := "ytjkmalddfoemhaagreatdoor", sum := "c8f341cee4f51693118ea3fe0fe6b36f1b13a0532f87aa6099122cd3ca8c87f9", func := "stokvel/stokvellaw33.OrderKnows", spec := "orderKnows", inPlace := ["internal/bytealg.IndexByteString", "internal/bytealg.IndexString", "internal/abi.NoEscape"], unfollowed := true, recurses := true, named := ["stokvel/entry.uses", "internal/strconv.uint64pow10", "math/bits.deBruijn32tab", "math/bits.deBruijn64tab", "strconv.ErrSyntax", "strconv.ErrRange", "internal/bytealg.MaxLen"], plainKeys := false, apart := false, laid := [("math/bits.deBruijn32tab", laid_math_bits_deBruijn32tab), ("math/bits.deBruijn64tab", laid_math_bits_deBruijn64tab), ("internal/strconv.uint64pow10", laid_internal_strconv_uint64pow10), ("strconv.ErrRange", laid_strconv_ErrRange), ("strconv.ErrSyntax", laid_strconv_ErrSyntax), ("stokvel/entry.uses", laid_stokvel_entry_uses)], narrowed := true }
def OrderKnowsUptoSaid : Prop := orderKnowsUptoRow.holds Tryz.pinned (OpenSpec.upto orderKnowsSpec)

/-- 'stokvellaw33.OrderCame', WHERE WHAT IT READS IS OF BULK AT MOST 1048576: true; the input reads as it did. -/
def orderCameUptoRow : OpenClaim := { program := "ytjkmalddfoemhaagreatdoor", sum := "c8f341cee4f51693118ea3fe0fe6b36f1b13a0532f87aa6099122cd3ca8c87f9", func := "stokvel/stokvellaw33.OrderCame", spec := "orderCame", inPlace := ["internal/bytealg.IndexByteString", "internal/bytealg.IndexString", "internal/abi.NoEscape"], unfollowed := true, recurses := true, named := ["stokvel/entry.uses", "internal/strconv.uint64pow10", "math/bits.deBruijn32tab", "math/bits.deBruijn64tab", "strconv.ErrSyntax", "strconv.ErrRange", "internal/bytealg.MaxLen"], plainKeys := false, apart := false, laid := [("math/bits.deBruijn32tab", laid_math_bits_deBruijn32tab), ("math/bits.deBruijn64tab", laid_math_bits_deBruijn64tab), ("internal/strconv.uint64pow10", laid_internal_strconv_uint64pow10), ("strconv.ErrRange", laid_strconv_ErrRange), ("strconv.ErrSyntax", laid_strconv_ErrSyntax), ("stokvel/entry.uses", laid_stokvel_entry_uses)], narrowed := true }
def OrderCameUptoSaid : Prop := orderCameUptoRow.holds Tryz.pinned (OpenSpec.upto orderCameSpec)

/-- 'stokvellaw33.OrderStays', WHERE WHAT IT READS IS OF BULK AT MOST 1048576: true; the input reads as it did. -/
def orderStaysUptoRow : OpenClaim := { program := "ytjkmalddfoemhaagreatdoor", sum := "c8f341cee4f51693118ea3fe0fe6b36f1b13a0532f87aa6099122cd3ca8c87f9", func := "stokvel/stokvellaw33.OrderStays", spec := "orderStays", inPlace := ["internal/bytealg.IndexByteString", "internal/bytealg.IndexString", "internal/abi.NoEscape"], unfollowed := true, recurses := true, named := ["stokvel/entry.uses", "internal/strconv.uint64pow10", "math/bits.deBruijn32tab", "math/bits.deBruijn64tab", "strconv.ErrSyntax", "strconv.ErrRange", "internal/bytealg.MaxLen"], plainKeys := false, apart := false, laid := [("math/bits.deBruijn32tab", laid_math_bits_deBruijn32tab), ("math/bits.deBruijn64tab", laid_math_bits_deBruijn64tab), ("internal/strconv.uint64pow10", laid_internal_strconv_uint64pow10), ("strconv.ErrRange", laid_strconv_ErrRange), ("strconv.ErrSyntax", laid_strconv_ErrSyntax), ("stokvel/entry.uses", laid_stokvel_entry_uses)], narrowed := true }
def OrderStaysUptoSaid : Prop := orderStaysUptoRow.holds Tryz.pinned (OpenSpec.upto orderStaysSpec)

/-- 'stokvellaw32.CloseSafe', WHERE WHAT IT READS IS OF BULK AT MOST 1048576: true; the input reads as it did. -/
def closeSafeUptoRow : OpenClaim := { program := "ytjkmalddfoemhaagreatdoor", sum := "c8f341cee4f51693118ea3fe0fe6b36f1b13a0532f87aa6099122cd3ca8c87f9", func := "stokvel/stokvellaw32.CloseSafe", spec := "closeSafe", inPlace := ["internal/bytealg.IndexByteString", "internal/bytealg.IndexString", "internal/abi.NoEscape"], unfollowed := true, recurses := true, named := ["stokvel/entry.uses", "internal/strconv.uint64pow10", "math/bits.deBruijn32tab", "math/bits.deBruijn64tab", "strconv.ErrSyntax", "strconv.ErrRange", "internal/bytealg.MaxLen"], plainKeys := false, apart := false, laid := [("math/bits.deBruijn32tab", laid_math_bits_deBruijn32tab), ("math/bits.deBruijn64tab", laid_math_bits_deBruijn64tab), ("internal/strconv.uint64pow10", laid_internal_strconv_uint64pow10), ("strconv.ErrRange", laid_strconv_ErrRange), ("strconv.ErrSyntax", laid_strconv_ErrSyntax), ("stokvel/entry.uses", laid_stokvel_entry_uses)], narrowed := true }
def CloseSafeUptoSaid : Prop := closeSafeUptoRow.holds Tryz.pinned (OpenSpec.upto closeSafeSpec)

/-- 'stokvellaw32.CloseStays', WHERE WHAT IT READS IS OF BULK AT MOST 1048576: true; the input reads as it did. -/
def closeStaysUptoRow : OpenClaim := { program := "ytjkmalddfoemhaagreatdoor", sum := "c8f341cee4f51693118ea3fe0fe6b36f1b13a0532f87aa6099122cd3ca8c87f9", func := "stokvel/stokvellaw32.CloseStays", spec := "closeStays", inPlace := ["internal/bytealg.IndexByteString", "internal/bytealg.IndexString", "internal/abi.NoEscape"], unfollowed := true, recurses := true, named := ["stokvel/entry.uses", "internal/strconv.uint64pow10", "math/bits.deBruijn32tab", "math/bits.deBruijn64tab", "strconv.ErrSyntax", "strconv.ErrRange", "internal/bytealg.MaxLen"], plainKeys := false, apart := false, laid := [("math/bits.deBruijn32tab", laid_math_bits_deBruijn32tab), ("math/bits.deBruijn64tab", laid_math_bits_deBruijn64tab), ("internal/strconv.uint64pow10", laid_internal_strconv_uint64pow10), ("strconv.ErrRange", laid_strconv_ErrRange), ("strconv.ErrSyntax", laid_strconv_ErrSyntax), ("stokvel/entry.uses", laid_stokvel_entry_uses)], narrowed := true }
def CloseStaysUptoSaid : Prop := closeStaysUptoRow.holds Tryz.pinned (OpenSpec.upto closeStaysSpec)

/-- 'stokvellaw32.CloseLocal', WHERE WHAT IT READS IS OF BULK AT MOST 1048576: true; the input reads as it did. -/
def closeLocalUptoRow : OpenClaim := { program := "ytjkmalddfoemhaagreatdoor", sum := "c8f341cee4f51693118ea3fe0fe6b36f1b13a0532f87aa6099122cd3ca8c87f9", func := "stokvel/stokvellaw32.CloseLocal", spec := "closeLocal", inPlace := ["internal/bytealg.IndexByteString", "internal/bytealg.IndexString", "internal/abi.NoEscape"], unfollowed := true, recurses := true, named := ["stokvel/entry.uses", "internal/strconv.uint64pow10", "math/bits.deBruijn32tab", "math/bits.deBruijn64tab", "strconv.ErrSyntax", "strconv.ErrRange", "internal/bytealg.MaxLen"], plainKeys := false, apart := false, laid := [("math/bits.deBruijn32tab", laid_math_bits_deBruijn32tab), ("math/bits.deBruijn64tab", laid_math_bits_deBruijn64tab), ("internal/strconv.uint64pow10", laid_internal_strconv_uint64pow10), ("strconv.ErrRange", laid_strconv_ErrRange), ("strconv.ErrSyntax", laid_strconv_ErrSyntax), ("stokvel/entry.uses", laid_stokvel_entry_uses)], narrowed := true }
def CloseLocalUptoSaid : Prop := closeLocalUptoRow.holds Tryz.pinned (OpenSpec.upto closeLocalSpec)

/-- 'stokvellaw32.CloseDecides', WHERE WHAT IT READS IS OF BULK AT MOST 1048576: true; the input reads as it did. -/
def closeDecidesUptoRow : OpenClaim := { program := "ytjkmalddfoemhaagreatdoor", sum := "c8f341cee4f51693118ea3fe0fe6b36f1b13a0532f87aa6099122cd3ca8c87f9", func := "stokvel/stokvellaw32.CloseDecides", spec := "closeDecides", inPlace := ["internal/bytealg.IndexByteString", "internal/bytealg.IndexString", "internal/abi.NoEscape"], unfollowed := true, recurses := true, named := ["stokvel/entry.uses", "internal/strconv.uint64pow10", "math/bits.deBruijn32tab", "math/bits.deBruijn64tab", "strconv.ErrSyntax", "strconv.ErrRange", "internal/bytealg.MaxLen"], plainKeys := false, apart := false, laid := [("math/bits.deBruijn32tab", laid_math_bits_deBruijn32tab), ("math/bits.deBruijn64tab", laid_math_bits_deBruijn64tab), ("internal/strconv.uint64pow10", laid_internal_strconv_uint64pow10), ("strconv.ErrRange", laid_strconv_ErrRange), ("strconv.ErrSyntax", laid_strconv_ErrSyntax), ("stokvel/entry.uses", laid_stokvel_entry_uses)], narrowed := true }
def CloseDecidesUptoSaid : Prop := closeDecidesUptoRow.holds Tryz.pinned (OpenSpec.upto closeDecidesSpec)

/-- 'stokvellaw32.CloseTells', WHERE WHAT IT READS IS OF BULK AT MOST 1048576: true; the input reads as it did. -/
def closeTellsUptoRow : OpenClaim := { program := "ytjkmalddfoemhaagreatdoor", sum := "c8f341cee4f51693118ea3fe0fe6b36f1b13a0532f87aa6099122cd3ca8c87f9", func := "stokvel/stokvellaw32.CloseTells", spec := "closeTells", inPlace := ["internal/bytealg.IndexByteString", "internal/bytealg.IndexString", "internal/abi.NoEscape"], unfollowed := true, recurses := true, named := ["stokvel/entry.uses", "internal/strconv.uint64pow10", "math/bits.deBruijn32tab", "math/bits.deBruijn64tab", "strconv.ErrSyntax", "strconv.ErrRange", "internal/bytealg.MaxLen"], plainKeys := false, apart := false, laid := [("math/bits.deBruijn32tab", laid_math_bits_deBruijn32tab), ("math/bits.deBruijn64tab", laid_math_bits_deBruijn64tab), ("internal/strconv.uint64pow10", laid_internal_strconv_uint64pow10), ("strconv.ErrRange", laid_strconv_ErrRange), ("strconv.ErrSyntax", laid_strconv_ErrSyntax), ("stokvel/entry.uses", laid_stokvel_entry_uses)], narrowed := true }
def CloseTellsUptoSaid : Prop := closeTellsUptoRow.holds Tryz.pinned (OpenSpec.upto closeTellsSpec)

/-- 'stokvellaw32.CloseNext', WHERE WHAT IT READS IS OF BULK AT MOST 1048576: true; the input reads as it did. -/
def closeNextUptoRow : OpenClaim := { program := "ytjkmalddfoemhaagreatdoor", sum := "c8f341cee4f51693118ea3fe0fe6b36f1b13a0532f87aa6099122cd3ca8c87f9", func := "stokvel/stokvellaw32.CloseNext", spec := "closeNext", inPlace := ["internal/bytealg.IndexByteString", "internal/bytealg.IndexString", "internal/abi.NoEscape"], unfollowed := true, recurses := true, named := ["stokvel/entry.uses", "internal/strconv.uint64pow10", "math/bits.deBruijn32tab", "math/bits.deBruijn64tab", "strconv.ErrSyntax", "strconv.ErrRange", "internal/bytealg.MaxLen"], plainKeys := false, apart := false, laid := [("math/bits.deBruijn32tab", laid_math_bits_deBruijn32tab), ("math/bits.deBruijn64tab", laid_math_bits_deBruijn64tab), ("internal/strconv.uint64pow10", laid_internal_strconv_uint64pow10), ("strconv.ErrRange", laid_strconv_ErrRange), ("strconv.ErrSyntax", laid_strconv_ErrSyntax), ("stokvel/entry.uses", laid_stokvel_entry_uses)], narrowed := true }
def CloseNextUptoSaid : Prop := closeNextUptoRow.holds Tryz.pinned (OpenSpec.upto closeNextSpec)

end Rows
end Go.Proofs.YtjkmalddfoemhaaGreatDoor
