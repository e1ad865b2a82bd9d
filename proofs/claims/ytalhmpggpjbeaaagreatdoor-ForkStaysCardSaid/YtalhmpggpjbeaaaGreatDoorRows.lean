/-
  NARROWER THAN 'FOR EVERY INPUT', by the rows' own cells (each row's printed sentence says how): DagRefuses: laid · DagOrders: laid · DagParts: laid · DagPast: laid · DagSorted: laid · DagTells: laid · ForkTells: laid · ForkConvicts: laid · ForkStays: laid · ForkHonest: laid.
  DERIVED. THE GIVEN ROWS OF THIS SEAT. 10 by the template 'for every input the law returns true; each argument reads behind the call as it read before'; 0 by the template 'total and deterministic' (their statements: YtalhmpggpjbeaaaGreatDoorTotals.lean).
  GIVEN WITH THE SEED: the statements are not yours to turn. If you find one false, say at which input.
  Laid BY PROGRAM, IN A SANDBOX (cutbox-rows.mjs): the forced cells as the released guide's own fill.sh prints them over the translation 357979d738edda77… (all of the seat's roots in one cut). By AI agents, Wed Nov 11 2026. No macro, syntax, notation, axiom, sorry.
-/
import Derived.Test.YtalhmpggpjbeaaaGreatDoorChecked
import GoSem.Claim
import GoSem.ClaimJoined
import GoSem.ClaimMapViews
import Derived.JoinedTies
import Derived.KernelRfl
namespace Go.Proofs.YtalhmpggpjbeaaaGreatDoor
/- THE CELL 'sum', in the pinned program and in every row, IS THE sha256 OF THE DUMP (.gsa) THAT YtalhmpggpjbeaaaGreatDoorProg.lean LOADS. Nothing in Lean hashes anything: it is a label: what it is worth is what the hold of that sum in a sandbox is worth. -/
noncomputable def Tryz.pinned : Pinned := { name := "ytalhmpggpjbeaaagreatdoor", sum := "357979d738edda779f894063370a1d1ad66aeda7ea45a8f98f11185d5df567a3", checked := Tryz.checked }
namespace Rows
def none {H : Type} : Left H := { results := [], args := [] }

/- WHAT THE LISTED PACKAGE-LEVEL VARIABLES READ AS WHEN THE CALL BEGINS. Each datum BY PROGRAM (the guide's laid-datum.mjs) off the statement by which the dump's own 'gosem.cut.vars' lays the variable. In a bare row this is a premise. The card (YtalhmpggpjbeaaaGreatDoorCards.lean) ties it to the program's text. -/
def laid_math_bits_deBruijn32tab {H : Type} : DataW H := .agg [.lit (.int .u8 0), .lit (.int .u8 1), .lit (.int .u8 28), .lit (.int .u8 2), .lit (.int .u8 29), .lit (.int .u8 14), .lit (.int .u8 24), .lit (.int .u8 3), .lit (.int .u8 30), .lit (.int .u8 22), .lit (.int .u8 20), .lit (.int .u8 15), .lit (.int .u8 25), .lit (.int .u8 17), .lit (.int .u8 4), .lit (.int .u8 8), .lit (.int .u8 31), .lit (.int .u8 27), .lit (.int .u8 13), .lit (.int .u8 23), .lit (.int .u8 21), .lit (.int .u8 19), .lit (.int .u8 16), .lit (.int .u8 7), .lit (.int .u8 26), .lit (.int .u8 12), .lit (.int .u8 18), .lit (.int .u8 6), .lit (.int .u8 11), .lit (.int .u8 5), .lit (.int .u8 10), .lit (.int .u8 9)]
def laid_math_bits_deBruijn64tab {H : Type} : DataW H := .agg [.lit (.int .u8 0), .lit (.int .u8 1), .lit (.int .u8 56), .lit (.int .u8 2), .lit (.int .u8 57), .lit (.int .u8 49), .lit (.int .u8 28), .lit (.int .u8 3), .lit (.int .u8 61), .lit (.int .u8 58), .lit (.int .u8 42), .lit (.int .u8 50), .lit (.int .u8 38), .lit (.int .u8 29), .lit (.int .u8 17), .lit (.int .u8 4), .lit (.int .u8 62), .lit (.int .u8 47), .lit (.int .u8 59), .lit (.int .u8 36), .lit (.int .u8 45), .lit (.int .u8 43), .lit (.int .u8 51), .lit (.int .u8 22), .lit (.int .u8 53), .lit (.int .u8 39), .lit (.int .u8 33), .lit (.int .u8 30), .lit (.int .u8 24), .lit (.int .u8 18), .lit (.int .u8 12), .lit (.int .u8 5), .lit (.int .u8 63), .lit (.int .u8 55), .lit (.int .u8 48), .lit (.int .u8 27), .lit (.int .u8 60), .lit (.int .u8 41), .lit (.int .u8 37), .lit (.int .u8 16), .lit (.int .u8 46), .lit (.int .u8 35), .lit (.int .u8 44), .lit (.int .u8 21), .lit (.int .u8 52), .lit (.int .u8 32), .lit (.int .u8 23), .lit (.int .u8 11), .lit (.int .u8 54), .lit (.int .u8 26), .lit (.int .u8 40), .lit (.int .u8 15), .lit (.int .u8 34), .lit (.int .u8 20), .lit (.int .u8 31), .lit (.int .u8 10), .lit (.int .u8 25), .lit (.int .u8 14), .lit (.int .u8 19), .lit (.int .u8 9), .lit (.int .u8 13), .lit (.int .u8 8), .lit (.int .u8 7), .lit (.int .u8 6)]
def laid_internal_strconv_uint64pow10 {H : Type} : DataW H := .agg [.lit (.int .u64 1), .lit (.int .u64 10), .lit (.int .u64 100), .lit (.int .u64 1000), .lit (.int .u64 10000), .lit (.int .u64 100000), .lit (.int .u64 1000000), .lit (.int .u64 10000000), .lit (.int .u64 100000000), .lit (.int .u64 1000000000), .lit (.int .u64 10000000000), .lit (.int .u64 100000000000), .lit (.int .u64 1000000000000), .lit (.int .u64 10000000000000), .lit (.int .u64 100000000000000), .lit (.int .u64 1000000000000000), .lit (.int .u64 10000000000000000), .lit (.int .u64 100000000000000000), .lit (.int .u64 1000000000000000000), .lit (.int .u64 10000000000000000000)]
def laid_strconv_ErrRange {H : Type} : DataW H := .iface "*errors.errorString" (.ptr (.agg [.lit (.string [118, 97, 108, 117, 101, 32, 111, 117, 116, 32, 111, 102, 32, 114, 97, 110, 103, 101])]))
def laid_strconv_ErrSyntax {H : Type} : DataW H := .iface "*errors.errorString" (.ptr (.agg [.lit (.string [105, 110, 118, 97, 108, 105, 100, 32, 115, 121, 110, 116, 97, 120])]))
def laid_stokvel_entry_uses {H : Type} : DataW H := .agg [.lit (.string [107, 116]), .lit (.string [99]), .lit (.string [99]), .lit (.string [99, 119, 110, 109]), .lit (.string [110, 114]), .lit (.string [119, 115]), .lit (.string [119, 109, 115]), .lit (.string [99, 119, 109, 114, 115]), .lit (.string [99, 110, 109, 114]), .lit (.string [110, 114]), .lit (.string [99, 110, 109, 116]), .lit (.string [114, 116]), .lit (.string [110, 114]), .lit (.string [114]), .lit (.string [99, 116]), .lit (.string [119, 110]), .lit (.string [99, 109]), .lit (.string [99, 107]), .lit (.string [110, 109, 114]), .lit (.string [110, 109, 114]), .lit (.string [110, 109, 114])]

/-- 'stokvellaw08.DagRefuses': WHATEVER THE INPUT: true; the input reads as it did. -/
def dagRefusesSpec : ChangeSpec := { name := "dagRefuses", fn := fun _ => fun
  | [d] => { results := [.lit (.bool true)], args := [d] }
  | _ => none }
def dagRefusesRow : OpenClaim := { program := "ytalhmpggpjbeaaagreatdoor", sum := "357979d738edda779f894063370a1d1ad66aeda7ea45a8f98f11185d5df567a3", func := "stokvel/stokvellaw08.DagRefuses", spec := "dagRefuses", inPlace := ["internal/bytealg.IndexByteString", "internal/bytealg.IndexString", "internal/abi.NoEscape"], unfollowed := true, recurses := true, named := ["stokvel/entry.uses", "internal/strconv.uint64pow10", "math/bits.deBruijn32tab", "math/bits.deBruijn64tab", "strconv.ErrSyntax", "strconv.ErrRange", "internal/bytealg.MaxLen"], plainKeys := false, apart := false, laid := [("math/bits.deBruijn32tab", laid_math_bits_deBruijn32tab), ("math/bits.deBruijn64tab", laid_math_bits_deBruijn64tab), ("internal/strconv.uint64pow10", laid_internal_strconv_uint64pow10), ("strconv.ErrRange", laid_strconv_ErrRange), ("strconv.ErrSyntax", laid_strconv_ErrSyntax), ("stokvel/entry.uses", laid_stokvel_entry_uses)] }
def DagRefusesSaid : Prop := dagRefusesRow.holds Tryz.pinned (OpenSpec.ofChange dagRefusesSpec)

/-- ITS FALSE NEIGHBOUR: 'it returns false'. Refute it at one input. -/
def dagRefusesWrong : ChangeSpec := { name := "dagRefuses", fn := fun _ => fun
  | [d] => { results := [.lit (.bool false)], args := [d] }
  | _ => none }
def DagRefusesWrongFalsely : Prop := dagRefusesRow.holds Tryz.pinned (OpenSpec.ofChange dagRefusesWrong)

/-- 'stokvellaw08.DagOrders': WHATEVER THE INPUT: true; the input reads as it did. -/
def dagOrdersSpec : ChangeSpec := { name := "dagOrders", fn := fun _ => fun
  | [d1, d2] => { results := [.lit (.bool true)], args := [d1, d2] }
  | _ => none }
def dagOrdersRow : OpenClaim := { program := "ytalhmpggpjbeaaagreatdoor", sum := "357979d738edda779f894063370a1d1ad66aeda7ea45a8f98f11185d5df567a3", func := "stokvel/stokvellaw08.DagOrders", spec := "dagOrders", inPlace := ["internal/bytealg.IndexByteString", "internal/bytealg.IndexString", "internal/abi.NoEscape"], unfollowed := true, recurses := true, named := ["stokvel/entry.uses", "internal/strconv.uint64pow10", "math/bits.deBruijn32tab", "math/bits.deBruijn64tab", "strconv.ErrSyntax", "strconv.ErrRange", "internal/bytealg.MaxLen"], plainKeys := false, apart := false, laid := [("math/bits.deBruijn32tab", laid_math_bits_deBruijn32tab), ("math/bits.deBruijn64tab", laid_math_bits_deBruijn64tab), ("internal/strconv.uint64pow10", laid_internal_strconv_uint64pow10), ("strconv.ErrRange", laid_strconv_ErrRange), ("strconv.ErrSyntax", laid_strconv_ErrSyntax), ("stokvel/entry.uses", laid_stokvel_entry_uses)] }
def DagOrdersSaid : Prop := dagOrdersRow.holds Tryz.pinned (OpenSpec.ofChange dagOrdersSpec)

/-- ITS FALSE NEIGHBOUR: 'it returns false'. Refute it at one input. -/
def dagOrdersWrong : ChangeSpec := { name := "dagOrders", fn := fun _ => fun
  | [d1, d2] => { results := [.lit (.bool false)], args := [d1, d2] }
  | _ => none }
def DagOrdersWrongFalsely : Prop := dagOrdersRow.holds Tryz.pinned (OpenSpec.ofChange dagOrdersWrong)

/-- 'stokvellaw08.DagParts': WHATEVER THE INPUT: true; the input reads as it did. -/
def dagPartsSpec : ChangeSpec := { name := "dagParts", fn := fun _ => fun
  | [d1, d2, d3] => { results := [.lit (.bool true)], args := [d1, d2, d3] }
  | _ => none }
def dagPartsRow : OpenClaim := { program := "ytalhmpggpjbeaaagreatdoor", sum := "357979d738edda779f894063370a1d1ad66aeda7ea45a8f98f11185d5df567a3", func := "stokvel/stokvellaw08.DagParts", spec := "dagParts", inPlace := ["internal/bytealg.IndexByteString", "internal/bytealg.IndexString", "internal/abi.NoEscape"], unfollowed := true, recurses := true, named := ["stokvel/entry.uses", "internal/strconv.uint64pow10", "math/bits.deBruijn32tab", "math/bits.deBruijn64tab", "strconv.ErrSyntax", "strconv.ErrRange", "internal/bytealg.MaxLen"], plainKeys := false, apart := false, laid := [("math/bits.deBruijn32tab", laid_math_bits_deBruijn32tab), ("math/bits.deBruijn64tab", laid_math_bits_deBruijn64tab), ("internal/strconv.uint64pow10", laid_internal_strconv_uint64pow10), ("strconv.ErrRange", laid_strconv_ErrRange), ("strconv.ErrSyntax", laid_strconv_ErrSyntax), ("stokvel/entry.uses", laid_stokvel_entry_uses)] }
def DagPartsSaid : Prop := dagPartsRow.holds Tryz.pinned (OpenSpec.ofChange dagPartsSpec)

/-- ITS FALSE NEIGHBOUR: 'it returns false'. Refute it at one input. -/
def dagPartsWrong : ChangeSpec := { name := "dagParts", fn := fun _ => fun
  | [d1, d2, d3] => { results := [.lit (.bool false)], args := [d1, d2, d3] }
  | _ => none }
def DagPartsWrongFalsely : Prop := dagPartsRow.holds Tryz.pinned (OpenSpec.ofChange dagPartsWrong)

/-- 'stokvellaw08.DagPast': WHATEVER THE INPUT: true; the input reads as it did. -/
def dagPastSpec : ChangeSpec := { name := "dagPast", fn := fun _ => fun
  | [d] => { results := [.lit (.bool true)], args := [d] }
  | _ => none }
def dagPastRow : OpenClaim := { program := "ytalhmpggpjbeaaagreatdoor", sum := "357979d738edda779f894063370a1d1ad66aeda7ea45a8f98f11185d5df567a3", func := "stokvel/stokvellaw08.DagPast", spec := "dagPast", inPlace := ["internal/bytealg.IndexByteString", "internal/bytealg.IndexString", "internal/abi.NoEscape"], unfollowed := true, recurses := true, named := ["stokvel/entry.uses", "internal/strconv.uint64pow10", "math/bits.deBruijn32tab", "math/bits.deBruijn64tab", "strconv.ErrSyntax", "strconv.ErrRange", "internal/bytealg.MaxLen"], plainKeys := false, apart := false, laid := [("math/bits.deBruijn32tab", laid_math_bits_deBruijn32tab), ("math/bits.deBruijn64tab", laid_math_bits_deBruijn64tab), ("internal/strconv.uint64pow10", laid_internal_strconv_uint64pow10), ("strconv.ErrRange", laid_strconv_ErrRange), ("strconv.ErrSyntax", laid_strconv_ErrSyntax), ("stokvel/entry.uses", laid_stokvel_entry_uses)] }
def DagPastSaid : Prop := dagPastRow.holds Tryz.pinned (OpenSpec.ofChange dagPastSpec)

/-- ITS FALSE NEIGHBOUR: 'it returns false'. Refute it at one input. -/
def dagPastWrong : ChangeSpec := { name := "dagPast", fn := fun _ => fun
  | [d] => { results := [.lit (.bool false)], args := [d] }
  | _ => none }
def DagPastWrongFalsely : Prop := dagPastRow.holds Tryz.pinned (OpenSpec.ofChange dagPastWrong)

/-- 'stokvellaw08.DagSorted': WHATEVER THE INPUT: true; the input reads as it did. -/
def dagSortedSpec : ChangeSpec := { name := "dagSorted", fn := fun _ => fun
  | [d1, d2] => { results := [.lit (.bool true)], args := [d1, d2] }
  | _ => none }
def dagSortedRow : OpenClaim := { program := "ytalhmpggpjbeaaagreatdoor", sum := "357979d738edda779f894063370a1d1ad66aeda7ea45a8f98f11185d5df567a3", func := "stokvel/stokvellaw08.DagSorted", spec := "dagSorted", inPlace := ["internal/bytealg.IndexByteString", "internal/bytealg.IndexString", "internal/abi.NoEscape"], unfollowed := true, recurses := true, named := ["stokvel/entry.uses", "internal/strconv.uint64pow10", "math/bits.deBruijn32tab", "math/bits.deBruijn64tab", "strconv.ErrSyntax", "strconv.ErrRange", "internal/bytealg.MaxLen"], plainKeys := false, apart := false, laid := [("math/bits.deBruijn32tab", laid_math_bits_deBruijn32tab), ("math/bits.deBruijn64tab", laid_math_bits_deBruijn64tab), ("internal/strconv.uint64pow10", laid_internal_strconv_uint64pow10), ("strconv.ErrRange", laid_strconv_ErrRange), ("strconv.ErrSyntax", laid_strconv_ErrSyntax), ("stokvel/entry.uses", laid_stokvel_entry_uses)] }
def DagSortedSaid : Prop := dagSortedRow.holds Tryz.pinned (OpenSpec.ofChange dagSortedSpec)

/-- ITS FALSE NEIGHBOUR: 'it returns false'. Refute it at one input. -/
def dagSortedWrong : ChangeSpec := { name := "dagSorted", fn := fun _ => fun
  | [d1, d2] => { results := [.lit (.bool false)], args := [d1, d2] }
  | _ => none }
def DagSortedWrongFalsely : Prop := dagSortedRow.holds Tryz.pinned (OpenSpec.ofChange dagSortedWrong)

/-- 'stokvellaw08.DagTells': WHATEVER THE INPUT: true; the input reads as it did. -/
def dagTellsSpec : ChangeSpec := { name := "dagTells", fn := fun _ => fun
  | [d1, d2, d3, d4] => { results := [.lit (.bool true)], args := [d1, d2, d3, d4] }
  | _ => none }
def dagTellsRow : OpenClaim := { program := "ytalhmpggpjbeaaagreatdoor", sum := "357979d738edda779f894063370a1d1ad66aeda7ea45a8f98f11185d5df567a3", func := "stokvel/stokvellaw08.DagTells", spec := "dagTells", inPlace := ["internal/bytealg.IndexByteString", "internal/bytealg.IndexString", "internal/abi.NoEscape"], unfollowed := true, recurses := true, named := ["stokvel/entry.uses", "internal/strconv.uint64pow10", "math/bits.deBruijn32tab", "math/bits.deBruijn64tab", "strconv.ErrSyntax", "strconv.ErrRange", "internal/bytealg.MaxLen"], plainKeys := false, apart := false, laid := [("math/bits.deBruijn32tab", laid_math_bits_deBruijn32tab), ("math/bits.deBruijn64tab", laid_math_bits_deBruijn64tab), ("internal/strconv.uint64pow10", laid_internal_strconv_uint64pow10), ("strconv.ErrRange", laid_strconv_ErrRange), ("strconv.ErrSyntax", laid_strconv_ErrSyntax), ("stokvel/entry.uses", laid_stokvel_entry_uses)] }
def DagTellsSaid : Prop := dagTellsRow.holds Tryz.pinned (OpenSpec.ofChange dagTellsSpec)

/-- ITS FALSE NEIGHBOUR: 'it returns false'. Refute it at one input. -/
def dagTellsWrong : ChangeSpec := { name := "dagTells", fn := fun _ => fun
  | [d1, d2, d3, d4] => { results := [.lit (.bool false)], args := [d1, d2, d3, d4] }
  | _ => none }
def DagTellsWrongFalsely : Prop := dagTellsRow.holds Tryz.pinned (OpenSpec.ofChange dagTellsWrong)

/-- 'stokvellaw09.ForkTells': WHATEVER THE INPUT: true; the input reads as it did. -/
def forkTellsSpec : ChangeSpec := { name := "forkTells", fn := fun _ => fun
  | [d1, d2, d3, d4] => { results := [.lit (.bool true)], args := [d1, d2, d3, d4] }
  | _ => none }
def forkTellsRow : OpenClaim := { program := "ytalhmpggpjbeaaagreatdoor", sum := "357979d738edda779f894063370a1d1ad66aeda7ea45a8f98f11185d5df567a3", func := "stokvel/stokvellaw09.ForkTells", spec := "forkTells", inPlace := ["internal/bytealg.IndexByteString", "internal/bytealg.IndexString", "internal/abi.NoEscape"], unfollowed := true, recurses := true, named := ["stokvel/entry.uses", "internal/strconv.uint64pow10", "math/bits.deBruijn32tab", "math/bits.deBruijn64tab", "strconv.ErrSyntax", "strconv.ErrRange", "internal/bytealg.MaxLen"], plainKeys := false, apart := false, laid := [("math/bits.deBruijn32tab", laid_math_bits_deBruijn32tab), ("math/bits.deBruijn64tab", laid_math_bits_deBruijn64tab), ("internal/strconv.uint64pow10", laid_internal_strconv_uint64pow10), ("strconv.ErrRange", laid_strconv_ErrRange), ("strconv.ErrSyntax", laid_strconv_ErrSyntax), ("stokvel/entry.uses", laid_stokvel_entry_uses)] }
def ForkTellsSaid : Prop := forkTellsRow.holds Tryz.pinned (OpenSpec.ofChange forkTellsSpec)

/-- ITS FALSE NEIGHBOUR: 'it returns false'. Refute it at one input. -/
def forkTellsWrong : ChangeSpec := { name := "forkTells", fn := fun _ => fun
  | [d1, d2, d3, d4] => { results := [.lit (.bool false)], args := [d1, d2, d3, d4] }
  | _ => none }
def ForkTellsWrongFalsely : Prop := forkTellsRow.holds Tryz.pinned (OpenSpec.ofChange forkTellsWrong)

/-- 'stokvellaw09.ForkConvicts': WHATEVER THE INPUT: true; the input reads as it did. -/
def forkConvictsSpec : ChangeSpec := { name := "forkConvicts", fn := fun _ => fun
  | [d1, d2, d3] => { results := [.lit (.bool true)], args := [d1, d2, d3] }
  | _ => none }
def forkConvictsRow : OpenClaim := { program := "ytalhmpggpjbeaaagreatdoor", sum := "357979d738edda779f894063370a1d1ad66aeda7ea45a8f98f11185d5df567a3", func := "stokvel/stokvellaw09.ForkConvicts", spec := "forkConvicts", inPlace := ["internal/bytealg.IndexByteString", "internal/bytealg.IndexString", "internal/abi.NoEscape"], unfollowed := true, recurses := true, named := ["stokvel/entry.uses", "internal/strconv.uint64pow10", "math/bits.deBruijn32tab", "math/bits.deBruijn64tab", "strconv.ErrSyntax", "strconv.ErrRange", "internal/bytealg.MaxLen"], plainKeys := false, apart := false, laid := [("math/bits.deBruijn32tab", laid_math_bits_deBruijn32tab), ("math/bits.deBruijn64tab", laid_math_bits_deBruijn64tab), ("internal/strconv.uint64pow10", laid_internal_strconv_uint64pow10), ("strconv.ErrRange", laid_strconv_ErrRange), ("strconv.ErrSyntax", laid_strconv_ErrSyntax), ("stokvel/entry.uses", laid_stokvel_entry_uses)] }
def ForkConvictsSaid : Prop := forkConvictsRow.holds Tryz.pinned (OpenSpec.ofChange forkConvictsSpec)

/-- ITS FALSE NEIGHBOUR: 'it returns false'. Refute it at one input. -/
def forkConvictsWrong : ChangeSpec := { name := "forkConvicts", fn := fun _ => fun
  | [d1, d2, d3] => { results := [.lit (.bool false)], args := [d1, d2, d3] }
  | _ => none }
def ForkConvictsWrongFalsely : Prop := forkConvictsRow.holds Tryz.pinned (OpenSpec.ofChange forkConvictsWrong)

/-- 'stokvellaw09.ForkStays': WHATEVER THE INPUT: true; the input reads as it did. -/
def forkStaysSpec : ChangeSpec := { name := "forkStays", fn := fun _ => fun
  | [d1, d2, d3, d4] => { results := [.lit (.bool true)], args := [d1, d2, d3, d4] }
  | _ => none }
def forkStaysRow : OpenClaim := { program := "ytalhmpggpjbeaaagreatdoor", sum := "357979d738edda779f894063370a1d1ad66aeda7ea45a8f98f11185d5df567a3", func := "stokvel/stokvellaw09.ForkStays", spec := "forkStays", inPlace := ["internal/bytealg.IndexByteString", "internal/bytealg.IndexString", "internal/abi.NoEscape"], unfollowed := true, recurses := true, named := ["stokvel/entry.uses", "internal/strconv.uint64pow10", "math/bits.deBruijn32tab", "math/bits.deBruijn64tab", "strconv.ErrSyntax", "strconv.ErrRange", "internal/bytealg.MaxLen"], plainKeys := false, apart := false, laid := [("math/bits.deBruijn32tab", laid_math_bits_deBruijn32tab), ("math/bits.deBruijn64tab", laid_math_bits_deBruijn64tab), ("internal/strconv.uint64pow10", laid_internal_strconv_uint64pow10), ("strconv.ErrRange", laid_strconv_ErrRange), ("strconv.ErrSyntax", laid_strconv_ErrSyntax), ("stokvel/entry.uses", laid_stokvel_entry_uses)] }
def ForkStaysSaid : Prop := forkStaysRow.holds Tryz.pinned (OpenSpec.ofChange forkStaysSpec)

/-- ITS FALSE NEIGHBOUR: 'it returns false'. Refute it at one input. -/
def forkStaysWrong : ChangeSpec := { name := "forkStays", fn := fun _ => fun
  | [d1, d2, d3, d4] => { results := [.lit (.bool false)], args := [d1, d2, d3, d4] }
  | _ => none }
def ForkStaysWrongFalsely : Prop := forkStaysRow.holds Tryz.pinned (OpenSpec.ofChange forkStaysWrong)

/-- 'stokvellaw09.ForkHonest': WHATEVER THE INPUT: true; the input reads as it did. -/
def forkHonestSpec : ChangeSpec := { name := "forkHonest", fn := fun _ => fun
  | [d1, d2] => { results := [.lit (.bool true)], args := [d1, d2] }
  | _ => none }
def forkHonestRow : OpenClaim := { program := "ytalhmpggpjbeaaagreatdoor", sum := "357979d738edda779f894063370a1d1ad66aeda7ea45a8f98f11185d5df567a3", func := "stokvel/stokvellaw09.ForkHonest", spec := "forkHonest", inPlace := ["internal/bytealg.IndexByteString", "internal/bytealg.IndexString", "internal/abi.NoEscape"], unfollowed := true, recurses := true, named := ["stokvel/entry.uses", "internal/strconv.uint64pow10", "math/bits.deBruijn32tab", "math/bits.deBruijn64tab", "strconv.ErrSyntax", "strconv.ErrRange", "internal/bytealg.MaxLen"], plainKeys := false, apart := false, laid := [("math/bits.deBruijn32tab", laid_math_bits_deBruijn32tab), ("math/bits.deBruijn64tab", laid_math_bits_deBruijn64tab), ("internal/strconv.uint64pow10", laid_internal_strconv_uint64pow10), ("strconv.ErrRange", laid_strconv_ErrRange), ("strconv.ErrSyntax", laid_strconv_ErrSyntax), ("stokvel/entry.uses", laid_stokvel_entry_uses)] }
def ForkHonestSaid : Prop := forkHonestRow.holds Tryz.pinned (OpenSpec.ofChange forkHonestSpec)

/-- ITS FALSE NEIGHBOUR: 'it returns false'. Refute it at one input. -/
def forkHonestWrong : ChangeSpec := { name := "forkHonest", fn := fun _ => fun
  | [d1, d2] => { results := [.lit (.bool false)], args := [d1, d2] }
  | _ => none }
def ForkHonestWrongFalsely : Prop := forkHonestRow.holds Tryz.pinned (OpenSpec.ofChange forkHonestWrong)

/- THE SECOND FORM. 'bulk': how many values and letters a reading holds, each counted each time it is reached (what is shared counts as often as it is met; a slice's spare places count too). A statement '..UptoSaid' is the law's where the arguments, and the package variables that the reading takes, are together of bulk at most 1048576: NARROWER than '..Said'. Prove '..Said' where nothing that the law and all that it calls make is longer than what came in: it says more and counts as full. Else prove '..UptoSaid'. A law counts once. -/
mutual
def uptoBulk {H : Type} : DataW H → Nat
  | .lit (.string bytes) => bytes.length + 1
  | .lit _ => 1
  | .nil => 1
  | .ptr d => uptoBulk d + 1
  | .slice elems spare => uptoBulkAll elems + uptoBulkAll spare + 1
  | .agg parts => uptoBulkAll parts + 1
  | .iface _ d => uptoBulk d + 1
  | .map entries => uptoBulkEntries entries + 1
  | .held _ => 1
def uptoBulkAll {H : Type} : List (DataW H) → Nat
  | [] => 0
  | d :: r => uptoBulk d + uptoBulkAll r
def uptoBulkEntries {H : Type} : List (Lit × DataW H) → Nat
  | [] => 0
  | x :: r => uptoBulkEntry x + uptoBulkEntries r
def uptoBulkEntry {H : Type} : Lit × DataW H → Nat
  | (.string bytes, d) => bytes.length + uptoBulk d + 1
  | (_, d) => uptoBulk d + 1
 end
def uptoSmall : (H : Type) → List (DataW H) → Bool := fun _ ds => decide (uptoBulkAll ds ≤ 1048576)
def OpenSpec.upto (s : _root_.Go.ChangeSpec) : _root_.Go.OpenSpec := { _root_.Go.OpenSpec.ofChange s with cond := some uptoSmall }

/-- 'stokvellaw08.DagRefuses', WHERE WHAT IT READS IS OF BULK AT MOST 1048576: true; the input reads as it did. -/
def dagRefusesUptoRow : OpenClaim := { program := "ytalhmpggpjbeaaagreatdoor", sum := "357979d738edda779f894063370a1d1ad66aeda7ea45a8f98f11185d5df567a3", func := "stokvel/stokvellaw08.DagRefuses", spec := "dagRefuses", inPlace := ["internal/bytealg.IndexByteString", "internal/bytealg.IndexString", "internal/abi.NoEscape"], unfollowed := true, recurses := true, named := ["stokvel/entry.uses", "internal/strconv.uint64pow10", "math/bits.deBruijn32tab", "math/bits.deBruijn64tab", "strconv.ErrSyntax", "strconv.ErrRange", "internal/bytealg.MaxLen"], plainKeys := false, apart := false, laid := [("math/bits.deBruijn32tab", laid_math_bits_deBruijn32tab), ("math/bits.deBruijn64tab", laid_math_bits_deBruijn64tab), ("internal/strconv.uint64pow10", laid_internal_strconv_uint64pow10), ("strconv.ErrRange", laid_strconv_ErrRange), ("strconv.ErrSyntax", laid_strconv_ErrSyntax), ("stokvel/entry.uses", laid_stokvel_entry_uses)], narrowed := true }
def DagRefusesUptoSaid : Prop := dagRefusesUptoRow.holds Tryz.pinned (OpenSpec.upto dagRefusesSpec)

/-- 'stokvellaw08.DagOrders', WHERE WHAT IT READS IS OF BULK AT MOST 1048576: true; the input reads as it did. -/
def dagOrdersUptoRow : OpenClaim := { program := "ytalhmpggpjbeaaagreatdoor", sum := "357979d738edda779f894063370a1d1ad66aeda7ea45a8f98f11185d5df567a3", func := "stokvel/stokvellaw08.DagOrders", spec := "dagOrders", inPlace := ["internal/bytealg.IndexByteString", "internal/bytealg.IndexString", "internal/abi.NoEscape"], unfollowed := true, recurses := true, named := ["stokvel/entry.uses", "internal/strconv.uint64pow10", "math/bits.deBruijn32tab", "math/bits.deBruijn64tab", "strconv.ErrSyntax", "strconv.ErrRange", "internal/bytealg.MaxLen"], plainKeys := false, apart := false, laid := [("math/bits.deBruijn32tab", laid_math_bits_deBruijn32tab), ("math/bits.deBruijn64tab", laid_math_bits_deBruijn64tab), ("internal/strconv.uint64pow10", laid_internal_strconv_uint64pow10), ("strconv.ErrRange", laid_strconv_ErrRange), ("strconv.ErrSyntax", laid_strconv_ErrSyntax), ("stokvel/entry.uses", laid_stokvel_entry_uses)], narrowed := true }
def DagOrdersUptoSaid : Prop := dagOrdersUptoRow.holds Tryz.pinned (OpenSpec.upto dagOrdersSpec)

/-- 'stokvellaw08.DagParts', WHERE WHAT IT READS IS OF BULK AT MOST 1048576: true; the input reads as it did. -/
def dagPartsUptoRow : OpenClaim := { program := "ytalhmpggpjbeaaagreatdoor", sum := "357979d738edda779f894063370a1d1ad66aeda7ea45a8f98f11185d5df567a3", func := "stokvel/stokvellaw08.DagParts", spec := "dagParts", inPlace := ["internal/bytealg.IndexByteString", "internal/bytealg.IndexString", "internal/abi.NoEscape"], unfollowed := true, recurses := true, named := ["stokvel/entry.uses", "internal/strconv.uint64pow10", "math/bits.deBruijn32tab", "math/bits.deBruijn64tab", "strconv.ErrSyntax", "strconv.ErrRange", "internal/bytealg.MaxLen"], plainKeys := false, apart := false, laid := [("math/bits.deBruijn32tab", laid_math_bits_deBruijn32tab), ("math/bits.deBruijn64tab", laid_math_bits_deBruijn64tab), ("internal/strconv.uint64pow10", laid_internal_strconv_uint64pow10), ("strconv.ErrRange", laid_strconv_ErrRange), ("strconv.ErrSyntax", laid_strconv_ErrSyntax), ("stokvel/entry.uses", laid_stokvel_entry_uses)], narrowed := true }
def DagPartsUptoSaid : Prop := dagPartsUptoRow.holds Tryz.pinned (OpenSpec.upto dagPartsSpec)

/-- 'stokvellaw08.DagPast', WHERE WHAT IT READS IS OF BULK AT MOST 1048576: true; the input reads as it did. -/
def dagPastUptoRow : OpenClaim := { program := "ytalhmpggpjbeaaagreatdoor", sum := "357979d738edda779f894063370a1d1ad66aeda7ea45a8f98f11185d5df567a3", func := "stokvel/stokvellaw08.DagPast", spec := "dagPast", inPlace := ["internal/bytealg.IndexByteString", "internal/bytealg.IndexString", "internal/abi.NoEscape"], unfollowed := true, recurses := true, named := ["stokvel/entry.uses", "internal/strconv.uint64pow10", "math/bits.deBruijn32tab", "math/bits.deBruijn64tab", "strconv.ErrSyntax", "strconv.ErrRange", "internal/bytealg.MaxLen"], plainKeys := false, apart := false, laid := [("math/bits.deBruijn32tab", laid_math_bits_deBruijn32tab), ("math/bits.deBruijn64tab", laid_math_bits_deBruijn64tab), ("internal/strconv.uint64pow10", laid_internal_strconv_uint64pow10), ("strconv.ErrRange", laid_strconv_ErrRange), ("strconv.ErrSyntax", laid_strconv_ErrSyntax), ("stokvel/entry.uses", laid_stokvel_entry_uses)], narrowed := true }
def DagPastUptoSaid : Prop := dagPastUptoRow.holds Tryz.pinned (OpenSpec.upto dagPastSpec)

/-- 'stokvellaw08.DagSorted', WHERE WHAT IT READS IS OF BULK AT MOST 1048576: true; the input reads as it did. -/
def dagSortedUptoRow : OpenClaim := { program := "ytalhmpggpjbeaaagreatdoor", sum := "357979d738edda779f894063370a1d1ad66aeda7ea45a8f98f11185d5df567a3", func := "stokvel/stokvellaw08.DagSorted", spec := "dagSorted", inPlace := ["internal/bytealg.IndexByteString", "internal/bytealg.IndexString", "internal/abi.NoEscape"], unfollowed := true, recurses := true, named := ["stokvel/entry.uses", "internal/strconv.uint64pow10", "math/bits.deBruijn32tab", "math/bits.deBruijn64tab", "strconv.ErrSyntax", "strconv.ErrRange", "internal/bytealg.MaxLen"], plainKeys := false, apart := false, laid := [("math/bits.deBruijn32tab", laid_math_bits_deBruijn32tab), ("math/bits.deBruijn64tab", laid_math_bits_deBruijn64tab), ("internal/strconv.uint64pow10", laid_internal_strconv_uint64pow10), ("strconv.ErrRange", laid_strconv_ErrRange), ("strconv.ErrSyntax", laid_strconv_ErrSyntax), ("stokvel/entry.uses", laid_stokvel_entry_uses)], narrowed := true }
def DagSortedUptoSaid : Prop := dagSortedUptoRow.holds Tryz.pinned (OpenSpec.upto dagSortedSpec)

/-- 'stokvellaw08.DagTells', WHERE WHAT IT READS IS OF BULK AT MOST 1048576: true; the input reads as it did. -/
def dagTellsUptoRow : OpenClaim := { program := "ytalhmpggpjbeaaagreatdoor", sum := "357979d738edda779f894063370a1d1ad66aeda7ea45a8f98f11185d5df567a3", func := "stokvel/stokvellaw08.DagTells", spec := "dagTells", inPlace := ["internal/bytealg.IndexByteString", "internal/bytealg.IndexString", "internal/abi.NoEscape"], unfollowed := true, recurses := true, named := ["stokvel/entry.uses", "internal/strconv.uint64pow10", "math/bits.deBruijn32tab", "math/bits.deBruijn64tab", "strconv.ErrSyntax", "strconv.ErrRange", "internal/bytealg.MaxLen"], plainKeys := false, apart := false, laid := [("math/bits.deBruijn32tab", laid_math_bits_deBruijn32tab), ("math/bits.deBruijn64tab", laid_math_bits_deBruijn64tab), ("internal/strconv.uint64pow10", laid_internal_strconv_uint64pow10), ("strconv.ErrRange", laid_strconv_ErrRange), ("strconv.ErrSyntax", laid_strconv_ErrSyntax), ("stokvel/entry.uses", laid_stokvel_entry_uses)], narrowed := true }
def DagTellsUptoSaid : Prop := dagTellsUptoRow.holds Tryz.pinned (OpenSpec.upto dagTellsSpec)

/-- 'stokvellaw09.ForkTells', WHERE WHAT IT READS IS OF BULK AT MOST 1048576: true; the input reads as it did. -/
def forkTellsUptoRow : OpenClaim := { program := "ytalhmpggpjbeaaagreatdoor", sum := "357979d738edda779f894063370a1d1ad66aeda7ea45a8f98f11185d5df567a3", func := "stokvel/stokvellaw09.ForkTells", spec := "forkTells", inPlace := ["internal/bytealg.IndexByteString", "internal/bytealg.IndexString", "internal/abi.NoEscape"], unfollowed := true, recurses := true, named := ["stokvel/entry.uses", "internal/strconv.uint64pow10", "math/bits.deBruijn32tab", "math/bits.deBruijn64tab", "strconv.ErrSyntax", "strconv.ErrRange", "internal/bytealg.MaxLen"], plainKeys := false, apart := false, laid := [("math/bits.deBruijn32tab", laid_math_bits_deBruijn32tab), ("math/bits.deBruijn64tab", laid_math_bits_deBruijn64tab), ("internal/strconv.uint64pow10", laid_internal_strconv_uint64pow10), ("strconv.ErrRange", laid_strconv_ErrRange), ("strconv.ErrSyntax", laid_strconv_ErrSyntax), ("stokvel/entry.uses", laid_stokvel_entry_uses)], narrowed := true }
def ForkTellsUptoSaid : Prop := forkTellsUptoRow.holds Tryz.pinned (OpenSpec.upto forkTellsSpec)

/-- 'stokvellaw09.ForkConvicts', WHERE WHAT IT READS IS OF BULK AT MOST 1048576: true; the input reads as it did. -/
def forkConvictsUptoRow : OpenClaim := { program := "ytalhmpggpjbeaaagreatdoor", sum := "357979d738edda779f894063370a1d1ad66aeda7ea45a8f98f11185d5df567a3", func := "stokvel/stokvellaw09.ForkConvicts", spec := "forkConvicts", inPlace := ["internal/bytealg.IndexByteString", "internal/bytealg.IndexString", "internal/abi.NoEscape"], unfollowed := true, recurses := true, named := ["stokvel/entry.uses", "internal/strconv.uint64pow10", "math/bits.deBruijn32tab", "math/bits.deBruijn64tab", "strconv.ErrSyntax", "strconv.ErrRange", "internal/bytealg.MaxLen"], plainKeys := false, apart := false, laid := [("math/bits.deBruijn32tab", laid_math_bits_deBruijn32tab), ("math/bits.deBruijn64tab", laid_math_bits_deBruijn64tab), ("internal/strconv.uint64pow10", laid_internal_strconv_uint64pow10), ("strconv.ErrRange", laid_strconv_ErrRange), ("strconv.ErrSyntax", laid_strconv_ErrSyntax), ("stokvel/entry.uses", laid_stokvel_entry_uses)], narrowed := true }
def ForkConvictsUptoSaid : Prop := forkConvictsUptoRow.holds Tryz.pinned (OpenSpec.upto forkConvictsSpec)

/-- 'stokvellaw09.ForkStays', WHERE WHAT IT READS IS OF BULK AT MOST 1048576: true; the input reads as it did. -/
def forkStaysUptoRow : OpenClaim := { program := "ytalhmpggpjbeaaagreatdoor", sum := "357979d738edda779f894063370a1d1ad66aeda7ea45a8f98f11185d5df567a3", func := "stokvel/stokvellaw09.ForkStays", spec := "forkStays", inPlace := ["internal/bytealg.IndexByteString", "internal/bytealg.IndexString", "internal/abi.NoEscape"], unfollowed := true, recurses := true, named := ["stokvel/entry.uses", "internal/strconv.uint64pow10", "math/bits.deBruijn32tab", "math/bits.deBruijn64tab", "strconv.ErrSyntax", "strconv.ErrRange", "internal/bytealg.MaxLen"], plainKeys := false, apart := false, laid := [("math/bits.deBruijn32tab", laid_math_bits_deBruijn32tab), ("math/bits.deBruijn64tab", laid_math_bits_deBruijn64tab), ("internal/strconv.uint64pow10", laid_internal_strconv_uint64pow10), ("strconv.ErrRange", laid_strconv_ErrRange), ("strconv.ErrSyntax", laid_strconv_ErrSyntax), ("stokvel/entry.uses", laid_stokvel_entry_uses)], narrowed := true }
def ForkStaysUptoSaid : Prop := forkStaysUptoRow.holds Tryz.pinned (OpenSpec.upto forkStaysSpec)

/-- 'stokvellaw09.ForkHonest', WHERE WHAT IT READS IS OF BULK AT MOST 1048576: true; the input reads as it did. -/
def forkHonestUptoRow : OpenClaim := { program := "ytalhmpggpjbeaaagreatdoor", sum := "357979d738edda779f894063370a1d1ad66aeda7ea45a8f98f11185d5df567a3", func := "stokvel/stokvellaw09.ForkHonest", spec := "forkHonest", inPlace := ["internal/bytealg.IndexByteString", "internal/bytealg.IndexString", "internal/abi.NoEscape"], unfollowed := true, recurses := true, named := ["stokvel/entry.uses", "internal/strconv.uint64pow10", "math/bits.deBruijn32tab", "math/bits.deBruijn64tab", "strconv.ErrSyntax", "strconv.ErrRange", "internal/bytealg.MaxLen"], plainKeys := false, apart := false, laid := [("math/bits.deBruijn32tab", laid_math_bits_deBruijn32tab), ("math/bits.deBruijn64tab", laid_math_bits_deBruijn64tab), ("internal/strconv.uint64pow10", laid_internal_strconv_uint64pow10), ("strconv.ErrRange", laid_strconv_ErrRange), ("strconv.ErrSyntax", laid_strconv_ErrSyntax), ("stokvel/entry.uses", laid_stokvel_entry_uses)], narrowed := true }
def ForkHonestUptoSaid : Prop := forkHonestUptoRow.holds Tryz.pinned (OpenSpec.upto forkHonestSpec)

end Rows
end Go.Proofs.YtalhmpggpjbeaaaGreatDoor
