/-
  No cell of these rows narrows 'for every input' (looked for: loops, veiled, ifaces, maps, wideKeys, modest, calm, conditions, laid).
  DERIVED. THE GIVEN ROWS OF THIS SEAT. 4 by the template 'for every input the law returns true; each argument reads behind the call as it read before'; 0 by the template 'total and deterministic' (their statements: YtajmhiacmjgffaaTotals.lean).
  GIVEN WITH THE SEED: the statements are not yours to turn. If you find one false, say at which input.
  Laid BY PROGRAM, IN A SANDBOX (cutbox-rows.mjs): the forced cells as the released guide's own fill.sh prints them over the translation a40fad2166dd72f9… (all of the seat's roots in one cut). By AI agents, Wed Nov 11 2026. No macro, syntax, notation, axiom, sorry.
-/
import Derived.Test.YtajmhiacmjgffaaChecked
import GoSem.Claim
import GoSem.ClaimJoined
import GoSem.ClaimMapViews
import Derived.JoinedTies
import Derived.KernelRfl
namespace Go.Proofs.Ytajmhiacmjgffaa
/- THE CELL 'sum', in the pinned program and in every row, IS THE sha256 OF THE DUMP (.gsa) THAT YtajmhiacmjgffaaProg.lean LOADS. Nothing in Lean hashes anything: it is a label: what it is worth is what the hold of that sum in a sandbox is worth. -/
noncomputable def Try.pinned : Pinned := { name := "ytajmhiacmjgffaa", sum := "a40fad2166dd72f976ef01af85f032bd51c97dfe8656bda57b6d774cbc1fd755", checked := Try.checked }
namespace Rows
def none {H : Type} : Left H := { results := [], args := [] }

/-- 'stokvellaw02.FlashWears': WHATEVER THE INPUT: true; the input reads as it did. -/
def flashWearsSpec : ChangeSpec := { name := "flashWears", fn := fun _ => fun
  | [d1, d2, d3] => { results := [.lit (.bool true)], args := [d1, d2, d3] }
  | _ => none }
def flashWearsRow : OpenClaim := { program := "ytajmhiacmjgffaa", sum := "a40fad2166dd72f976ef01af85f032bd51c97dfe8656bda57b6d774cbc1fd755", func := "stokvel/stokvellaw02.FlashWears", spec := "flashWears", apart := false }
def FlashWearsSaid : Prop := flashWearsRow.holds Try.pinned (OpenSpec.ofChange flashWearsSpec)

/-- ITS FALSE NEIGHBOUR: 'it returns false'. Refute it at one input. -/
def flashWearsWrong : ChangeSpec := { name := "flashWears", fn := fun _ => fun
  | [d1, d2, d3] => { results := [.lit (.bool false)], args := [d1, d2, d3] }
  | _ => none }
def FlashWearsWrongFalsely : Prop := flashWearsRow.holds Try.pinned (OpenSpec.ofChange flashWearsWrong)

/-- 'stokvellaw02.FlashTells': WHATEVER THE INPUT: true; the input reads as it did. -/
def flashTellsSpec : ChangeSpec := { name := "flashTells", fn := fun _ => fun
  | [d1, d2, d3] => { results := [.lit (.bool true)], args := [d1, d2, d3] }
  | _ => none }
def flashTellsRow : OpenClaim := { program := "ytajmhiacmjgffaa", sum := "a40fad2166dd72f976ef01af85f032bd51c97dfe8656bda57b6d774cbc1fd755", func := "stokvel/stokvellaw02.FlashTells", spec := "flashTells", apart := false }
def FlashTellsSaid : Prop := flashTellsRow.holds Try.pinned (OpenSpec.ofChange flashTellsSpec)

/-- ITS FALSE NEIGHBOUR: 'it returns false'. Refute it at one input. -/
def flashTellsWrong : ChangeSpec := { name := "flashTells", fn := fun _ => fun
  | [d1, d2, d3] => { results := [.lit (.bool false)], args := [d1, d2, d3] }
  | _ => none }
def FlashTellsWrongFalsely : Prop := flashTellsRow.holds Try.pinned (OpenSpec.ofChange flashTellsWrong)

/-- 'stokvellaw02.FlashKeeps': WHATEVER THE INPUT: true; the input reads as it did. -/
def flashKeepsSpec : ChangeSpec := { name := "flashKeeps", fn := fun _ => fun
  | [d1, d2, d3] => { results := [.lit (.bool true)], args := [d1, d2, d3] }
  | _ => none }
def flashKeepsRow : OpenClaim := { program := "ytajmhiacmjgffaa", sum := "a40fad2166dd72f976ef01af85f032bd51c97dfe8656bda57b6d774cbc1fd755", func := "stokvel/stokvellaw02.FlashKeeps", spec := "flashKeeps", apart := false }
def FlashKeepsSaid : Prop := flashKeepsRow.holds Try.pinned (OpenSpec.ofChange flashKeepsSpec)

/-- ITS FALSE NEIGHBOUR: 'it returns false'. Refute it at one input. -/
def flashKeepsWrong : ChangeSpec := { name := "flashKeeps", fn := fun _ => fun
  | [d1, d2, d3] => { results := [.lit (.bool false)], args := [d1, d2, d3] }
  | _ => none }
def FlashKeepsWrongFalsely : Prop := flashKeepsRow.holds Try.pinned (OpenSpec.ofChange flashKeepsWrong)

/-- 'stokvellaw02.FlashCopies': WHATEVER THE INPUT: true; the input reads as it did. -/
def flashCopiesSpec : ChangeSpec := { name := "flashCopies", fn := fun _ => fun
  | [d1, d2, d3, d4] => { results := [.lit (.bool true)], args := [d1, d2, d3, d4] }
  | _ => none }
def flashCopiesRow : OpenClaim := { program := "ytajmhiacmjgffaa", sum := "a40fad2166dd72f976ef01af85f032bd51c97dfe8656bda57b6d774cbc1fd755", func := "stokvel/stokvellaw02.FlashCopies", spec := "flashCopies", apart := false }
def FlashCopiesSaid : Prop := flashCopiesRow.holds Try.pinned (OpenSpec.ofChange flashCopiesSpec)

/-- ITS FALSE NEIGHBOUR: 'it returns false'. Refute it at one input. -/
def flashCopiesWrong : ChangeSpec := { name := "flashCopies", fn := fun _ => fun
  | [d1, d2, d3, d4] => { results := [.lit (.bool false)], args := [d1, d2, d3, d4] }
  | _ => none }
def FlashCopiesWrongFalsely : Prop := flashCopiesRow.holds Try.pinned (OpenSpec.ofChange flashCopiesWrong)

/- THE SECOND FORM. 'bulk': how many values and letters a reading holds, each counted each time it is reached (what is shared counts as often as it is met; a slice's spare places count too). A statement '..UptoSaid' is the law's where the arguments, and the package variables that the reading takes, are together of bulk at most 1048576: NARROWER than '..Said'. Prove '..Said' where nothing that the law and all that it calls make is longer than what came in: it says more and counts as full. Else prove '..UptoSaid'. A law counts once. -/
mutual
def uptoBulk {H : Type} : DataW H → Nat
  | .lit (.string bytes) => bytes.length + 1
  | .lit _ => 1
  | .nil => 1
  | .ptr d => uptoBulk d + 1
  | .slice elems spare => uptoBulkAll elems + uptoBulkAll spare + 1
  | .agg parts => uptoBulkAll parts + 1
  | .iface _ d => uptoBulk d + 1
  | .map entries => uptoBulkEntries entries + 1
  | .held _ => 1
def uptoBulkAll {H : Type} : List (DataW H) → Nat
  | [] => 0
  | d :: r => uptoBulk d + uptoBulkAll r
def uptoBulkEntries {H : Type} : List (Lit × DataW H) → Nat
  | [] => 0
  | x :: r => uptoBulkEntry x + uptoBulkEntries r
def uptoBulkEntry {H : Type} : Lit × DataW H → Nat
  | (.string bytes, d) => bytes.length + uptoBulk d + 1
  | (_, d) => uptoBulk d + 1
 end
def uptoSmall : (H : Type) → List (DataW H) → Bool := fun _ ds => decide (uptoBulkAll ds ≤ 1048576)
def OpenSpec.upto (s : _root_.Go.ChangeSpec) : _root_.Go.OpenSpec := { _root_.Go.OpenSpec.ofChange s with cond := some uptoSmall }

/-- 'stokvellaw02.FlashWears', WHERE WHAT IT READS IS OF BULK AT MOST 1048576: true; the input reads as it did. -/
def flashWearsUptoRow : OpenClaim := { program := "ytajmhiacmjgffaa", sum := "a40fad2166dd72f976ef01af85f032bd51c97dfe8656bda57b6d774cbc1fd755", func := "stokvel/stokvellaw02.FlashWears", spec := "flashWears", apart := false, narrowed := true }
def FlashWearsUptoSaid : Prop := flashWearsUptoRow.holds Try.pinned (OpenSpec.upto flashWearsSpec)

/-- 'stokvellaw02.FlashTells', WHERE WHAT IT READS IS OF BULK AT MOST 1048576: true; the input reads as it did. -/
def flashTellsUptoRow : OpenClaim := { program := "ytajmhiacmjgffaa", sum := "a40fad2166dd72f976ef01af85f032bd51c97dfe8656bda57b6d774cbc1fd755", func := "stokvel/stokvellaw02.FlashTells", spec := "flashTells", apart := false, narrowed := true }
def FlashTellsUptoSaid : Prop := flashTellsUptoRow.holds Try.pinned (OpenSpec.upto flashTellsSpec)

/-- 'stokvellaw02.FlashKeeps', WHERE WHAT IT READS IS OF BULK AT MOST 1048576: true; the input reads as it did. -/
def flashKeepsUptoRow : OpenClaim := { program := "ytajmhiacmjgffaa", sum := "a40fad2166dd72f976ef01af85f032bd51c97dfe8656bda57b6d774cbc1fd755", func := "stokvel/stokvellaw02.FlashKeeps", spec := "flashKeeps", apart := false, narrowed := true }
def FlashKeepsUptoSaid : Prop := flashKeepsUptoRow.holds Try.pinned (OpenSpec.upto flashKeepsSpec)

/-- 'stokvellaw02.FlashCopies', WHERE WHAT IT READS IS OF BULK AT MOST 1048576: true; the input reads as it did. -/
def flashCopiesUptoRow : OpenClaim := { program := "ytajmhiacmjgffaa", sum := "a40fad2166dd72f976ef01af85f032bd51c97dfe8656bda57b6d774cbc1fd755", func := "stokvel/stokvellaw02.FlashCopies", spec := "flashCopies", apart := false, narrowed := true }
def FlashCopiesUptoSaid : Prop := flashCopiesUptoRow.holds Try.pinned (OpenSpec.upto flashCopiesSpec)

end Rows
end Go.Proofs.Ytajmhiacmjgffaa
