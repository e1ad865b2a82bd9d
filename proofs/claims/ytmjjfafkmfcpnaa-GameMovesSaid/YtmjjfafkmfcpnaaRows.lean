/-
  No cell of these rows narrows 'for every input' (looked for: loops, veiled, ifaces, maps, wideKeys, modest, calm, conditions, laid).
  DERIVED. THE GIVEN ROWS OF THIS SEAT. 5 by the template 'for every input the law returns true; each argument reads behind the call as it read before'; 0 by the template 'total and deterministic' (their statements: YtmjjfafkmfcpnaaTotals.lean).
  GIVEN WITH THE SEED: the statements are not yours to turn. If you find one false, say at which input.
  Laid BY PROGRAM, IN A SANDBOX (cutbox-rows.mjs): the forced cells as the released guide's own fill.sh prints them over the translation 0573f2bd75d3bcd3… (all of the seat's roots in one cut). By AI agents, Wed Nov 11 2026. No macro, syntax, notation, axiom, sorry.
-/
import Derived.Test.YtmjjfafkmfcpnaaChecked
import GoSem.Claim
import GoSem.ClaimJoined
import GoSem.ClaimMapViews
import Derived.JoinedTies
import Derived.KernelRfl
namespace Go.Proofs.Ytmjjfafkmfcpnaa
/- THE CELL 'sum', in the pinned program and in every row, IS THE sha256 OF THE DUMP (.gsa) THAT YtmjjfafkmfcpnaaProg.lean LOADS. Nothing in Lean hashes anything: it is a label: what it is worth is what the hold of that sum in a sandbox is worth. -/
noncomputable def Try.pinned : Pinned := { name := "ytmjjfafkmfcpnaa", sum := "0573f2bd75d3bcd3b3aee49144e98dce51cd97163d0685f9690f1de2d8459f27", checked := Try.checked }
namespace Rows
def none {H : Type} : Left H := { results := [], args := [] }

/-- 'stokvellaw21.GameTells': WHATEVER THE INPUT: true; the input reads as it did. -/
def gameTellsSpec : ChangeSpec := { name := "gameTells", fn := fun _ => fun
  | [d1, d2, d3, d4] => { results := [.lit (.bool true)], args := [d1, d2, d3, d4] }
  | _ => none }
def gameTellsRow : OpenClaim := { program := "ytmjjfafkmfcpnaa", sum := "0573f2bd75d3bcd3b3aee49144e98dce51cd97163d0685f9690f1de2d8459f27", func := "stokvel/stokvellaw21.GameTells", spec := "gameTells", unfollowed := true, recurses := true, apart := false }
def GameTellsSaid : Prop := gameTellsRow.holds Try.pinned (OpenSpec.ofChange gameTellsSpec)

/-- ITS FALSE NEIGHBOUR: 'it returns false'. Refute it at one input. -/
def gameTellsWrong : ChangeSpec := { name := "gameTells", fn := fun _ => fun
  | [d1, d2, d3, d4] => { results := [.lit (.bool false)], args := [d1, d2, d3, d4] }
  | _ => none }
def GameTellsWrongFalsely : Prop := gameTellsRow.holds Try.pinned (OpenSpec.ofChange gameTellsWrong)

/-- 'stokvellaw21.GameBounds': WHATEVER THE INPUT: true; the input reads as it did. -/
def gameBoundsSpec : ChangeSpec := { name := "gameBounds", fn := fun _ => fun
  | [d1, d2, d3] => { results := [.lit (.bool true)], args := [d1, d2, d3] }
  | _ => none }
def gameBoundsRow : OpenClaim := { program := "ytmjjfafkmfcpnaa", sum := "0573f2bd75d3bcd3b3aee49144e98dce51cd97163d0685f9690f1de2d8459f27", func := "stokvel/stokvellaw21.GameBounds", spec := "gameBounds", unfollowed := true, recurses := true, apart := false }
def GameBoundsSaid : Prop := gameBoundsRow.holds Try.pinned (OpenSpec.ofChange gameBoundsSpec)

/-- ITS FALSE NEIGHBOUR: 'it returns false'. Refute it at one input. -/
def gameBoundsWrong : ChangeSpec := { name := "gameBounds", fn := fun _ => fun
  | [d1, d2, d3] => { results := [.lit (.bool false)], args := [d1, d2, d3] }
  | _ => none }
def GameBoundsWrongFalsely : Prop := gameBoundsRow.holds Try.pinned (OpenSpec.ofChange gameBoundsWrong)

/-- 'stokvellaw21.GameProves': WHATEVER THE INPUT: true; the input reads as it did. -/
def gameProvesSpec : ChangeSpec := { name := "gameProves", fn := fun _ => fun
  | [d1, d2, d3] => { results := [.lit (.bool true)], args := [d1, d2, d3] }
  | _ => none }
def gameProvesRow : OpenClaim := { program := "ytmjjfafkmfcpnaa", sum := "0573f2bd75d3bcd3b3aee49144e98dce51cd97163d0685f9690f1de2d8459f27", func := "stokvel/stokvellaw21.GameProves", spec := "gameProves", unfollowed := true, recurses := true, apart := false }
def GameProvesSaid : Prop := gameProvesRow.holds Try.pinned (OpenSpec.ofChange gameProvesSpec)

/-- ITS FALSE NEIGHBOUR: 'it returns false'. Refute it at one input. -/
def gameProvesWrong : ChangeSpec := { name := "gameProves", fn := fun _ => fun
  | [d1, d2, d3] => { results := [.lit (.bool false)], args := [d1, d2, d3] }
  | _ => none }
def GameProvesWrongFalsely : Prop := gameProvesRow.holds Try.pinned (OpenSpec.ofChange gameProvesWrong)

/-- 'stokvellaw21.GameLeast': WHATEVER THE INPUT: true; the input reads as it did. -/
def gameLeastSpec : ChangeSpec := { name := "gameLeast", fn := fun _ => fun
  | [d1, d2, d3, d4] => { results := [.lit (.bool true)], args := [d1, d2, d3, d4] }
  | _ => none }
def gameLeastRow : OpenClaim := { program := "ytmjjfafkmfcpnaa", sum := "0573f2bd75d3bcd3b3aee49144e98dce51cd97163d0685f9690f1de2d8459f27", func := "stokvel/stokvellaw21.GameLeast", spec := "gameLeast", unfollowed := true, recurses := true, apart := false }
def GameLeastSaid : Prop := gameLeastRow.holds Try.pinned (OpenSpec.ofChange gameLeastSpec)

/-- ITS FALSE NEIGHBOUR: 'it returns false'. Refute it at one input. -/
def gameLeastWrong : ChangeSpec := { name := "gameLeast", fn := fun _ => fun
  | [d1, d2, d3, d4] => { results := [.lit (.bool false)], args := [d1, d2, d3, d4] }
  | _ => none }
def GameLeastWrongFalsely : Prop := gameLeastRow.holds Try.pinned (OpenSpec.ofChange gameLeastWrong)

/-- 'stokvellaw21.GameMoves': WHATEVER THE INPUT: true; the input reads as it did. -/
def gameMovesSpec : ChangeSpec := { name := "gameMoves", fn := fun _ => fun
  | [d1, d2, d3] => { results := [.lit (.bool true)], args := [d1, d2, d3] }
  | _ => none }
def gameMovesRow : OpenClaim := { program := "ytmjjfafkmfcpnaa", sum := "0573f2bd75d3bcd3b3aee49144e98dce51cd97163d0685f9690f1de2d8459f27", func := "stokvel/stokvellaw21.GameMoves", spec := "gameMoves", unfollowed := true, recurses := true, apart := false }
def GameMovesSaid : Prop := gameMovesRow.holds Try.pinned (OpenSpec.ofChange gameMovesSpec)

/-- ITS FALSE NEIGHBOUR: 'it returns false'. Refute it at one input. -/
def gameMovesWrong : ChangeSpec := { name := "gameMoves", fn := fun _ => fun
  | [d1, d2, d3] => { results := [.lit (.bool false)], args := [d1, d2, d3] }
  | _ => none }
def GameMovesWrongFalsely : Prop := gameMovesRow.holds Try.pinned (OpenSpec.ofChange gameMovesWrong)

/- THE SECOND FORM. 'bulk': how many values and letters a reading holds, each counted each time it is reached (what is shared counts as often as it is met; a slice's spare places count too). A statement '..UptoSaid' is the law's where the arguments, and the package variables that the reading takes, are together of bulk at most 1048576: NARROWER than '..Said'. Prove '..Said' where nothing that the law and all that it calls make is longer than what came in: it says more and counts as full. Else prove '..UptoSaid'. A law counts once. -/
mutual
def uptoBulk {H : Type} : DataW H → Nat
  | .lit (.string bytes) => bytes.length + 1
  | .lit _ => 1
  | .nil => 1
  | .ptr d => uptoBulk d + 1
  | .slice elems spare => uptoBulkAll elems + uptoBulkAll spare + 1
  | .agg parts => uptoBulkAll parts + 1
  | .iface _ d => uptoBulk d + 1
  | .map entries => uptoBulkEntries entries + 1
  | .held _ => 1
def uptoBulkAll {H : Type} : List (DataW H) → Nat
  | [] => 0
  | d :: r => uptoBulk d + uptoBulkAll r
def uptoBulkEntries {H : Type} : List (Lit × DataW H) → Nat
  | [] => 0
  | x :: r => uptoBulkEntry x + uptoBulkEntries r
def uptoBulkEntry {H : Type} : Lit × DataW H → Nat
  | (.string bytes, d) => bytes.length + uptoBulk d + 1
  | (_, d) => uptoBulk d + 1
 end
def uptoSmall : (H : Type) → List (DataW H) → Bool := fun _ ds => decide (uptoBulkAll ds ≤ 1048576)
def OpenSpec.upto (s : _root_.Go.ChangeSpec) : _root_.Go.OpenSpec := { _root_.Go.OpenSpec.ofChange s with cond := some uptoSmall }

/-- 'stokvellaw21.GameTells', WHERE WHAT IT READS IS OF BULK AT MOST 1048576: true; the input reads as it did. -/
def gameTellsUptoRow : OpenClaim := { program := "ytmjjfafkmfcpnaa", sum := "0573f2bd75d3bcd3b3aee49144e98dce51cd97163d0685f9690f1de2d8459f27", func := "stokvel/stokvellaw21.GameTells", spec := "gameTells", unfollowed := true, recurses := true, apart := false, narrowed := true }
def GameTellsUptoSaid : Prop := gameTellsUptoRow.holds Try.pinned (OpenSpec.upto gameTellsSpec)

/-- 'stokvellaw21.GameBounds', WHERE WHAT IT READS IS OF BULK AT MOST 1048576: true; the input reads as it did. -/
def gameBoundsUptoRow : OpenClaim := { program := "ytmjjfafkmfcpnaa", sum := "0573f2bd75d3bcd3b3aee49144e98dce51cd97163d0685f9690f1de2d8459f27", func := "stokvel/stokvellaw21.GameBounds", spec := "gameBounds", unfollowed := true, recurses := true, apart := false, narrowed := true }
def GameBoundsUptoSaid : Prop := gameBoundsUptoRow.holds Try.pinned (OpenSpec.upto gameBoundsSpec)

/-- 'stokvellaw21.GameProves', WHERE WHAT IT READS IS OF BULK AT MOST 1048576: true; the input reads as it did. -/
def gameProvesUptoRow : OpenClaim := { program := "ytmjjfafkmfcpnaa", sum := "0573f2bd75d3bcd3b3aee49144e98dce51cd97163d0685f9690f1de2d8459f27", func := "stokvel/stokvellaw21.GameProves", spec := "gameProves", unfollowed := true, recurses := true, apart := false, narrowed := true }
def GameProvesUptoSaid : Prop := gameProvesUptoRow.holds Try.pinned (OpenSpec.upto gameProvesSpec)

/-- 'stokvellaw21.GameLeast', WHERE WHAT IT READS IS OF BULK AT MOST 1048576: true; the input reads as it did. -/
def gameLeastUptoRow : OpenClaim := { program := "ytmjjfafkmfcpnaa", sum := "0573f2bd75d3bcd3b3aee49144e98dce51cd97163d0685f9690f1de2d8459f27", func := "stokvel/stokvellaw21.GameLeast", spec := "gameLeast", unfollowed := true, recurses := true, apart := false, narrowed := true }
def GameLeastUptoSaid : Prop := gameLeastUptoRow.holds Try.pinned (OpenSpec.upto gameLeastSpec)

/-- 'stokvellaw21.GameMoves', WHERE WHAT IT READS IS OF BULK AT MOST 1048576: true; the input reads as it did. -/
def gameMovesUptoRow : OpenClaim := { program := "ytmjjfafkmfcpnaa", sum := "0573f2bd75d3bcd3b3aee49144e98dce51cd97163d0685f9690f1de2d8459f27", func := "stokvel/stokvellaw21.GameMoves", spec := "gameMoves", unfollowed := true, recurses := true, apart := false, narrowed := true }
def GameMovesUptoSaid : Prop := gameMovesUptoRow.holds Try.pinned (OpenSpec.upto gameMovesSpec)

end Rows
end Go.Proofs.Ytmjjfafkmfcpnaa
