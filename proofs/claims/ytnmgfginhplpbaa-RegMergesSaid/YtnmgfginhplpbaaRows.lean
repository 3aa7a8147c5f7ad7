/-
  No cell of these rows narrows 'for every input' (looked for: loops, veiled, ifaces, maps, wideKeys, modest, calm, conditions, laid).
  DERIVED. THE GIVEN ROWS OF THIS SEAT. 5 by the template 'for every input the law returns true; each argument reads behind the call as it read before'; 0 by the template 'total and deterministic' (their statements: YtnmgfginhplpbaaTotals.lean).
  GIVEN WITH THE SEED: the statements are not yours to turn. If you find one false, say at which input.
  Laid BY PROGRAM, IN A SANDBOX (cutbox-rows.mjs): the forced cells as the released guide's own fill.sh prints them over the translation 2188f1eb6aa4a5d9… (all of the seat's roots in one cut). By AI agents, Wed Nov 11 2026. No macro, syntax, notation, axiom, sorry.
-/
import Derived.Test.YtnmgfginhplpbaaChecked
import GoSem.Claim
import GoSem.ClaimJoined
import GoSem.ClaimMapViews
import Derived.JoinedTies
import Derived.KernelRfl
namespace Go.Proofs.Ytnmgfginhplpbaa
/- THE CELL 'sum', in the pinned program and in every row, IS THE sha256 OF THE DUMP (.gsa) THAT YtnmgfginhplpbaaProg.lean LOADS. Nothing in Lean hashes anything: it is a label: what it is worth is what the hold of that sum in a sandbox is worth. -/
noncomputable def Try.pinned : Pinned := { name := "ytnmgfginhplpbaa", sum := "2188f1eb6aa4a5d9b2e158d12eae23f3b1697b51d033c2eedac6db8623f5e22e", checked := Try.checked }
namespace Rows
def none {H : Type} : Left H := { results := [], args := [] }

/-- 'eddylaw09.RegMoves': WHATEVER THE INPUT: true; the input reads as it did. -/
def regMovesSpec : ChangeSpec := { name := "regMoves", fn := fun _ => fun
  | [d1, d2, d3, d4, d5] => { results := [.lit (.bool true)], args := [d1, d2, d3, d4, d5] }
  | _ => none }
def regMovesRow : OpenClaim := { program := "ytnmgfginhplpbaa", sum := "2188f1eb6aa4a5d9b2e158d12eae23f3b1697b51d033c2eedac6db8623f5e22e", func := "eddy/eddylaw09.RegMoves", spec := "regMoves", apart := false }
def RegMovesSaid : Prop := regMovesRow.holds Try.pinned (OpenSpec.ofChange regMovesSpec)

/-- ITS FALSE NEIGHBOUR: 'it returns false'. Refute it at one input. -/
def regMovesWrong : ChangeSpec := { name := "regMoves", fn := fun _ => fun
  | [d1, d2, d3, d4, d5] => { results := [.lit (.bool false)], args := [d1, d2, d3, d4, d5] }
  | _ => none }
def RegMovesWrongFalsely : Prop := regMovesRow.holds Try.pinned (OpenSpec.ofChange regMovesWrong)

/-- 'eddylaw09.RegBack': WHATEVER THE INPUT: true; the input reads as it did. -/
def regBackSpec : ChangeSpec := { name := "regBack", fn := fun _ => fun
  | [d1, d2, d3, d4, d5] => { results := [.lit (.bool true)], args := [d1, d2, d3, d4, d5] }
  | _ => none }
def regBackRow : OpenClaim := { program := "ytnmgfginhplpbaa", sum := "2188f1eb6aa4a5d9b2e158d12eae23f3b1697b51d033c2eedac6db8623f5e22e", func := "eddy/eddylaw09.RegBack", spec := "regBack", apart := false }
def RegBackSaid : Prop := regBackRow.holds Try.pinned (OpenSpec.ofChange regBackSpec)

/-- ITS FALSE NEIGHBOUR: 'it returns false'. Refute it at one input. -/
def regBackWrong : ChangeSpec := { name := "regBack", fn := fun _ => fun
  | [d1, d2, d3, d4, d5] => { results := [.lit (.bool false)], args := [d1, d2, d3, d4, d5] }
  | _ => none }
def RegBackWrongFalsely : Prop := regBackRow.holds Try.pinned (OpenSpec.ofChange regBackWrong)

/-- 'eddylaw09.RegTells': WHATEVER THE INPUT: true; the input reads as it did. -/
def regTellsSpec : ChangeSpec := { name := "regTells", fn := fun _ => fun
  | [d1, d2, d3, d4] => { results := [.lit (.bool true)], args := [d1, d2, d3, d4] }
  | _ => none }
def regTellsRow : OpenClaim := { program := "ytnmgfginhplpbaa", sum := "2188f1eb6aa4a5d9b2e158d12eae23f3b1697b51d033c2eedac6db8623f5e22e", func := "eddy/eddylaw09.RegTells", spec := "regTells", apart := false }
def RegTellsSaid : Prop := regTellsRow.holds Try.pinned (OpenSpec.ofChange regTellsSpec)

/-- ITS FALSE NEIGHBOUR: 'it returns false'. Refute it at one input. -/
def regTellsWrong : ChangeSpec := { name := "regTells", fn := fun _ => fun
  | [d1, d2, d3, d4] => { results := [.lit (.bool false)], args := [d1, d2, d3, d4] }
  | _ => none }
def RegTellsWrongFalsely : Prop := regTellsRow.holds Try.pinned (OpenSpec.ofChange regTellsWrong)

/-- 'eddylaw09.RegMost': WHATEVER THE INPUT: true; the input reads as it did. -/
def regMostSpec : ChangeSpec := { name := "regMost", fn := fun _ => fun
  | [d] => { results := [.lit (.bool true)], args := [d] }
  | _ => none }
def regMostRow : OpenClaim := { program := "ytnmgfginhplpbaa", sum := "2188f1eb6aa4a5d9b2e158d12eae23f3b1697b51d033c2eedac6db8623f5e22e", func := "eddy/eddylaw09.RegMost", spec := "regMost", unfollowed := true, recurses := true, apart := false }
def RegMostSaid : Prop := regMostRow.holds Try.pinned (OpenSpec.ofChange regMostSpec)

/-- ITS FALSE NEIGHBOUR: 'it returns false'. Refute it at one input. -/
def regMostWrong : ChangeSpec := { name := "regMost", fn := fun _ => fun
  | [d] => { results := [.lit (.bool false)], args := [d] }
  | _ => none }
def RegMostWrongFalsely : Prop := regMostRow.holds Try.pinned (OpenSpec.ofChange regMostWrong)

/-- 'eddylaw09.RegMerges': WHATEVER THE INPUT: true; the input reads as it did. -/
def regMergesSpec : ChangeSpec := { name := "regMerges", fn := fun _ => fun
  | [d1, d2] => { results := [.lit (.bool true)], args := [d1, d2] }
  | _ => none }
def regMergesRow : OpenClaim := { program := "ytnmgfginhplpbaa", sum := "2188f1eb6aa4a5d9b2e158d12eae23f3b1697b51d033c2eedac6db8623f5e22e", func := "eddy/eddylaw09.RegMerges", spec := "regMerges", unfollowed := true, recurses := true, apart := false }
def RegMergesSaid : Prop := regMergesRow.holds Try.pinned (OpenSpec.ofChange regMergesSpec)

/-- ITS FALSE NEIGHBOUR: 'it returns false'. Refute it at one input. -/
def regMergesWrong : ChangeSpec := { name := "regMerges", fn := fun _ => fun
  | [d1, d2] => { results := [.lit (.bool false)], args := [d1, d2] }
  | _ => none }
def RegMergesWrongFalsely : Prop := regMergesRow.holds Try.pinned (OpenSpec.ofChange regMergesWrong)

/- THE SECOND FORM. 'bulk': how many values and letters a reading holds, each counted each time it is reached (what is shared counts as often as it is met; a slice's spare places count too). A statement '..UptoSaid' is the law's where the arguments, and the package variables that the reading takes, are together of bulk at most 1048576: NARROWER than '..Said'. Prove '..Said' where nothing that the law and all that it calls make is longer than what came in: it says more and counts as full. Else prove '..UptoSaid'. A law counts once. -/
mutual
def uptoBulk {H : Type} : DataW H → Nat
  | .lit (.string bytes) => bytes.length + 1
  | .lit _ => 1
  | .nil => 1
  | .ptr d => uptoBulk d + 1
  | .slice elems spare => uptoBulkAll elems + uptoBulkAll spare + 1
  | .agg parts => uptoBulkAll parts + 1
  | .iface _ d => uptoBulk d + 1
  | .map entries => uptoBulkEntries entries + 1
  | .held _ => 1
def uptoBulkAll {H : Type} : List (DataW H) → Nat
  | [] => 0
  | d :: r => uptoBulk d + uptoBulkAll r
def uptoBulkEntries {H : Type} : List (Lit × DataW H) → Nat
  | [] => 0
  | x :: r => uptoBulkEntry x + uptoBulkEntries r
def uptoBulkEntry {H : Type} : Lit × DataW H → Nat
  | (.string bytes, d) => bytes.length + uptoBulk d + 1
  | (_, d) => uptoBulk d + 1
 end
def uptoSmall : (H : Type) → List (DataW H) → Bool := fun _ ds => decide (uptoBulkAll ds ≤ 1048576)
def OpenSpec.upto (s : _root_.Go.ChangeSpec) : _root_.Go.OpenSpec := { _root_.Go.OpenSpec.ofChange s with cond := some uptoSmall }

/-- 'eddylaw09.RegMoves', WHERE WHAT IT READS IS OF BULK AT MOST 1048576: true; the input reads as it did. -/
def regMovesUptoRow : OpenClaim := { program := "ytnmgfginhplpbaa", sum := "2188f1eb6aa4a5d9b2e158d12eae23f3b1697b51d033c2eedac6db8623f5e22e", func := "eddy/eddylaw09.RegMoves", spec := "regMoves", apart := false, narrowed := true }
def RegMovesUptoSaid : Prop := regMovesUptoRow.holds Try.pinned (OpenSpec.upto regMovesSpec)

/-- 'eddylaw09.RegBack', WHERE WHAT IT READS IS OF BULK AT MOST 1048576: true; the input reads as it did. -/
def regBackUptoRow : OpenClaim := { program := "ytnmgfginhplpbaa", sum := "2188f1eb6aa4a5d9b2e158d12eae23f3b1697b51d033c2eedac6db8623f5e22e", func := "eddy/eddylaw09.RegBack", spec := "regBack", apart := false, narrowed := true }
def RegBackUptoSaid : Prop := regBackUptoRow.holds Try.pinned (OpenSpec.upto regBackSpec)

/-- 'eddylaw09.RegTells', WHERE WHAT IT READS IS OF BULK AT MOST 1048576: true; the input reads as it did. -/
def regTellsUptoRow : OpenClaim := { program := "ytnmgfginhplpbaa", sum := "2188f1eb6aa4a5d9b2e158d12eae23f3b1697b51d033c2eedac6db8623f5e22e", func := "eddy/eddylaw09.RegTells", spec := "regTells", apart := false, narrowed := true }
def RegTellsUptoSaid : Prop := regTellsUptoRow.holds Try.pinned (OpenSpec.upto regTellsSpec)

/-- 'eddylaw09.RegMost', WHERE WHAT IT READS IS OF BULK AT MOST 1048576: true; the input reads as it did. -/
def regMostUptoRow : OpenClaim := { program := "ytnmgfginhplpbaa", sum := "2188f1eb6aa4a5d9b2e158d12eae23f3b1697b51d033c2eedac6db8623f5e22e", func := "eddy/eddylaw09.RegMost", spec := "regMost", unfollowed := true, recurses := true, apart := false, narrowed := true }
def RegMostUptoSaid : Prop := regMostUptoRow.holds Try.pinned (OpenSpec.upto regMostSpec)

/-- 'eddylaw09.RegMerges', WHERE WHAT IT READS IS OF BULK AT MOST 1048576: true; the input reads as it did. -/
def regMergesUptoRow : OpenClaim := { program := "ytnmgfginhplpbaa", sum := "2188f1eb6aa4a5d9b2e158d12eae23f3b1697b51d033c2eedac6db8623f5e22e", func := "eddy/eddylaw09.RegMerges", spec := "regMerges", unfollowed := true, recurses := true, apart := false, narrowed := true }
def RegMergesUptoSaid : Prop := regMergesUptoRow.holds Try.pinned (OpenSpec.upto regMergesSpec)

end Rows
end Go.Proofs.Ytnmgfginhplpbaa
