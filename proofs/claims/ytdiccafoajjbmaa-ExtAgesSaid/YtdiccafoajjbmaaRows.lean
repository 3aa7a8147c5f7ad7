/-
  No cell of these rows narrows 'for every input' (looked for: loops, veiled, ifaces, maps, wideKeys, modest, calm, conditions, laid).
  DERIVED. THE GIVEN ROWS OF THIS SEAT. 4 by the template 'for every input the law returns true; each argument reads behind the call as it read before'; 0 by the template 'total and deterministic' (their statements: YtdiccafoajjbmaaTotals.lean).
  GIVEN WITH THE SEED: the statements are not yours to turn. If you find one false, say at which input.
  Laid BY PROGRAM, IN A SANDBOX (cutbox-rows.mjs): the forced cells as the released guide's own fill.sh prints them over the translation 51bc9edeb98f9e95… (all of the seat's roots in one cut). By AI agents, Wed Nov 11 2026. No macro, syntax, notation, axiom, sorry.
-/
import Derived.Test.YtdiccafoajjbmaaChecked
import GoSem.Claim
import GoSem.ClaimJoined
import GoSem.ClaimMapViews
import Derived.JoinedTies
import Derived.KernelRfl
namespace Go.Proofs.Ytdiccafoajjbmaa
/- THE CELL 'sum', in the pinned program and in every row, IS THE sha256 OF THE DUMP (.gsa) THAT YtdiccafoajjbmaaProg.lean LOADS. Nothing in Lean hashes anything: it is a label: what it is worth is what the hold of that sum in a sandbox is worth. -/
noncomputable def Try.pinned : Pinned := { name := "ytdiccafoajjbmaa", sum := "51bc9edeb98f9e95c70acee519b70580daa5b6ab79439c80d1b237d019bd3cd0", checked := Try.checked }
namespace Rows
def none {H : Type} : Left H := { results := [], args := [] }

/-- 'eddylaw16.ExtHolds': WHATEVER THE INPUT: true; the input reads as it did. -/
def extHoldsSpec : ChangeSpec := { name := "extHolds", fn := fun _ => fun
  | [d1, d2, d3, d4] => { results := [.lit (.bool true)], args := [d1, d2, d3, d4] }
  | _ => none }
def extHoldsRow : OpenClaim := { program := "ytdiccafoajjbmaa", sum := "51bc9edeb98f9e95c70acee519b70580daa5b6ab79439c80d1b237d019bd3cd0", func := "eddy/eddylaw16.ExtHolds", spec := "extHolds", unfollowed := true, recurses := true, apart := false }
def ExtHoldsSaid : Prop := extHoldsRow.holds Try.pinned (OpenSpec.ofChange extHoldsSpec)

/-- ITS FALSE NEIGHBOUR: 'it returns false'. Refute it at one input. -/
def extHoldsWrong : ChangeSpec := { name := "extHolds", fn := fun _ => fun
  | [d1, d2, d3, d4] => { results := [.lit (.bool false)], args := [d1, d2, d3, d4] }
  | _ => none }
def ExtHoldsWrongFalsely : Prop := extHoldsRow.holds Try.pinned (OpenSpec.ofChange extHoldsWrong)

/-- 'eddylaw16.ExtOrder': WHATEVER THE INPUT: true; the input reads as it did. -/
def extOrderSpec : ChangeSpec := { name := "extOrder", fn := fun _ => fun
  | [d1, d2, d3] => { results := [.lit (.bool true)], args := [d1, d2, d3] }
  | _ => none }
def extOrderRow : OpenClaim := { program := "ytdiccafoajjbmaa", sum := "51bc9edeb98f9e95c70acee519b70580daa5b6ab79439c80d1b237d019bd3cd0", func := "eddy/eddylaw16.ExtOrder", spec := "extOrder", unfollowed := true, recurses := true, apart := false }
def ExtOrderSaid : Prop := extOrderRow.holds Try.pinned (OpenSpec.ofChange extOrderSpec)

/-- ITS FALSE NEIGHBOUR: 'it returns false'. Refute it at one input. -/
def extOrderWrong : ChangeSpec := { name := "extOrder", fn := fun _ => fun
  | [d1, d2, d3] => { results := [.lit (.bool false)], args := [d1, d2, d3] }
  | _ => none }
def ExtOrderWrongFalsely : Prop := extOrderRow.holds Try.pinned (OpenSpec.ofChange extOrderWrong)

/-- 'eddylaw16.ExtAges': WHATEVER THE INPUT: true; the input reads as it did. -/
def extAgesSpec : ChangeSpec := { name := "extAges", fn := fun _ => fun
  | [d1, d2, d3, d4, d5, d6] => { results := [.lit (.bool true)], args := [d1, d2, d3, d4, d5, d6] }
  | _ => none }
def extAgesRow : OpenClaim := { program := "ytdiccafoajjbmaa", sum := "51bc9edeb98f9e95c70acee519b70580daa5b6ab79439c80d1b237d019bd3cd0", func := "eddy/eddylaw16.ExtAges", spec := "extAges", unfollowed := true, recurses := true, apart := false }
def ExtAgesSaid : Prop := extAgesRow.holds Try.pinned (OpenSpec.ofChange extAgesSpec)

/-- ITS FALSE NEIGHBOUR: 'it returns false'. Refute it at one input. -/
def extAgesWrong : ChangeSpec := { name := "extAges", fn := fun _ => fun
  | [d1, d2, d3, d4, d5, d6] => { results := [.lit (.bool false)], args := [d1, d2, d3, d4, d5, d6] }
  | _ => none }
def ExtAgesWrongFalsely : Prop := extAgesRow.holds Try.pinned (OpenSpec.ofChange extAgesWrong)

/-- 'eddylaw16.ExtTicks': WHATEVER THE INPUT: true; the input reads as it did. -/
def extTicksSpec : ChangeSpec := { name := "extTicks", fn := fun _ => fun
  | [d1, d2, d3, d4, d5, d6, d7] => { results := [.lit (.bool true)], args := [d1, d2, d3, d4, d5, d6, d7] }
  | _ => none }
def extTicksRow : OpenClaim := { program := "ytdiccafoajjbmaa", sum := "51bc9edeb98f9e95c70acee519b70580daa5b6ab79439c80d1b237d019bd3cd0", func := "eddy/eddylaw16.ExtTicks", spec := "extTicks", unfollowed := true, recurses := true, apart := false }
def ExtTicksSaid : Prop := extTicksRow.holds Try.pinned (OpenSpec.ofChange extTicksSpec)

/-- ITS FALSE NEIGHBOUR: 'it returns false'. Refute it at one input. -/
def extTicksWrong : ChangeSpec := { name := "extTicks", fn := fun _ => fun
  | [d1, d2, d3, d4, d5, d6, d7] => { results := [.lit (.bool false)], args := [d1, d2, d3, d4, d5, d6, d7] }
  | _ => none }
def ExtTicksWrongFalsely : Prop := extTicksRow.holds Try.pinned (OpenSpec.ofChange extTicksWrong)

/- THE SECOND FORM. 'bulk': how many values and letters a reading holds, each counted each time it is reached (what is shared counts as often as it is met; a slice's spare places count too). A statement '..UptoSaid' is the law's where the arguments, and the package variables that the reading takes, are together of bulk at most 1048576: NARROWER than '..Said'. Prove '..Said' where nothing that the law and all that it calls make is longer than what came in: it says more and counts as full. Else prove '..UptoSaid'. A law counts once. -/
mutual
def uptoBulk {H : Type} : DataW H → Nat
  | .lit (.string bytes) => bytes.length + 1
  | .lit _ => 1
  | .nil => 1
  | .ptr d => uptoBulk d + 1
  | .slice elems spare => uptoBulkAll elems + uptoBulkAll spare + 1
  | .agg parts => uptoBulkAll parts + 1
  | .iface _ d => uptoBulk d + 1
  | .map entries => uptoBulkEntries entries + 1
  | .held _ => 1
def uptoBulkAll {H : Type} : List (DataW H) → Nat
  | [] => 0
  | d :: r => uptoBulk d + uptoBulkAll r
def uptoBulkEntries {H : Type} : List (Lit × DataW H) → Nat
  | [] => 0
  | x :: r => uptoBulkEntry x + uptoBulkEntries r
def uptoBulkEntry {H : Type} : Lit × DataW H → Nat
  | (.string bytes, d) => bytes.length + uptoBulk d + 1
  | (_, d) => uptoBulk d + 1
 end
def uptoSmall : (H : Type) → List (DataW H) → Bool := fun _ ds => decide (uptoBulkAll ds ≤ 1048576)
def OpenSpec.upto (s : _root_.Go.ChangeSpec) : _root_.Go.OpenSpec := { _root_.Go.OpenSpec.ofChange s with cond := some uptoSmall }

/-- 'eddylaw16.ExtHolds', WHERE WHAT IT READS IS OF BULK AT MOST 1048576: true; the input reads as it did. -/
def extHoldsUptoRow : OpenClaim := { program := "ytdiccafoajjbmaa", sum := "51bc9edeb98f9e95c70acee519b70580daa5b6ab79439c80d1b237d019bd3cd0", func := "eddy/eddylaw16.ExtHolds", spec := "extHolds", unfollowed := true, recurses := true, apart := false, narrowed := true }
def ExtHoldsUptoSaid : Prop := extHoldsUptoRow.holds Try.pinned (OpenSpec.upto extHoldsSpec)

/-- 'eddylaw16.ExtOrder', WHERE WHAT IT READS IS OF BULK AT MOST 1048576: true; the input reads as it did. -/
def extOrderUptoRow : OpenClaim := { program := "ytdiccafoajjbmaa", sum := "51bc9edeb98f9e95c70acee519b70580daa5b6ab79439c80d1b237d019bd3cd0", func := "eddy/eddylaw16.ExtOrder", spec := "extOrder", unfollowed := true, recurses := true, apart := false, narrowed := true }
def ExtOrderUptoSaid : Prop := extOrderUptoRow.holds Try.pinned (OpenSpec.upto extOrderSpec)

/-- 'eddylaw16.ExtAges', WHERE WHAT IT READS IS OF BULK AT MOST 1048576: true; the input reads as it did. -/
def extAgesUptoRow : OpenClaim := { program := "ytdiccafoajjbmaa", sum := "51bc9edeb98f9e95c70acee519b70580daa5b6ab79439c80d1b237d019bd3cd0", func := "eddy/eddylaw16.ExtAges", spec := "extAges", unfollowed := true, recurses := true, apart := false, narrowed := true }
def ExtAgesUptoSaid : Prop := extAgesUptoRow.holds Try.pinned (OpenSpec.upto extAgesSpec)

/-- 'eddylaw16.ExtTicks', WHERE WHAT IT READS IS OF BULK AT MOST 1048576: true; the input reads as it did. -/
def extTicksUptoRow : OpenClaim := { program := "ytdiccafoajjbmaa", sum := "51bc9edeb98f9e95c70acee519b70580daa5b6ab79439c80d1b237d019bd3cd0", func := "eddy/eddylaw16.ExtTicks", spec := "extTicks", unfollowed := true, recurses := true, apart := false, narrowed := true }
def ExtTicksUptoSaid : Prop := extTicksUptoRow.holds Try.pinned (OpenSpec.upto extTicksSpec)

end Rows
end Go.Proofs.Ytdiccafoajjbmaa
