/-
  No cell of these rows narrows 'for every input' (looked for: loops, veiled, ifaces, maps, wideKeys, modest, calm, conditions, laid).
  DERIVED. THE GIVEN ROWS OF THIS SEAT. 5 by the template 'for every input the law returns true; each argument reads behind the call as it read before'; 0 by the template 'total and deterministic' (their statements: YtkfodkbgmpbmfaaGreatTotals.lean).
  GIVEN WITH THE SEED: the statements are not yours to turn. If you find one false, say at which input.
  Laid BY PROGRAM, IN A SANDBOX (cutbox-rows.mjs): the forced cells as the released guide's own fill.sh prints them over the translation b72ec458e94a6220… (all of the seat's roots in one cut). By AI agents, Wed Nov 11 2026. No macro, syntax, notation, axiom, sorry.
-/
import Derived.Test.YtkfodkbgmpbmfaaGreatChecked
import GoSem.Claim
import GoSem.ClaimJoined
import GoSem.ClaimMapViews
import Derived.JoinedTies
import Derived.KernelRfl
namespace Go.Proofs.YtkfodkbgmpbmfaaGreat
/- THE CELL 'sum', in the pinned program and in every row, IS THE sha256 OF THE DUMP (.gsa) THAT YtkfodkbgmpbmfaaGreatProg.lean LOADS. Nothing in Lean hashes anything: it is a label: what it is worth is what the hold of that sum in a sandbox is worth. -/
noncomputable def Tryz.pinned : Pinned := { name := "ytkfodkbgmpbmfaagreat", sum := "b72ec458e94a62206da5abe4efd50e7825e5bbbdc57461af1b814d7aa33f9b19", checked := Tryz.checked }
namespace Rows
def none {H : Type} : Left H := { results := [], args := [] }

/-- 'eddylaw22.ViewEdges': WHATEVER THE INPUT: true; the input reads as it did. -/
def viewEdgesSpec : ChangeSpec := { name := "viewEdges", fn := fun _ => fun
  | [d1, d2, d3, d4] => { results := [.lit (.bool true)], args := [d1, d2, d3, d4] }
  | _ => none }
def viewEdgesRow : OpenClaim := { program := "ytkfodkbgmpbmfaagreat", sum := "b72ec458e94a62206da5abe4efd50e7825e5bbbdc57461af1b814d7aa33f9b19", func := "eddy/eddylaw22.ViewEdges", spec := "viewEdges", inPlace := ["math/bits.Add64"], unfollowed := true, recurses := true, apart := false }
def ViewEdgesSaid : Prop := viewEdgesRow.holds Tryz.pinned (OpenSpec.ofChange viewEdgesSpec)

/-- ITS FALSE NEIGHBOUR: 'it returns false'. Refute it at one input. -/
def viewEdgesWrong : ChangeSpec := { name := "viewEdges", fn := fun _ => fun
  | [d1, d2, d3, d4] => { results := [.lit (.bool false)], args := [d1, d2, d3, d4] }
  | _ => none }
def ViewEdgesWrongFalsely : Prop := viewEdgesRow.holds Tryz.pinned (OpenSpec.ofChange viewEdgesWrong)

/-- 'eddylaw22.ViewSums': WHATEVER THE INPUT: true; the input reads as it did. -/
def viewSumsSpec : ChangeSpec := { name := "viewSums", fn := fun _ => fun
  | [d1, d2, d3] => { results := [.lit (.bool true)], args := [d1, d2, d3] }
  | _ => none }
def viewSumsRow : OpenClaim := { program := "ytkfodkbgmpbmfaagreat", sum := "b72ec458e94a62206da5abe4efd50e7825e5bbbdc57461af1b814d7aa33f9b19", func := "eddy/eddylaw22.ViewSums", spec := "viewSums", inPlace := ["math/bits.Add64"], unfollowed := true, recurses := true, apart := false }
def ViewSumsSaid : Prop := viewSumsRow.holds Tryz.pinned (OpenSpec.ofChange viewSumsSpec)

/-- ITS FALSE NEIGHBOUR: 'it returns false'. Refute it at one input. -/
def viewSumsWrong : ChangeSpec := { name := "viewSums", fn := fun _ => fun
  | [d1, d2, d3] => { results := [.lit (.bool false)], args := [d1, d2, d3] }
  | _ => none }
def ViewSumsWrongFalsely : Prop := viewSumsRow.holds Tryz.pinned (OpenSpec.ofChange viewSumsWrong)

/-- 'eddylaw22.ViewConserves': WHATEVER THE INPUT: true; the input reads as it did. -/
def viewConservesSpec : ChangeSpec := { name := "viewConserves", fn := fun _ => fun
  | [d1, d2, d3] => { results := [.lit (.bool true)], args := [d1, d2, d3] }
  | _ => none }
def viewConservesRow : OpenClaim := { program := "ytkfodkbgmpbmfaagreat", sum := "b72ec458e94a62206da5abe4efd50e7825e5bbbdc57461af1b814d7aa33f9b19", func := "eddy/eddylaw22.ViewConserves", spec := "viewConserves", inPlace := ["math/bits.Add64"], unfollowed := true, recurses := true, apart := false }
def ViewConservesSaid : Prop := viewConservesRow.holds Tryz.pinned (OpenSpec.ofChange viewConservesSpec)

/-- ITS FALSE NEIGHBOUR: 'it returns false'. Refute it at one input. -/
def viewConservesWrong : ChangeSpec := { name := "viewConserves", fn := fun _ => fun
  | [d1, d2, d3] => { results := [.lit (.bool false)], args := [d1, d2, d3] }
  | _ => none }
def ViewConservesWrongFalsely : Prop := viewConservesRow.holds Tryz.pinned (OpenSpec.ofChange viewConservesWrong)

/-- 'eddylaw22.ViewGroups': WHATEVER THE INPUT: true; the input reads as it did. -/
def viewGroupsSpec : ChangeSpec := { name := "viewGroups", fn := fun _ => fun
  | [d1, d2] => { results := [.lit (.bool true)], args := [d1, d2] }
  | _ => none }
def viewGroupsRow : OpenClaim := { program := "ytkfodkbgmpbmfaagreat", sum := "b72ec458e94a62206da5abe4efd50e7825e5bbbdc57461af1b814d7aa33f9b19", func := "eddy/eddylaw22.ViewGroups", spec := "viewGroups", inPlace := ["math/bits.Add64"], unfollowed := true, recurses := true, apart := false }
def ViewGroupsSaid : Prop := viewGroupsRow.holds Tryz.pinned (OpenSpec.ofChange viewGroupsSpec)

/-- ITS FALSE NEIGHBOUR: 'it returns false'. Refute it at one input. -/
def viewGroupsWrong : ChangeSpec := { name := "viewGroups", fn := fun _ => fun
  | [d1, d2] => { results := [.lit (.bool false)], args := [d1, d2] }
  | _ => none }
def ViewGroupsWrongFalsely : Prop := viewGroupsRow.holds Tryz.pinned (OpenSpec.ofChange viewGroupsWrong)

/-- 'eddylaw22.ViewSeats': WHATEVER THE INPUT: true; the input reads as it did. -/
def viewSeatsSpec : ChangeSpec := { name := "viewSeats", fn := fun _ => fun
  | [d1, d2] => { results := [.lit (.bool true)], args := [d1, d2] }
  | _ => none }
def viewSeatsRow : OpenClaim := { program := "ytkfodkbgmpbmfaagreat", sum := "b72ec458e94a62206da5abe4efd50e7825e5bbbdc57461af1b814d7aa33f9b19", func := "eddy/eddylaw22.ViewSeats", spec := "viewSeats", inPlace := ["math/bits.Add64"], unfollowed := true, recurses := true, apart := false }
def ViewSeatsSaid : Prop := viewSeatsRow.holds Tryz.pinned (OpenSpec.ofChange viewSeatsSpec)

/-- ITS FALSE NEIGHBOUR: 'it returns false'. Refute it at one input. -/
def viewSeatsWrong : ChangeSpec := { name := "viewSeats", fn := fun _ => fun
  | [d1, d2] => { results := [.lit (.bool false)], args := [d1, d2] }
  | _ => none }
def ViewSeatsWrongFalsely : Prop := viewSeatsRow.holds Tryz.pinned (OpenSpec.ofChange viewSeatsWrong)

/- THE SECOND FORM. 'bulk': how many values and letters a reading holds, each counted each time it is reached (what is shared counts as often as it is met; a slice's spare places count too). A statement '..UptoSaid' is the law's where the arguments, and the package variables that the reading takes, are together of bulk at most 1048576: NARROWER than '..Said'. Prove '..Said' where nothing that the law and all that it calls make is longer than what came in: it says more and counts as full. Else prove '..UptoSaid'. A law counts once. -/
mutual
def uptoBulk {H : Type} : DataW H → Nat
  | .lit (.string bytes) => bytes.length + 1
  | .lit _ => 1
  | .nil => 1
  | .ptr d => uptoBulk d + 1
  | .slice elems spare => uptoBulkAll elems + uptoBulkAll spare + 1
  | .agg parts => uptoBulkAll parts + 1
  | .iface _ d => uptoBulk d + 1
  | .map entries => uptoBulkEntries entries + 1
  | .held _ => 1
def uptoBulkAll {H : Type} : List (DataW H) → Nat
  | [] => 0
  | d :: r => uptoBulk d + uptoBulkAll r
def uptoBulkEntries {H : Type} : List (Lit × DataW H) → Nat
  | [] => 0
  | x :: r => uptoBulkEntry x + uptoBulkEntries r
def uptoBulkEntry {H : Type} : Lit × DataW H → Nat
  | (.string bytes, d) => bytes.length + uptoBulk d + 1
  | (_, d) => uptoBulk d + 1
 end
def uptoSmall : (H : Type) → List (DataW H) → Bool := fun _ ds => decide (uptoBulkAll ds ≤ 1048576)
def OpenSpec.upto (s : _root_.Go.ChangeSpec) : _root_.Go.OpenSpec := { _root_.Go.OpenSpec.ofChange s with cond := some uptoSmall }

/-- 'eddylaw22.ViewEdges', WHERE WHAT IT READS IS OF BULK AT MOST 1048576: true; the input reads as it did. -/
def viewEdgesUptoRow : OpenClaim := { program := "ytkfodkbgmpbmfaagreat", sum := "b72ec458e94a62206da5abe4efd50e7825e5bbbdc57461af1b814d7aa33f9b19", func := "eddy/eddylaw22.ViewEdges", spec := "viewEdges", inPlace := ["math/bits.Add64"], unfollowed := true, recurses := true, apart := false, narrowed := true }
def ViewEdgesUptoSaid : Prop := viewEdgesUptoRow.holds Tryz.pinned (OpenSpec.upto viewEdgesSpec)

/-- 'eddylaw22.ViewSums', WHERE WHAT IT READS IS OF BULK AT MOST 1048576: true; the input reads as it did. -/
def viewSumsUptoRow : OpenClaim := { program := "ytkfodkbgmpbmfaagreat", sum := "b72ec458e94a62206da5abe4efd50e7825e5bbbdc57461af1b814d7aa33f9b19", func := "eddy/eddylaw22.ViewSums", spec := "viewSums", inPlace := ["math/bits.Add64"], unfollowed := true, recurses := true, apart := false, narrowed := true }
def ViewSumsUptoSaid : Prop := viewSumsUptoRow.holds Tryz.pinned (OpenSpec.upto viewSumsSpec)

/-- 'eddylaw22.ViewConserves', WHERE WHAT IT READS IS OF BULK AT MOST 1048576: true; the input reads as it did. -/
def viewConservesUptoRow : OpenClaim := { program := "ytkfodkbgmpbmfaagreat", sum := "b72ec458e94a62206da5abe4efd50e7825e5bbbdc57461af1b814d7aa33f9b19", func := "eddy/eddylaw22.ViewConserves", spec := "viewConserves", inPlace := ["math/bits.Add64"], unfollowed := true, recurses := true, apart := false, narrowed := true }
def ViewConservesUptoSaid : Prop := viewConservesUptoRow.holds Tryz.pinned (OpenSpec.upto viewConservesSpec)

/-- 'eddylaw22.ViewGroups', WHERE WHAT IT READS IS OF BULK AT MOST 1048576: true; the input reads as it did. -/
def viewGroupsUptoRow : OpenClaim := { program := "ytkfodkbgmpbmfaagreat", sum := "b72ec458e94a62206da5abe4efd50e7825e5bbbdc57461af1b814d7aa33f9b19", func := "eddy/eddylaw22.ViewGroups", spec := "viewGroups", inPlace := ["math/bits.Add64"], unfollowed := true, recurses := true, apart := false, narrowed := true }
def ViewGroupsUptoSaid : Prop := viewGroupsUptoRow.holds Tryz.pinned (OpenSpec.upto viewGroupsSpec)

/-- 'eddylaw22.ViewSeats', WHERE WHAT IT READS IS OF BULK AT MOST 1048576: true; the input reads as it did. -/
def viewSeatsUptoRow : OpenClaim := { program := "ytkfodkbgmpbmfaagreat", sum := "b72ec458e94a62206da5abe4efd50e7825e5bbbdc57461af1b814d7aa33f9b19", func := "eddy/eddylaw22.ViewSeats", spec := "viewSeats", inPlace := ["math/bits.Add64"], unfollowed := true, recurses := true, apart := false, narrowed := true }
def ViewSeatsUptoSaid : Prop := viewSeatsUptoRow.holds Tryz.pinned (OpenSpec.upto viewSeatsSpec)

end Rows
end Go.Proofs.YtkfodkbgmpbmfaaGreat
