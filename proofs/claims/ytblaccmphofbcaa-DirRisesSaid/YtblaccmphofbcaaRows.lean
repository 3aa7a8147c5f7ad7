/-
  No cell of these rows narrows 'for every input' (looked for: loops, veiled, ifaces, maps, wideKeys, modest, calm, conditions, laid).
  DERIVED. THE GIVEN ROWS OF THIS SEAT. 6 by the template 'for every input the law returns true; each argument reads behind the call as it read before'; 0 by the template 'total and deterministic' (their statements: YtblaccmphofbcaaTotals.lean).
  GIVEN WITH THE SEED: the statements are not yours to turn. If you find one false, say at which input.
  Laid BY PROGRAM, IN A SANDBOX (cutbox-rows.mjs): the forced cells as the released guide's own fill.sh prints them over the translation 386b5d1e6999e141… (all of the seat's roots in one cut). By AI agents, Wed Nov 11 2026. No macro, syntax, notation, axiom, sorry.
-/
import Derived.Test.YtblaccmphofbcaaChecked
import GoSem.Claim
import GoSem.ClaimJoined
import GoSem.ClaimMapViews
import Derived.JoinedTies
import Derived.KernelRfl
namespace Go.Proofs.Ytblaccmphofbcaa
/- THE CELL 'sum', in the pinned program and in every row, IS THE sha256 OF THE DUMP (.gsa) THAT YtblaccmphofbcaaProg.lean LOADS. Nothing in Lean hashes anything: it is a label: what it is worth is what the hold of that sum in a sandbox is worth. -/
noncomputable def Try.pinned : Pinned := { name := "ytblaccmphofbcaa", sum := "386b5d1e6999e141e3c58d7e4c5f4079b028e11fafb7c74b16088bbe98239af6", checked := Try.checked }
namespace Rows
def none {H : Type} : Left H := { results := [], args := [] }

/-- 'eddylaw17.DirMakes': WHATEVER THE INPUT: true; the input reads as it did. -/
def dirMakesSpec : ChangeSpec := { name := "dirMakes", fn := fun _ => fun
  | [d1, d2, d3, d4, d5] => { results := [.lit (.bool true)], args := [d1, d2, d3, d4, d5] }
  | _ => none }
def dirMakesRow : OpenClaim := { program := "ytblaccmphofbcaa", sum := "386b5d1e6999e141e3c58d7e4c5f4079b028e11fafb7c74b16088bbe98239af6", func := "eddy/eddylaw17.DirMakes", spec := "dirMakes", unfollowed := true, recurses := true, apart := false }
def DirMakesSaid : Prop := dirMakesRow.holds Try.pinned (OpenSpec.ofChange dirMakesSpec)

/-- ITS FALSE NEIGHBOUR: 'it returns false'. Refute it at one input. -/
def dirMakesWrong : ChangeSpec := { name := "dirMakes", fn := fun _ => fun
  | [d1, d2, d3, d4, d5] => { results := [.lit (.bool false)], args := [d1, d2, d3, d4, d5] }
  | _ => none }
def DirMakesWrongFalsely : Prop := dirMakesRow.holds Try.pinned (OpenSpec.ofChange dirMakesWrong)

/-- 'eddylaw17.DirMerges': WHATEVER THE INPUT: true; the input reads as it did. -/
def dirMergesSpec : ChangeSpec := { name := "dirMerges", fn := fun _ => fun
  | [d1, d2] => { results := [.lit (.bool true)], args := [d1, d2] }
  | _ => none }
def dirMergesRow : OpenClaim := { program := "ytblaccmphofbcaa", sum := "386b5d1e6999e141e3c58d7e4c5f4079b028e11fafb7c74b16088bbe98239af6", func := "eddy/eddylaw17.DirMerges", spec := "dirMerges", unfollowed := true, recurses := true, apart := false }
def DirMergesSaid : Prop := dirMergesRow.holds Try.pinned (OpenSpec.ofChange dirMergesSpec)

/-- ITS FALSE NEIGHBOUR: 'it returns false'. Refute it at one input. -/
def dirMergesWrong : ChangeSpec := { name := "dirMerges", fn := fun _ => fun
  | [d1, d2] => { results := [.lit (.bool false)], args := [d1, d2] }
  | _ => none }
def DirMergesWrongFalsely : Prop := dirMergesRow.holds Try.pinned (OpenSpec.ofChange dirMergesWrong)

/-- 'eddylaw17.DirAgrees': WHATEVER THE INPUT: true; the input reads as it did. -/
def dirAgreesSpec : ChangeSpec := { name := "dirAgrees", fn := fun _ => fun
  | [d1, d2, d3] => { results := [.lit (.bool true)], args := [d1, d2, d3] }
  | _ => none }
def dirAgreesRow : OpenClaim := { program := "ytblaccmphofbcaa", sum := "386b5d1e6999e141e3c58d7e4c5f4079b028e11fafb7c74b16088bbe98239af6", func := "eddy/eddylaw17.DirAgrees", spec := "dirAgrees", unfollowed := true, recurses := true, apart := false }
def DirAgreesSaid : Prop := dirAgreesRow.holds Try.pinned (OpenSpec.ofChange dirAgreesSpec)

/-- ITS FALSE NEIGHBOUR: 'it returns false'. Refute it at one input. -/
def dirAgreesWrong : ChangeSpec := { name := "dirAgrees", fn := fun _ => fun
  | [d1, d2, d3] => { results := [.lit (.bool false)], args := [d1, d2, d3] }
  | _ => none }
def DirAgreesWrongFalsely : Prop := dirAgreesRow.holds Try.pinned (OpenSpec.ofChange dirAgreesWrong)

/-- 'eddylaw17.DirFits': WHATEVER THE INPUT: true; the input reads as it did. -/
def dirFitsSpec : ChangeSpec := { name := "dirFits", fn := fun _ => fun
  | [d1, d2, d3, d4] => { results := [.lit (.bool true)], args := [d1, d2, d3, d4] }
  | _ => none }
def dirFitsRow : OpenClaim := { program := "ytblaccmphofbcaa", sum := "386b5d1e6999e141e3c58d7e4c5f4079b028e11fafb7c74b16088bbe98239af6", func := "eddy/eddylaw17.DirFits", spec := "dirFits", unfollowed := true, recurses := true, apart := false }
def DirFitsSaid : Prop := dirFitsRow.holds Try.pinned (OpenSpec.ofChange dirFitsSpec)

/-- ITS FALSE NEIGHBOUR: 'it returns false'. Refute it at one input. -/
def dirFitsWrong : ChangeSpec := { name := "dirFits", fn := fun _ => fun
  | [d1, d2, d3, d4] => { results := [.lit (.bool false)], args := [d1, d2, d3, d4] }
  | _ => none }
def DirFitsWrongFalsely : Prop := dirFitsRow.holds Try.pinned (OpenSpec.ofChange dirFitsWrong)

/-- 'eddylaw17.DirRises': WHATEVER THE INPUT: true; the input reads as it did. -/
def dirRisesSpec : ChangeSpec := { name := "dirRises", fn := fun _ => fun
  | [d1, d2, d3, d4, d5, d6] => { results := [.lit (.bool true)], args := [d1, d2, d3, d4, d5, d6] }
  | _ => none }
def dirRisesRow : OpenClaim := { program := "ytblaccmphofbcaa", sum := "386b5d1e6999e141e3c58d7e4c5f4079b028e11fafb7c74b16088bbe98239af6", func := "eddy/eddylaw17.DirRises", spec := "dirRises", unfollowed := true, recurses := true, apart := false }
def DirRisesSaid : Prop := dirRisesRow.holds Try.pinned (OpenSpec.ofChange dirRisesSpec)

/-- ITS FALSE NEIGHBOUR: 'it returns false'. Refute it at one input. -/
def dirRisesWrong : ChangeSpec := { name := "dirRises", fn := fun _ => fun
  | [d1, d2, d3, d4, d5, d6] => { results := [.lit (.bool false)], args := [d1, d2, d3, d4, d5, d6] }
  | _ => none }
def DirRisesWrongFalsely : Prop := dirRisesRow.holds Try.pinned (OpenSpec.ofChange dirRisesWrong)

/-- 'eddylaw17.DirTells': WHATEVER THE INPUT: true; the input reads as it did. -/
def dirTellsSpec : ChangeSpec := { name := "dirTells", fn := fun _ => fun
  | [d1, d2, d3] => { results := [.lit (.bool true)], args := [d1, d2, d3] }
  | _ => none }
def dirTellsRow : OpenClaim := { program := "ytblaccmphofbcaa", sum := "386b5d1e6999e141e3c58d7e4c5f4079b028e11fafb7c74b16088bbe98239af6", func := "eddy/eddylaw17.DirTells", spec := "dirTells", unfollowed := true, recurses := true, apart := false }
def DirTellsSaid : Prop := dirTellsRow.holds Try.pinned (OpenSpec.ofChange dirTellsSpec)

/-- ITS FALSE NEIGHBOUR: 'it returns false'. Refute it at one input. -/
def dirTellsWrong : ChangeSpec := { name := "dirTells", fn := fun _ => fun
  | [d1, d2, d3] => { results := [.lit (.bool false)], args := [d1, d2, d3] }
  | _ => none }
def DirTellsWrongFalsely : Prop := dirTellsRow.holds Try.pinned (OpenSpec.ofChange dirTellsWrong)

/- THE SECOND FORM. 'bulk': how many values and letters a reading holds, each counted each time it is reached (what is shared counts as often as it is met; a slice's spare places count too). A statement '..UptoSaid' is the law's where the arguments, and the package variables that the reading takes, are together of bulk at most 1048576: NARROWER than '..Said'. Prove '..Said' where nothing that the law and all that it calls make is longer than what came in: it says more and counts as full. Else prove '..UptoSaid'. A law counts once. -/
mutual
def uptoBulk {H : Type} : DataW H → Nat
  | .lit (.string bytes) => bytes.length + 1
  | .lit _ => 1
  | .nil => 1
  | .ptr d => uptoBulk d + 1
  | .slice elems spare => uptoBulkAll elems + uptoBulkAll spare + 1
  | .agg parts => uptoBulkAll parts + 1
  | .iface _ d => uptoBulk d + 1
  | .map entries => uptoBulkEntries entries + 1
  | .held _ => 1
def uptoBulkAll {H : Type} : List (DataW H) → Nat
  | [] => 0
  | d :: r => uptoBulk d + uptoBulkAll r
def uptoBulkEntries {H : Type} : List (Lit × DataW H) → Nat
  | [] => 0
  | x :: r => uptoBulkEntry x + uptoBulkEntries r
def uptoBulkEntry {H : Type} : Lit × DataW H → Nat
  | (.string bytes, d) => bytes.length + uptoBulk d + 1
  | (_, d) => uptoBulk d + 1
 end
def uptoSmall : (H : Type) → List (DataW H) → Bool := fun _ ds => decide (uptoBulkAll ds ≤ 1048576)
def OpenSpec.upto (s : _root_.Go.ChangeSpec) : _root_.Go.OpenSpec := { _root_.Go.OpenSpec.ofChange s with cond := some uptoSmall }

/-- 'eddylaw17.DirMakes', WHERE WHAT IT READS IS OF BULK AT MOST 1048576: true; the input reads as it did. -/
def dirMakesUptoRow : OpenClaim := { program := "ytblaccmphofbcaa", sum := "386b5d1e6999e141e3c58d7e4c5f4079b028e11fafb7c74b16088bbe98239af6", func := "eddy/eddylaw17.DirMakes", spec := "dirMakes", unfollowed := true, recurses := true, apart := false, narrowed := true }
def DirMakesUptoSaid : Prop := dirMakesUptoRow.holds Try.pinned (OpenSpec.upto dirMakesSpec)

/-- 'eddylaw17.DirMerges', WHERE WHAT IT READS IS OF BULK AT MOST 1048576: true; the input reads as it did. -/
def dirMergesUptoRow : OpenClaim := { program := "ytblaccmphofbcaa", sum := "386b5d1e6999e141e3c58d7e4c5f4079b028e11fafb7c74b16088bbe98239af6", func := "eddy/eddylaw17.DirMerges", spec := "dirMerges", unfollowed := true, recurses := true, apart := false, narrowed := true }
def DirMergesUptoSaid : Prop := dirMergesUptoRow.holds Try.pinned (OpenSpec.upto dirMergesSpec)

/-- 'eddylaw17.DirAgrees', WHERE WHAT IT READS IS OF BULK AT MOST 1048576: true; the input reads as it did. -/
def dirAgreesUptoRow : OpenClaim := { program := "ytblaccmphofbcaa", sum := "386b5d1e6999e141e3c58d7e4c5f4079b028e11fafb7c74b16088bbe98239af6", func := "eddy/eddylaw17.DirAgrees", spec := "dirAgrees", unfollowed := true, recurses := true, apart := false, narrowed := true }
def DirAgreesUptoSaid : Prop := dirAgreesUptoRow.holds Try.pinned (OpenSpec.upto dirAgreesSpec)

/-- 'eddylaw17.DirFits', WHERE WHAT IT READS IS OF BULK AT MOST 1048576: true; the input reads as it did. -/
def dirFitsUptoRow : OpenClaim := { program := "ytblaccmphofbcaa", sum := "386b5d1e6999e141e3c58d7e4c5f4079b028e11fafb7c74b16088bbe98239af6", func := "eddy/eddylaw17.DirFits", spec := "dirFits", unfollowed := true, recurses := true, apart := false, narrowed := true }
def DirFitsUptoSaid : Prop := dirFitsUptoRow.holds Try.pinned (OpenSpec.upto dirFitsSpec)

/-- 'eddylaw17.DirRises', WHERE WHAT IT READS IS OF BULK AT MOST 1048576: true; the input reads as it did. -/
def dirRisesUptoRow : OpenClaim := { program := "ytblaccmphofbcaa", sum := "386b5d1e6999e141e3c58d7e4c5f4079b028e11fafb7c74b16088bbe98239af6", func := "eddy/eddylaw17.DirRises", spec := "dirRises", unfollowed := true, recurses := true, apart := false, narrowed := true }
def DirRisesUptoSaid : Prop := dirRisesUptoRow.holds Try.pinned (OpenSpec.upto dirRisesSpec)

/-- 'eddylaw17.DirTells', WHERE WHAT IT READS IS OF BULK AT MOST 1048576: true; the input reads as it did. -/
def dirTellsUptoRow : OpenClaim := { program := "ytblaccmphofbcaa", sum := "386b5d1e6999e141e3c58d7e4c5f4079b028e11fafb7c74b16088bbe98239af6", func := "eddy/eddylaw17.DirTells", spec := "dirTells", unfollowed := true, recurses := true, apart := false, narrowed := true }
def DirTellsUptoSaid : Prop := dirTellsUptoRow.holds Try.pinned (OpenSpec.upto dirTellsSpec)

end Rows
end Go.Proofs.Ytblaccmphofbcaa
