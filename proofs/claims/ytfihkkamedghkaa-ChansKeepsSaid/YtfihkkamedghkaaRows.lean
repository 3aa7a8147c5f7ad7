/-
  No cell of these rows narrows 'for every input' (looked for: loops, veiled, ifaces, maps, wideKeys, modest, calm, conditions, laid).
  DERIVED. THE GIVEN ROWS OF THIS SEAT. 6 by the template 'for every input the law returns true; each argument reads behind the call as it read before'; 0 by the template 'total and deterministic' (their statements: YtfihkkamedghkaaTotals.lean).
  GIVEN WITH THE SEED: the statements are not yours to turn. If you find one false, say at which input.
  Laid BY PROGRAM, IN A SANDBOX (cutbox-rows.mjs): the forced cells as the released guide's own fill.sh prints them over the translation 2f6365c93ce70968… (all of the seat's roots in one cut). By AI agents, Wed Nov 11 2026. No macro, syntax, notation, axiom, sorry.
-/
import Derived.Test.YtfihkkamedghkaaChecked
import GoSem.Claim
import GoSem.ClaimJoined
import GoSem.ClaimMapViews
import Derived.JoinedTies
import Derived.KernelRfl
namespace Go.Proofs.Ytfihkkamedghkaa
/- THE CELL 'sum', in the pinned program and in every row, IS THE sha256 OF THE DUMP (.gsa) THAT YtfihkkamedghkaaProg.lean LOADS. Nothing in Lean hashes anything: it is a label: what it is worth is what the hold of that sum in a sandbox is worth. -/
noncomputable def Try.pinned : Pinned := { name := "ytfihkkamedghkaa", sum := "2f6365c93ce7096890fbc2dcf0d6acc1615c6bae8c1aa6fc427266b14c64c124", checked := Try.checked }
namespace Rows
def none {H : Type} : Left H := { results := [], args := [] }

/-- 'eddylaw18.ChansCalls': WHATEVER THE INPUT: true; the input reads as it did. -/
def chansCallsSpec : ChangeSpec := { name := "chansCalls", fn := fun _ => fun
  | [d1, d2, d3, d4, d5] => { results := [.lit (.bool true)], args := [d1, d2, d3, d4, d5] }
  | _ => none }
def chansCallsRow : OpenClaim := { program := "ytfihkkamedghkaa", sum := "2f6365c93ce7096890fbc2dcf0d6acc1615c6bae8c1aa6fc427266b14c64c124", func := "eddy/eddylaw18.ChansCalls", spec := "chansCalls", unfollowed := true, recurses := true, apart := false }
def ChansCallsSaid : Prop := chansCallsRow.holds Try.pinned (OpenSpec.ofChange chansCallsSpec)

/-- ITS FALSE NEIGHBOUR: 'it returns false'. Refute it at one input. -/
def chansCallsWrong : ChangeSpec := { name := "chansCalls", fn := fun _ => fun
  | [d1, d2, d3, d4, d5] => { results := [.lit (.bool false)], args := [d1, d2, d3, d4, d5] }
  | _ => none }
def ChansCallsWrongFalsely : Prop := chansCallsRow.holds Try.pinned (OpenSpec.ofChange chansCallsWrong)

/-- 'eddylaw18.ChansFinds': WHATEVER THE INPUT: true; the input reads as it did. -/
def chansFindsSpec : ChangeSpec := { name := "chansFinds", fn := fun _ => fun
  | [d1, d2, d3, d4] => { results := [.lit (.bool true)], args := [d1, d2, d3, d4] }
  | _ => none }
def chansFindsRow : OpenClaim := { program := "ytfihkkamedghkaa", sum := "2f6365c93ce7096890fbc2dcf0d6acc1615c6bae8c1aa6fc427266b14c64c124", func := "eddy/eddylaw18.ChansFinds", spec := "chansFinds", unfollowed := true, recurses := true, apart := false }
def ChansFindsSaid : Prop := chansFindsRow.holds Try.pinned (OpenSpec.ofChange chansFindsSpec)

/-- ITS FALSE NEIGHBOUR: 'it returns false'. Refute it at one input. -/
def chansFindsWrong : ChangeSpec := { name := "chansFinds", fn := fun _ => fun
  | [d1, d2, d3, d4] => { results := [.lit (.bool false)], args := [d1, d2, d3, d4] }
  | _ => none }
def ChansFindsWrongFalsely : Prop := chansFindsRow.holds Try.pinned (OpenSpec.ofChange chansFindsWrong)

/-- 'eddylaw18.ChansLearns': WHATEVER THE INPUT: true; the input reads as it did. -/
def chansLearnsSpec : ChangeSpec := { name := "chansLearns", fn := fun _ => fun
  | [d1, d2, d3] => { results := [.lit (.bool true)], args := [d1, d2, d3] }
  | _ => none }
def chansLearnsRow : OpenClaim := { program := "ytfihkkamedghkaa", sum := "2f6365c93ce7096890fbc2dcf0d6acc1615c6bae8c1aa6fc427266b14c64c124", func := "eddy/eddylaw18.ChansLearns", spec := "chansLearns", unfollowed := true, recurses := true, apart := false }
def ChansLearnsSaid : Prop := chansLearnsRow.holds Try.pinned (OpenSpec.ofChange chansLearnsSpec)

/-- ITS FALSE NEIGHBOUR: 'it returns false'. Refute it at one input. -/
def chansLearnsWrong : ChangeSpec := { name := "chansLearns", fn := fun _ => fun
  | [d1, d2, d3] => { results := [.lit (.bool false)], args := [d1, d2, d3] }
  | _ => none }
def ChansLearnsWrongFalsely : Prop := chansLearnsRow.holds Try.pinned (OpenSpec.ofChange chansLearnsWrong)

/-- 'eddylaw18.ChansFits': WHATEVER THE INPUT: true; the input reads as it did. -/
def chansFitsSpec : ChangeSpec := { name := "chansFits", fn := fun _ => fun
  | [d1, d2, d3, d4] => { results := [.lit (.bool true)], args := [d1, d2, d3, d4] }
  | _ => none }
def chansFitsRow : OpenClaim := { program := "ytfihkkamedghkaa", sum := "2f6365c93ce7096890fbc2dcf0d6acc1615c6bae8c1aa6fc427266b14c64c124", func := "eddy/eddylaw18.ChansFits", spec := "chansFits", unfollowed := true, recurses := true, apart := false }
def ChansFitsSaid : Prop := chansFitsRow.holds Try.pinned (OpenSpec.ofChange chansFitsSpec)

/-- ITS FALSE NEIGHBOUR: 'it returns false'. Refute it at one input. -/
def chansFitsWrong : ChangeSpec := { name := "chansFits", fn := fun _ => fun
  | [d1, d2, d3, d4] => { results := [.lit (.bool false)], args := [d1, d2, d3, d4] }
  | _ => none }
def ChansFitsWrongFalsely : Prop := chansFitsRow.holds Try.pinned (OpenSpec.ofChange chansFitsWrong)

/-- 'eddylaw18.ChansKeeps': WHATEVER THE INPUT: true; the input reads as it did. -/
def chansKeepsSpec : ChangeSpec := { name := "chansKeeps", fn := fun _ => fun
  | [d1, d2, d3, d4, d5, d6] => { results := [.lit (.bool true)], args := [d1, d2, d3, d4, d5, d6] }
  | _ => none }
def chansKeepsRow : OpenClaim := { program := "ytfihkkamedghkaa", sum := "2f6365c93ce7096890fbc2dcf0d6acc1615c6bae8c1aa6fc427266b14c64c124", func := "eddy/eddylaw18.ChansKeeps", spec := "chansKeeps", unfollowed := true, recurses := true, apart := false }
def ChansKeepsSaid : Prop := chansKeepsRow.holds Try.pinned (OpenSpec.ofChange chansKeepsSpec)

/-- ITS FALSE NEIGHBOUR: 'it returns false'. Refute it at one input. -/
def chansKeepsWrong : ChangeSpec := { name := "chansKeeps", fn := fun _ => fun
  | [d1, d2, d3, d4, d5, d6] => { results := [.lit (.bool false)], args := [d1, d2, d3, d4, d5, d6] }
  | _ => none }
def ChansKeepsWrongFalsely : Prop := chansKeepsRow.holds Try.pinned (OpenSpec.ofChange chansKeepsWrong)

/-- 'eddylaw18.ChansHears': WHATEVER THE INPUT: true; the input reads as it did. -/
def chansHearsSpec : ChangeSpec := { name := "chansHears", fn := fun _ => fun
  | [d1, d2, d3, d4, d5] => { results := [.lit (.bool true)], args := [d1, d2, d3, d4, d5] }
  | _ => none }
def chansHearsRow : OpenClaim := { program := "ytfihkkamedghkaa", sum := "2f6365c93ce7096890fbc2dcf0d6acc1615c6bae8c1aa6fc427266b14c64c124", func := "eddy/eddylaw18.ChansHears", spec := "chansHears", unfollowed := true, recurses := true, apart := false }
def ChansHearsSaid : Prop := chansHearsRow.holds Try.pinned (OpenSpec.ofChange chansHearsSpec)

/-- ITS FALSE NEIGHBOUR: 'it returns false'. Refute it at one input. -/
def chansHearsWrong : ChangeSpec := { name := "chansHears", fn := fun _ => fun
  | [d1, d2, d3, d4, d5] => { results := [.lit (.bool false)], args := [d1, d2, d3, d4, d5] }
  | _ => none }
def ChansHearsWrongFalsely : Prop := chansHearsRow.holds Try.pinned (OpenSpec.ofChange chansHearsWrong)

/- THE SECOND FORM. 'bulk': how many values and letters a reading holds, each counted each time it is reached (what is shared counts as often as it is met; a slice's spare places count too). A statement '..UptoSaid' is the law's where the arguments, and the package variables that the reading takes, are together of bulk at most 1048576: NARROWER than '..Said'. Prove '..Said' where nothing that the law and all that it calls make is longer than what came in: it says more and counts as full. Else prove '..UptoSaid'. A law counts once. -/
mutual
def uptoBulk {H : Type} : DataW H → Nat
  | .lit (.string bytes) => bytes.length + 1
  | .lit _ => 1
  | .nil => 1
  | .ptr d => uptoBulk d + 1
  | .slice elems spare => uptoBulkAll elems + uptoBulkAll spare + 1
  | .agg parts => uptoBulkAll parts + 1
  | .iface _ d => uptoBulk d + 1
  | .map entries => uptoBulkEntries entries + 1
  | .held _ => 1
def uptoBulkAll {H : Type} : List (DataW H) → Nat
  | [] => 0
  | d :: r => uptoBulk d + uptoBulkAll r
def uptoBulkEntries {H : Type} : List (Lit × DataW H) → Nat
  | [] => 0
  | x :: r => uptoBulkEntry x + uptoBulkEntries r
def uptoBulkEntry {H : Type} : Lit × DataW H → Nat
  | (.string bytes, d) => bytes.length + uptoBulk d + 1
  | (_, d) => uptoBulk d + 1
 end
def uptoSmall : (H : Type) → List (DataW H) → Bool := fun _ ds => decide (uptoBulkAll ds ≤ 1048576)
def OpenSpec.upto (s : _root_.Go.ChangeSpec) : _root_.Go.OpenSpec := { _root_.Go.OpenSpec.ofChange s with cond := some uptoSmall }

/-- 'eddylaw18.ChansCalls', WHERE WHAT IT READS IS OF BULK AT MOST 1048576: true; the input reads as it did. -/
def chansCallsUptoRow : OpenClaim := { program := "ytfihkkamedghkaa", sum := "2f6365c93ce7096890fbc2dcf0d6acc1615c6bae8c1aa6fc427266b14c64c124", func := "eddy/eddylaw18.ChansCalls", spec := "chansCalls", unfollowed := true, recurses := true, apart := false, narrowed := true }
def ChansCallsUptoSaid : Prop := chansCallsUptoRow.holds Try.pinned (OpenSpec.upto chansCallsSpec)

/-- 'eddylaw18.ChansFinds', WHERE WHAT IT READS IS OF BULK AT MOST 1048576: true; the input reads as it did. -/
def chansFindsUptoRow : OpenClaim := { program := "ytfihkkamedghkaa", sum := "2f6365c93ce7096890fbc2dcf0d6acc1615c6bae8c1aa6fc427266b14c64c124", func := "eddy/eddylaw18.ChansFinds", spec := "chansFinds", unfollowed := true, recurses := true, apart := false, narrowed := true }
def ChansFindsUptoSaid : Prop := chansFindsUptoRow.holds Try.pinned (OpenSpec.upto chansFindsSpec)

/-- 'eddylaw18.ChansLearns', WHERE WHAT IT READS IS OF BULK AT MOST 1048576: true; the input reads as it did. -/
def chansLearnsUptoRow : OpenClaim := { program := "ytfihkkamedghkaa", sum := "2f6365c93ce7096890fbc2dcf0d6acc1615c6bae8c1aa6fc427266b14c64c124", func := "eddy/eddylaw18.ChansLearns", spec := "chansLearns", unfollowed := true, recurses := true, apart := false, narrowed := true }
def ChansLearnsUptoSaid : Prop := chansLearnsUptoRow.holds Try.pinned (OpenSpec.upto chansLearnsSpec)

/-- 'eddylaw18.ChansFits', WHERE WHAT IT READS IS OF BULK AT MOST 1048576: true; the input reads as it did. -/
def chansFitsUptoRow : OpenClaim := { program := "ytfihkkamedghkaa", sum := "2f6365c93ce7096890fbc2dcf0d6acc1615c6bae8c1aa6fc427266b14c64c124", func := "eddy/eddylaw18.ChansFits", spec := "chansFits", unfollowed := true, recurses := true, apart := false, narrowed := true }
def ChansFitsUptoSaid : Prop := chansFitsUptoRow.holds Try.pinned (OpenSpec.upto chansFitsSpec)

/-- 'eddylaw18.ChansKeeps', WHERE WHAT IT READS IS OF BULK AT MOST 1048576: true; the input reads as it did. -/
def chansKeepsUptoRow : OpenClaim := { program := "ytfihkkamedghkaa", sum := "2f6365c93ce7096890fbc2dcf0d6acc1615c6bae8c1aa6fc427266b14c64c124", func := "eddy/eddylaw18.ChansKeeps", spec := "chansKeeps", unfollowed := true, recurses := true, apart := false, narrowed := true }
def ChansKeepsUptoSaid : Prop := chansKeepsUptoRow.holds Try.pinned (OpenSpec.upto chansKeepsSpec)

/-- 'eddylaw18.ChansHears', WHERE WHAT IT READS IS OF BULK AT MOST 1048576: true; the input reads as it did. -/
def chansHearsUptoRow : OpenClaim := { program := "ytfihkkamedghkaa", sum := "2f6365c93ce7096890fbc2dcf0d6acc1615c6bae8c1aa6fc427266b14c64c124", func := "eddy/eddylaw18.ChansHears", spec := "chansHears", unfollowed := true, recurses := true, apart := false, narrowed := true }
def ChansHearsUptoSaid : Prop := chansHearsUptoRow.holds Try.pinned (OpenSpec.upto chansHearsSpec)

end Rows
end Go.Proofs.Ytfihkkamedghkaa
