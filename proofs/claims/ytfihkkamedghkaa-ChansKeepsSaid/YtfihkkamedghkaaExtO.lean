/- What an argument of type Ext is. -/
import Derived.Test.YtfihkkamedghkaaRows
import Derived.WalkKit
import Derived.ProofKit
import Derived.OpenShut
import Derived.SizedLaws
import Derived.Lib.SmallJoins
set_option maxRecDepth 100000
namespace Go.Proofs.Ytfihkkamedghkaa
open Go.ChangeShapes Go.WideShapes Go.RowKit Go.Joins

theorem cells_ext : Try.prog.cellsOf 41 = 4 := by kernel_rfl
theorem open_ext {H : Type} {enc : TypeId × Value → H} {w : World} {base b0 : Nat} {spare : Nat → Bool} {held : Bool} {v : Value} {d : DataW H} {p : List MemPlace}
    (hv : Value.okWide Try.prog w .any b0 41 v) (h : DataW.Trod enc Try.prog w base spare held 41 v d p) :
    ∃ (x : Bool) (a b c : Int), v = .agg #[.bool x, .int .i64 a, .int .i64 b, .int .i64 c] ∧ (Lit.int .i64 a).wf = true ∧ (Lit.int .i64 b).wf = true ∧ (Lit.int .i64 c).wf = true := by
  obtain ⟨c0, c1, c2, c3, y0, y1, y2, y3, m, rfl, rfl, rfl, h0, h1, h2, h3⟩ := open_agg4 Try.underlying41 (by kernel_rfl) cells_ext hv h
  obtain ⟨x, e0, _⟩ := DataW.trod_bool Try.underlying4 h0
  obtain ⟨a, e1, _, wa⟩ := DataW.trod_int Try.underlying2 h1
  obtain ⟨b, e2, _, wb⟩ := DataW.trod_int Try.underlying3 h2
  obtain ⟨c, e3, _, wc⟩ := DataW.trod_int Try.underlying2 h3
  simp at e0 e1 e2 e3
  subst e0 e1 e2 e3
  exact ⟨x, a, b, c, rfl, wa, wb, wc⟩
end Go.Proofs.Ytfihkkamedghkaa
