/- A region that draws its order, whose operations read or call: each operation has one value in every world of a class C, whatever the order. Step laws for Derived.Deep.Quiet's walk at a class of one's own. -/
import Derived.WalkKit
import Derived.WalkSpells
import Derived.WalkLawsBesides
import Derived.Deep.QuietTactic
import Derived.BigQuiet
import Derived.Deep.RegionHeld
namespace Go.Proofs.Ytnmgfginhplpbaa
section
variable {P : Program} {C : World → Prop} {a : Act} {o : Oper} {K : Act → Prop} {v : Value}
theorem quietC_run (h : ∀ w, C w → (execOp a.eval o).run P w = .ok (.value v) w) (hk : K (a.put o.dst v)) : o.quiet P a C K :=
  ⟨v, fun w hw => by unfold Oper.quietAt; rw [h w hw]; exact ⟨rfl, rfl⟩, hk⟩
theorem quietC_call {f : FuncId} {args : Array Value} (h : ∀ w, C w → (execOp a.eval o).run P w = .ok (.enter f args) w)
    (hc : ∀ w, C w → Calls P f args w fun e w' => e = .returned v ∧ C w') (hk : K (a.put o.dst v)) : o.quiet P a C K :=
  ⟨v, fun w hw => by unfold Oper.quietAt; rw [h w hw]; exact ⟨rfl, hc w hw⟩, hk⟩
theorem wp_region_quietC_lit {id : Nat} {Q : Exit → Act → World → Prop} {w : World} {l : List Oper} (C : World → Prop) (hm : P.follows .mixedOrders = true) (hB : Region.lexB .any l.toArray = true)
    (hC : C { w with drawn := w.drawn + 1 }) (h : wpQuiet P l.toArray C (fun a' => ∀ w', C w' → Q .normal a' w') l a) : (Code.region id l.toArray true).wp P Q a w :=
  wp_region_quiet (C := C) hm hB hC (by simpa using h)
end
open Go.RowKit
/-- What lay in w0 lies on, and these cells hold these values. -/
def KeptC (w0 : World) (l : List (Addr × Value)) (w' : World) : Prop := Below w0.heap.size w0 w' ∧ ∀ x ∈ l, w'.cell? x.1 = some x.2
theorem KeptC.below {w0 : World} {l : List (Addr × Value)} {w' w2 : World} (h : KeptC w0 l w') (hb : Below w'.heap.size w' w2) : KeptC w0 l w2 := by
  refine ⟨h.1.trans (hb.mono h.1.size), fun x hx => ?_⟩
  have hc := h.2 x hx
  refine (hb.cell ?_).trans hc
  rcases Nat.lt_or_ge x.1.block w'.heap.size with h1 | h1
  · exact h1
  · unfold World.cell? at hc
    rw [Array.getElem?_eq_none h1] at hc
    cases hc
theorem cell_lt {w : World} {a : Addr} {v : Value} (hc : w.cell? a = some v) : a.block < w.heap.size := by
  rcases Nat.lt_or_ge a.block w.heap.size with h1 | h1
  · exact h1
  · unfold World.cell? at hc
    rw [Array.getElem?_eq_none h1] at hc
    cases hc
theorem KeptC.mk0 {w0 w' : World} (hb : Below w0.heap.size w0 w') : KeptC w0 [] w' := ⟨hb, fun x hx => by cases hx⟩
theorem KeptC.cons {w0 w' : World} {l : List (Addr × Value)} {a : Addr} {v : Value} (ha : w'.cell? a = some v) (h : KeptC w0 l w') : KeptC w0 ((a, v) :: l) w' :=
  ⟨h.1, fun x hx => by
    rcases List.mem_cons.1 hx with rfl | hx
    · exact ha
    · exact h.2 x hx⟩
theorem KeptC.drewn {w0 w : World} {l : List (Addr × Value)} (h : KeptC w0 l w) : KeptC w0 l { w with drawn := w.drawn + 1 } := ⟨⟨h.1.os, h.1.tape, h.1.output, h.1.size, h.1.block⟩, h.2⟩
end Go.Proofs.Ytnmgfginhplpbaa
