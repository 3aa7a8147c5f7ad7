/- Chapter 22, parts on the way: Srv Quiet Dir Reads -/
import Derived.Shelf.SlSortCmp.WholeK
import Derived.Shelf.SlicesG.Cmp
import Derived.Test.YtkfodkbgmpbmfaaGreatProg
import Derived.WalkKit
import Derived.WalkSpells
import Derived.WalkLawsBesides
import Derived.Deep.QuietTactic
import Derived.BigQuiet
import Derived.Deep.RegionHeld
import Derived.StillTail
import Derived.Test.YtkfodkbgmpbmfaaGreatRows
import Derived.WalkMore
import Derived.Lib.Hide
import Derived.Laws.Strings
import Derived.Below
import Derived.Laws.OwnMore
import Derived.Deep.AppendLies
import Derived.Deep.Draws
set_option linter.unusedVariables false
set_option linter.unusedSimpArgs false
namespace Go.Proofs.YtkfodkbgmpbmfaaGreat
open Go.RowKit
theorem QbS {B : Nat} {a w : World} (h : Below B a w) {p : Addr} {u : Value} (hp : B ≤ p.block := by first | (simp; done) | (simp; omega) | omega) : Below B a (w.setCell p u) := h.setCell hp u
theorem QbA {B : Nat} {a w : World} (h : Below B a w) {o : Obj} (hB : B ≤ w.heap.size := by first | (simp; done) | (simp; omega) | omega) : Below B a (w.alloc o) := h.alloc hB o
theorem QbN {B : Nat} {a w : World} {k : Nat} (h : Below B a w) : Below B a (w.drewN k) := ⟨h.os, h.tape, h.output, h.size, h.block⟩
theorem QbD {B : Nat} {a w : World} (h : Below B a w) : Below B a w.drew := h.drew
theorem Qb0 {B : Nat} {w : World} : Below B w w := Below.refl _ _
theorem QbT {B B' : Nat} {a b c : World} (h : Below B a b) (k : Below B' b c) (hB : B ≤ B' := by first | (simp; done) | (simp; omega) | omega) : Below B a c := h.trans (k.mono hB)
theorem Qb {B : Nat} {a w : World} (h : Below B a w := by with_reducible (repeat (first | refine QbS ?_ | refine QbA ?_ | refine QbD ?_ | refine QbN ?_ | exact Qb0))) : Below B a w := h
theorem Qb1 {P : Prop} {B1 : Nat} {b1 c1 : World} (k1 : Below B1 b1 c1) (h : Below B1 b1 c1 → P := by intro k1; with_reducible (repeat (first | refine QbS ?_ | refine QbA ?_ | refine QbD ?_ | refine QbN ?_ | exact Qb0 | refine QbT ?_ k1))) : P := h k1
theorem Qb2 {P : Prop} {B1 : Nat} {b1 c1 : World} (k1 : Below B1 b1 c1) {B2 : Nat} {b2 c2 : World} (k2 : Below B2 b2 c2) (h : Below B1 b1 c1 → Below B2 b2 c2 → P := by intro k1 k2; with_reducible (repeat (first | refine QbS ?_ | refine QbA ?_ | refine QbD ?_ | refine QbN ?_ | exact Qb0 | refine QbT ?_ k1 | refine QbT ?_ k2))) : P := h k1 k2
theorem Qb3 {P : Prop} {B1 : Nat} {b1 c1 : World} (k1 : Below B1 b1 c1) {B2 : Nat} {b2 c2 : World} (k2 : Below B2 b2 c2) {B3 : Nat} {b3 c3 : World} (k3 : Below B3 b3 c3) (h : Below B1 b1 c1 → Below B2 b2 c2 → Below B3 b3 c3 → P := by intro k1 k2 k3; with_reducible (repeat (first | refine QbS ?_ | refine QbA ?_ | refine QbD ?_ | refine QbN ?_ | exact Qb0 | refine QbT ?_ k1 | refine QbT ?_ k2 | refine QbT ?_ k3))) : P := h k1 k2 k3
theorem Qb4 {P : Prop} {B1 : Nat} {b1 c1 : World} (k1 : Below B1 b1 c1) {B2 : Nat} {b2 c2 : World} (k2 : Below B2 b2 c2) {B3 : Nat} {b3 c3 : World} (k3 : Below B3 b3 c3) {B4 : Nat} {b4 c4 : World} (k4 : Below B4 b4 c4) (h : Below B1 b1 c1 → Below B2 b2 c2 → Below B3 b3 c3 → Below B4 b4 c4 → P := by intro k1 k2 k3 k4; with_reducible (repeat (first | refine QbS ?_ | refine QbA ?_ | refine QbD ?_ | refine QbN ?_ | exact Qb0 | refine QbT ?_ k1 | refine QbT ?_ k2 | refine QbT ?_ k3 | refine QbT ?_ k4))) : P := h k1 k2 k3 k4
end Go.Proofs.YtkfodkbgmpbmfaaGreat
namespace Go.Proofs.YtkfodkbgmpbmfaaGreat
open Go.Shelf
def sortL_ren : Go.Shelf.Ren := ⟨fun | 6 => 92 | 15 => 100 | 14 => 126 | 28 => 140 | 29 => 141 | 20 => 160 | 21 => 161 | 22 => 162 | 23 => 163 | 24 => 164 | 25 => 165 | 26 => 166 | 27 => 167 | 46 => 188 | 47 => 172 | 48 => 173 | 49 => 189 | 50 => 190 | 57 => 197 | n => n, fun | 22 => 26 | 24 => 62 | 25 => 150 | 3 => 3 | 39 => 160 | 0 => 0 | 53 => 175 | 55 => 66 | 4 => 4 | 46 => 196 | 45 => 195 | 50 => 138 | 5 => 5 | 9 => 9 | 66 => 233 | 70 => 236 | 76 => 250 | 77 => 251 | n => n, fun | n => n⟩
theorem sortL : Go.Proofs.SlLaysF0.n6 Tryz.prog sortL_ren := {
 mixed := by kernel_rfl
 f6 := ⟨Tryz.f92.name, by decide, Tryz.func92.trans (congrArg some (by kernel_rfl))⟩
 f14 := ⟨Tryz.f126.name, by decide, Tryz.func126.trans (congrArg some (by kernel_rfl))⟩
 f15 := Tryz.func100.trans (congrArg some (by kernel_rfl))
 f20 := ⟨Tryz.f160.name, by decide, Tryz.func160.trans (congrArg some (by kernel_rfl))⟩
 f21 := ⟨Tryz.f161.name, by decide, Tryz.func161.trans (congrArg some (by kernel_rfl))⟩
 f22 := ⟨Tryz.f162.name, by decide, Tryz.func162.trans (congrArg some (by kernel_rfl))⟩
 f23 := ⟨Tryz.f163.name, by decide, Tryz.func163.trans (congrArg some (by kernel_rfl))⟩
 f24 := ⟨Tryz.f164.name, by decide, Tryz.func164.trans (congrArg some (by kernel_rfl))⟩
 f25 := ⟨Tryz.f165.name, by decide, Tryz.func165.trans (congrArg some (by kernel_rfl))⟩
 f26 := ⟨Tryz.f166.name, by decide, Tryz.func166.trans (congrArg some (by kernel_rfl))⟩
 f27 := ⟨Tryz.f167.name, by decide, Tryz.func167.trans (congrArg some (by kernel_rfl))⟩
 f28 := Tryz.func140.trans (congrArg some (by kernel_rfl))
 f29 := Tryz.func141.trans (congrArg some (by kernel_rfl))
 f46 := ⟨Tryz.f188.name, by decide, Tryz.func188.trans (congrArg some (by kernel_rfl))⟩
 f47 := Tryz.func172.trans (congrArg some (by kernel_rfl))
 f48 := Tryz.func173.trans (congrArg some (by kernel_rfl))
 f49 := ⟨Tryz.f189.name, by decide, Tryz.func189.trans (congrArg some (by kernel_rfl))⟩
 f50 := ⟨Tryz.f190.name, by decide, Tryz.func190.trans (congrArg some (by kernel_rfl))⟩
 f57 := ⟨Tryz.f197.name, by decide, Tryz.func197.trans (congrArg some (by kernel_rfl))⟩
 t0 := Tryz.underlying0
 a0 := Tryz.isAgg0
 z0 := Tryz.sizeOf0
 v0 := Tryz.zeroValue0
 t3 := Tryz.underlying3
 a3 := Tryz.isAgg3
 z3 := Tryz.sizeOf3
 v3 := Tryz.zeroValue3
 t4 := Tryz.underlying4
 a4 := Tryz.isAgg4
 z4 := Tryz.sizeOf4
 v4 := Tryz.zeroValue4
 t5 := Tryz.underlying5
 a5 := Tryz.isAgg5
 z5 := Tryz.sizeOf5
 v5 := Tryz.zeroValue5
 t9 := Tryz.underlying9
 a9 := Tryz.isAgg9
 z9 := Tryz.sizeOf9
 v9 := Tryz.zeroValue9
 t22 := Tryz.underlying26
 a22 := Tryz.isAgg26
 z22 := Tryz.sizeOf26
 v22 := Tryz.zeroValue26
 t25 := Tryz.underlying150
 a25 := Tryz.isAgg150
 z25 := Tryz.sizeOf150
 v25 := Tryz.zeroValue150
 t39 := Tryz.underlying160
 a39 := Tryz.isAgg160
 z39 := Tryz.sizeOf160
 v39 := Tryz.zeroValue160
 t45 := Tryz.underlying195
 a45 := Tryz.isAgg195
 z45 := Tryz.sizeOf195
 v45 := Tryz.zeroValue195
 t46 := Tryz.underlying196
 a46 := Tryz.isAgg196
 z46 := Tryz.sizeOf196
 v46 := Tryz.zeroValue196
 t50 := Tryz.underlying138
 a50 := Tryz.isAgg138
 z50 := Tryz.sizeOf138
 v50 := Tryz.zeroValue138
 t53 := Tryz.underlying175
 a53 := Tryz.isAgg175
 z53 := Tryz.sizeOf175
 v53 := Tryz.zeroValue175
 t55 := Tryz.underlying66
 a55 := Tryz.isAgg66
 z55 := Tryz.sizeOf66
 v55 := Tryz.zeroValue66
 t66 := Tryz.underlying233
 a66 := Tryz.isAgg233
 z66 := Tryz.sizeOf233
 v66 := Tryz.zeroValue233
 t70 := Tryz.underlying236
 a70 := Tryz.isAgg236
 z70 := Tryz.sizeOf236
 v70 := Tryz.zeroValue236
 t76 := Tryz.underlying250
 a76 := Tryz.isAgg250
 z76 := Tryz.sizeOf250
 v76 := Tryz.zeroValue250
 t77 := Tryz.underlying251
 a77 := Tryz.isAgg251
 z77 := Tryz.sizeOf251
 v77 := Tryz.zeroValue251 }
end Go.Proofs.YtkfodkbgmpbmfaaGreat
namespace Go.Proofs.YtkfodkbgmpbmfaaGreat
section
variable {P : Program} {C : World → Prop} {a : Act} {o : Oper} {K : Act → Prop} {v : Value}
theorem quietC_run (h : ∀ w, C w → (execOp a.eval o).run P w = .ok (.value v) w) (hk : K (a.put o.dst v)) : o.quiet P a C K :=
 ⟨v, fun w hw => by unfold Oper.quietAt; rw [h w hw]; exact ⟨rfl, rfl⟩, hk⟩
theorem quietC_call {f : FuncId} {args : Array Value} (h : ∀ w, C w → (execOp a.eval o).run P w = .ok (.enter f args) w)
    (hc : ∀ w, C w → Calls P f args w fun e w' => e = .returned v ∧ C w') (hk : K (a.put o.dst v)) : o.quiet P a C K :=
 ⟨v, fun w hw => by unfold Oper.quietAt; rw [h w hw]; exact ⟨rfl, hc w hw⟩, hk⟩
theorem wp_region_quietC_lit {id : Nat} {Q : Exit → Act → World → Prop} {w : World} {l : List Oper} (C : World → Prop) (hm : P.follows .mixedOrders = true) (hB : Region.lexB .any l.toArray = true)
    (hC : C { w with drawn := w.drawn + 1 }) (h : wpQuiet P l.toArray C (fun a' => ∀ w', C w' → Q .normal a' w') l a) : (Code.region id l.toArray true).wp P Q a w :=
 wp_region_quiet (C := C) hm hB hC (by simpa using h)
end

/-! ### Reads and calls in whatever order, then a tail (stores) in one forced order -/
section
variable {P : Program} {ops : Array Oper} {md : Region.Mode} {C : World → Prop}
def wpHeadQ (P : Program) (md : Region.Mode) (ops : Array Oper) (C : World → Prop) (n : Nat) (L : Array Bool → Act → Prop) : Nat → Array Bool → Act → Prop
 | 0, listed, a => L listed a
 | f + 1, listed, a => Region.ready md ops listed ≠ [] ∧ ∀ i ∈ Region.ready md ops listed, i < n ∧ qOp P ops C i (wpHeadQ P md ops C n L f (listed.setIfInBounds i true)) a
theorem wpHeadQ_first {n i : Nat} {oi : Oper} {v : Value} {L : Array Bool → Act → Prop} (hi : ops[i]? = some oi) (hsel : ∀ (j : Nat) (o : Oper) cs b, ops[j]? = some o → o.op ≠ .select cs b)
    (hs : Region.sinkB md ops n = true) (hc : Region.chainB md ops n = true) (hn : n < ops.size) (hin : i < n) (hdone : ∀ listed a, L listed a → ∀ j ∈ Region.ready md ops listed, n ≤ j) :
    ∀ (f : Nat) (listed : Array Bool) (a : Act), HeadInv md ops n listed →
     (∀ j oj, ops[j]? = some oj → j ≠ i → listed.getD j true = false → (∀ e ∈ oj.after, Region.binds md e = true → e.on ≠ i) → oi.apart ops oj = true) →
     i ∈ Region.ready md ops listed → YieldsIn P ops C oi v a →
     wpHeadQ P md ops C n L f (listed.setIfInBounds i true) (a.put oi.dst v) → wpHeadQ P md ops C n L (f + 1) listed a := by
 intro f
 induction f with
 | zero =>
  intro listed a inv _ hr hy H
  have hun := (mem_ready.1 hr).1
  refine ⟨fun h => (by rw [h] at hr; cases hr), fun j hj => ?_⟩
  have hjn : j < n := (Nat.lt_or_ge j n).resolve_right fun h => absurd hj (tail_waits hs hc hn inv _ i rfl hin hun j h)
  refine ⟨hjn, ?_⟩
  by_cases hji : j = i
  · subst hji; exact hy.qOp hi H
  · have := hdone _ _ H j (ready_mono hj hji)
    omega
 | succ f ih =>
  intro listed a inv hfree hr hy H
  have hun := (mem_ready.1 hr).1
  refine ⟨fun h => (by rw [h] at hr; cases hr), fun j hj => ?_⟩
  have hjn : j < n := (Nat.lt_or_ge j n).resolve_right fun h => absurd hj (tail_waits hs hc hn inv _ i rfl hin hun j h)
  refine ⟨hjn, ?_⟩
  by_cases hji : j = i
  · subst hji; exact hy.qOp hi H
  · have h1 := (H.2 j (ready_mono hj hji)).2
    obtain ⟨hjun, oj, hoj, hall⟩ := mem_ready.1 hj
    have hnot : ∀ e ∈ oj.after, Region.binds md e = true → e.on ≠ i := fun e he hb heq => by
     have h1 := hall e he hb
     rw [heq, getD_both hun] at h1
     cases h1
    have h2 := qOp_put hoj (hfree j oj hoj hji hjun hnot) (fun cs b => hsel i oi cs b hi) (fun cs b => hsel j oj cs b hoj) hy h1
    refine qOp_mono (fun a' h3 => ih (listed.setIfInBounds j true) a' (inv.set hj hjn) (fun k ok hk hki hn' hno => hfree k ok hk hki ?_ hno) (ready_mono hr (Ne.symm hji)) h3.1 ?_) h2
    · by_cases hjk : j = k
      · subst hjk; exact hjun
      · rw [getD_set_ne true hjk] at hn'; exact hn'
    · rw [Array.setIfInBounds_comm _ _ hji]
      exact h3.2
theorem wpHeadQ_lex {n g : Nat} {Lq : Act → Prop} (hsel : Region.noSelect ops = true) (hs : Region.sinkB md ops n = true) (hc : Region.chainB md ops n = true) (hn : n < ops.size) :
    ∀ (l : List Oper) (k : Nat) (listed : Array Bool) (a : Act), (∀ j, j < l.length → l[j]? = ops[k + j]?) → k + l.length = n → HeadInv md ops n listed →
    Region.lexHead md ops g l.length k listed = true → wpQuiet P ops C Lq l a →
    wpHeadQ P md ops C n (fun listed' a' => Region.seqB md ops g n listed' = true ∧ Lq a') l.length listed a
 | [], k, listed, a, _, hk, _, hB, h => by
  obtain rfl : k = n := by simpa using hk
  exact ⟨by simpa [Region.lexHead] using hB, h⟩
 | o :: l, k, listed, a, hl, hk, inv, hB, h => by
  have h0 : ops[k]? = some o := by simpa using (hl 0 (by simp)).symm
  simp only [List.length_cons, Region.lexHead, Bool.and_eq_true] at hB hk
  have hr' : k ∈ Region.ready md ops listed := by simpa using hB.1.1
  have hst : qOp P ops C k (wpQuiet P ops C Lq l) a := by unfold qOp; simp only [h0]; exact h
  obtain ⟨v, hy, hK⟩ := yieldsIn_of_qOp h0 hst
  exact wpHeadQ_first h0 (Region.noSelect_spec hsel) hs hc hn (by omega) (fun listed' a' hL => seqB_ready hL.1) l.length listed a inv (Region.free_spec h0 hB.1.2) hr' hy
   (wpHeadQ_lex hsel hs hc hn l (k + 1) _ _ (fun j hj => by have := hl (j + 1) (by simp; omega); simpa [Nat.add_assoc, Nat.add_comm 1 j] using this) (by omega) (inv.set hr' (by omega)) hB.2 hK)
end
open Go.RowKit
def KeptC (w0 : World) (l : List (Addr × Value)) (F : List Addr) (w' : World) : Prop := Below w0.heap.size w0 w' ∧ (∀ x ∈ l, w'.cell? x.1 = some x.2) ∧ ∀ a ∈ F, a.block < w'.heap.size ∧ w'.frozen? a = false
theorem cell_lt {w : World} {a : Addr} {v : Value} (hc : w.cell? a = some v) : a.block < w.heap.size := by
 rcases Nat.lt_or_ge a.block w.heap.size with h1 | h1
 · exact h1
 · unfold World.cell? at hc
   rw [Array.getElem?_eq_none h1] at hc
   cases hc
theorem KeptC.below {w0 : World} {l : List (Addr × Value)} {F : List Addr} {w' w2 : World} (h : KeptC w0 l F w') (hb : Below w'.heap.size w' w2) : KeptC w0 l F w2 :=
 ⟨h.1.trans (hb.mono h.1.size), fun x hx => (hb.cell (cell_lt (h.2.1 x hx))).trans (h.2.1 x hx), fun a ha => ⟨Nat.lt_of_lt_of_le (h.2.2 a ha).1 hb.size, (hb.frozen (h.2.2 a ha).1).trans (h.2.2 a ha).2⟩⟩
theorem KeptC.mk0 {w0 w' : World} (hb : Below w0.heap.size w0 w') : KeptC w0 [] [] w' := ⟨hb, fun x hx => (by cases hx), fun x hx => (by cases hx)⟩
theorem KeptC.cons {w0 w' : World} {l : List (Addr × Value)} {F : List Addr} {a : Addr} {v : Value} (ha : w'.cell? a = some v) (h : KeptC w0 l F w') : KeptC w0 ((a, v) :: l) F w' :=
 ⟨h.1, fun x hx => (by
  rcases List.mem_cons.1 hx with rfl | hx
  · exact ha
  · exact h.2.1 x hx), h.2.2⟩
theorem KeptC.consF {w0 w' : World} {F : List Addr} {a : Addr} (hl : a.block < w'.heap.size) (ha : w'.frozen? a = false) (h : KeptC w0 [] F w') : KeptC w0 [] (a :: F) w' :=
 ⟨h.1, h.2.1, fun x hx => (by
  rcases List.mem_cons.1 hx with rfl | hx
  · exact ⟨hl, ha⟩
  · exact h.2.2 x hx)⟩
theorem KeptC.drewn {w0 w : World} {l : List (Addr × Value)} {F : List Addr} (h : KeptC w0 l F w) : KeptC w0 l F { w with drawn := w.drawn + 1 } := ⟨⟨h.1.os, h.1.tape, h.1.output, h.1.size, h.1.block⟩, h.2⟩
theorem Qk0 {w0 w' : World} (hb : Below w0.heap.size w0 w') : KeptC w0 [] [] w' := KeptC.mk0 hb
theorem QkC {w0 w' : World} {l : List (Addr × Value)} {F : List Addr} {a : Addr} {v : Value} (ha : w'.cell? a = some v) (h : KeptC w0 l F w') : KeptC w0 ((a, v) :: l) F w' := KeptC.cons ha h
theorem QkF {w0 w' : World} {F : List Addr} {a : Addr} (hl : a.block < w'.heap.size) (ha : w'.frozen? a = false) (h : KeptC w0 [] F w') : KeptC w0 [] (a :: F) w' := KeptC.consF hl ha h
theorem Qk {P : Prop} (h : P := by (repeat' (first | refine QkC ?_ ?_ | refine QkF ?_ ?_ ?_ | refine Qk0 ?_)); all_goals (first | with_reducible assumption | (go_simp; done) | (simp; omega) | exact Qb)) : P := h
theorem Qk1 {P : Prop} {B1 : Nat} {b1 c1 : World} (k1 : Below B1 b1 c1) (h : Below B1 b1 c1 → P := by intro k1; (repeat' (first | refine QkC ?_ ?_ | refine QkF ?_ ?_ ?_ | refine Qk0 ?_)); all_goals (first | with_reducible assumption | (go_simp; done) | (simp; omega) | exact Qb1 k1)) : P := h k1
theorem Qk2 {P : Prop} {B1 : Nat} {b1 c1 : World} (k1 : Below B1 b1 c1) {B2 : Nat} {b2 c2 : World} (k2 : Below B2 b2 c2) (h : Below B1 b1 c1 → Below B2 b2 c2 → P := by intro k1 k2; (repeat' (first | refine QkC ?_ ?_ | refine QkF ?_ ?_ ?_ | refine Qk0 ?_)); all_goals (first | with_reducible assumption | (go_simp; done) | (simp; omega) | exact Qb2 k1 k2)) : P := h k1 k2
theorem Qk3 {P : Prop} {B1 : Nat} {b1 c1 : World} (k1 : Below B1 b1 c1) {B2 : Nat} {b2 c2 : World} (k2 : Below B2 b2 c2) {B3 : Nat} {b3 c3 : World} (k3 : Below B3 b3 c3) (h : Below B1 b1 c1 → Below B2 b2 c2 → Below B3 b3 c3 → P := by intro k1 k2 k3; (repeat' (first | refine QkC ?_ ?_ | refine QkF ?_ ?_ ?_ | refine Qk0 ?_)); all_goals (first | with_reducible assumption | (go_simp; done) | (simp; omega) | exact Qb3 k1 k2 k3)) : P := h k1 k2 k3
theorem Qk4 {P : Prop} {B1 : Nat} {b1 c1 : World} (k1 : Below B1 b1 c1) {B2 : Nat} {b2 c2 : World} (k2 : Below B2 b2 c2) {B3 : Nat} {b3 c3 : World} (k3 : Below B3 b3 c3) {B4 : Nat} {b4 c4 : World} (k4 : Below B4 b4 c4) (h : Below B1 b1 c1 → Below B2 b2 c2 → Below B3 b3 c3 → Below B4 b4 c4 → P := by intro k1 k2 k3 k4; (repeat' (first | refine QkC ?_ ?_ | refine QkF ?_ ?_ ?_ | refine Qk0 ?_)); all_goals (first | with_reducible assumption | (go_simp; done) | (simp; omega) | exact Qb4 k1 k2 k3 k4)) : P := h k1 k2 k3 k4
end Go.Proofs.YtkfodkbgmpbmfaaGreat
namespace Go.Proofs.YtkfodkbgmpbmfaaGreat
open Go.RowKit
theorem bcell {W w1 : World} (hb : Below W.heap.size W w1) : (∀ b o, b < W.heap.size → w1.cell? ⟨b, o, none⟩ = W.cell? ⟨b, o, none⟩) ∧ (∀ b o, b < W.heap.size → w1.frozen? ⟨b, o, none⟩ = W.frozen? ⟨b, o, none⟩) :=
 ⟨fun b o h => hb.cell (p := ⟨b, o, none⟩) h, fun b o h => hb.frozen (p := ⟨b, o, none⟩) h⟩
structure Ch where
 name : ByteArray
 ep : Int
 who : Int
 al : Bool
 kd : Int
 sc : Int
@[reducible] def Ch0 : Ch := ⟨⟨#[]⟩, 0, 0, false, 0, 0⟩
def kindB (k : Int) : Bool := decide (1 ≤ k) && decide (k ≤ 4)
def scB (k s : Int) : Bool := (decide (1 ≤ s) && decide (s ≤ 1048576)) && (!decide (k = 4) || decide (s = 1))
theorem rscale_any (k s : Int) (w : World) : Calls Tryz.prog 180 #[.int .i64 k, .int .i64 s] w fun e w' => e = .returned (.bool (scB k s)) ∧ Below w.heap.size w w' := by
 by_cases hk : k = 4
 · subst hk
   by_cases h1 : s = 1
   · subst h1
     go_enter Tryz.func180, Tryz.ntmps180
     go_wp2
     all_goals go_ret
     all_goals exact ⟨rfl, Below.refl _ _⟩
   · have h1' : (s == 1) = false := beq_false_of_ne h1
     go_enter Tryz.func180, Tryz.ntmps180
     go_wp2
     all_goals go_ret
     all_goals exact ⟨by simp [scB, h1], Below.refl _ _⟩
 · have hk' : (k == 4) = false := beq_false_of_ne hk
   have h2 : s < 1 ∨ (¬ s < 1 ∧ 1048576 < s) ∨ (¬ s < 1 ∧ ¬ 1048576 < s) := by omega
   rcases h2 with h2 | ⟨h2, h3⟩ | ⟨h2, h3⟩
   all_goals
    go_enter Tryz.func180, Tryz.ntmps180
    go_wp2
   all_goals go_ret
   · exact ⟨by rw [show scB k s = false by unfold scB; rw [decide_eq_false (by omega)]; rfl]; rfl, Below.refl _ _⟩
   · exact ⟨by rw [show scB k s = false by unfold scB; rw [decide_eq_false (show ¬ s ≤ 1048576 by omega), Bool.and_false]; rfl]; rfl, Below.refl _ _⟩
   · exact ⟨by rw [show scB k s = true by unfold scB; rw [decide_eq_true (show 1 ≤ s by omega), decide_eq_true (show s ≤ 1048576 by omega), decide_eq_false hk]; rfl]; rfl, Below.refl _ _⟩
def charB (x : Int) : Bool := (decide (97 ≤ x) && decide (x ≤ 122)) || (decide (48 ≤ x) && decide (x ≤ 57)) || decide (x = 95)
def nameB (l : List UInt8) : Bool := (decide (1 ≤ l.length) && decide (l.length ≤ 16)) && l.all fun c => charB c.toNat
theorem char_cases (x : Int) : (charB x = true ∧ ((¬ x < 97 ∧ ¬ 122 < x) ∨ (x < 97 ∧ ¬ x < 48 ∧ ¬ 57 < x) ∨ (x < 97 ∧ ¬ x < 48 ∧ 57 < x ∧ (x == 95) = true))) ∨
    (charB x = false ∧ ((x < 97 ∧ x < 48 ∧ (x == 95) = false) ∨ (x < 97 ∧ ¬ x < 48 ∧ 57 < x ∧ (x == 95) = false) ∨ (¬ x < 97 ∧ 122 < x ∧ ¬ x < 48 ∧ 57 < x ∧ (x == 95) = false))) := by
 unfold charB
 simp only [beq_iff_eq, beq_eq_false_iff_ne, Bool.or_eq_true, Bool.and_eq_true, decide_eq_true_eq, Bool.or_eq_false_iff, Bool.and_eq_false_iff, decide_eq_false_iff_not]
 omega
theorem all_next (l : List UInt8) (k : Nat) (h : k < l.length) : ((l.take (k + 1)).all fun c => charB c.toNat) = (((l.take k).all fun c => charB c.toNat) && charB (l[k].toNat)) := by
 rw [List.take_succ_eq_append_getElem h, List.all_append]
 simp
theorem all_stop (l : List UInt8) (k : Nat) (h : k < l.length) (hc : charB (l[k].toNat) = false) : (l.all fun c => charB c.toNat) = false := by
 rw [List.all_eq_false]
 exact ⟨l[k], List.getElem_mem h, by simp [hc]⟩
set_option maxRecDepth 100000 in
set_option maxHeartbeats 4000000 in
theorem rname_any (s : ByteArray) (hs : s.size ≤ maxLen) (w : World) : Calls Tryz.prog 179 #[.string s] w fun x w' => x = .returned (.bool (nameB s.data.toList)) ∧ Below w.heap.size w w' := by
 have HZ := Lib.hid hs
 clear hs
 go_enter Tryz.func179, Tryz.ntmps179
 go_wp2
 go_loopw [3] (fun i w' => ∃ k : Nat, k ≤ s.size ∧ i = .int .i64 k ∧ Hid (((s.data.toList.take k).all fun c => charB c.toNat) = true) ∧ KeptC w [] [] w') (fun i _ => s.size - (intOf i).toNat)
 case atStart => exact ⟨0, Nat.zero_le _, rfl, rfl, Qk⟩
 case round =>
  obtain ⟨k, hk, rfl, HA, hK⟩ := hrel
  simp only [KeptC, List.forall_mem_cons] at hK; obtain ⟨kb0, _, _⟩ := hK
  by_cases hlt : k < s.size
  · have hst := all_next s.data.toList k hlt
    have hsp := all_stop s.data.toList k hlt
    rw [show s.data.toList[k] = s[k] from rfl] at hst hsp
    have HS := Lib.hid hst; have HP := Lib.hid hsp
    clear hst hsp
    have hw : IntKind.i64.wrap ((k : Int) + 1) = (k : Int) + 1 := by have h := HZ.out; unfold maxLen at h; rw [IntKind.wrap_i64]; omega
    rcases char_cases (s[k].toNat : Int) with ⟨hc, h5⟩ | ⟨hc, h5⟩
    · have HC := Lib.hid hc
      clear hc
      rcases h5 with ⟨g1, g2⟩ | ⟨g1, g2, g3⟩ | ⟨g1, g2, g3, g4⟩
      all_goals
       go_wp2
       go_roundw
       case rel => exact ⟨k + 1, by omega, by go_num, (by have h := HS.out; rw [HA.out, HC.out] at h; exact h), (Qk1 kb0)⟩
       case measure => simp [intOf]; omega
    · have HC := Lib.hid hc
      clear hc
      rcases h5 with ⟨g1, g2, g3⟩ | ⟨g1, g2, g3, g4⟩ | ⟨g1, g2, g3, g4, g5⟩
      all_goals
       go_wp2
       go_ret
       exact ⟨by unfold nameB; rw [HP.out HC.out, Bool.and_false]; rfl, kb0⟩
  · obtain rfl : k = s.size := by omega
    have h := HA.out
    rw [show s.data.toList.take s.size = s.data.toList from List.take_of_length_le (Nat.le_of_eq rfl)] at h
    have e : nameB s.data.toList = (decide (1 ≤ s.size) && decide (s.size ≤ 16)) := by
     unfold nameB
     rw [h, Bool.and_true]
     rfl
    have h3 : ((s.size : Int) < 1) ∨ (¬ (s.size : Int) < 1 ∧ 16 < (s.size : Int)) ∨ (¬ (s.size : Int) < 1 ∧ ¬ 16 < (s.size : Int)) := by omega
    have HE := Lib.hid e
    clear e h HA
    rcases h3 with h1 | ⟨h1, h2⟩ | ⟨h1, h2⟩
    all_goals
     go_wp2
     go_ret
    · exact ⟨by rw [HE.out, decide_eq_false (by omega)]; rfl, kb0⟩
    · refine ⟨?_, kb0⟩
      show Ending.returned (.bool (decide ((s.size : Int) ≤ 16))) = _
      rw [HE.out, decide_eq_false (show ¬ s.size ≤ 16 by omega), Bool.and_false, decide_eq_false (show ¬ (s.size : Int) ≤ 16 by omega)]
    · exact ⟨by rw [HE.out, decide_eq_true (show 1 ≤ s.size by omega), decide_eq_true (show s.size ≤ 16 by omega)]; rfl, kb0⟩
def chFit (s : ByteArray) (e m k c : Int) : Bool := (nameB s.data.toList && (decide (1 ≤ e) && decide (e ≤ 1099511627776) && (decide (0 ≤ m) && decide (m < 16)))) && (kindB k && scB k c)
theorem fit_cases (s : ByteArray) (e m k c : Int) :
    (nameB s.data.toList = false ∧ chFit s e m k c = false) ∨
    (nameB s.data.toList = true ∧ (((e < 1) ∨ (¬ e < 1 ∧ 1099511627776 < e) ∨ (¬ e < 1 ∧ ¬ 1099511627776 < e ∧ m < 0) ∨ (¬ e < 1 ∧ ¬ 1099511627776 < e ∧ ¬ m < 0 ∧ ¬ m < 16)) ∧ chFit s e m k c = false)) ∨
    (nameB s.data.toList = true ∧ ¬ e < 1 ∧ ¬ 1099511627776 < e ∧ ¬ m < 0 ∧ m < 16 ∧ chFit s e m k c = (kindB k && scB k c)) := by
 unfold chFit
 cases nameB s.data.toList with
 | false => exact .inl ⟨rfl, rfl⟩
 | true =>
  by_cases h : (1 ≤ e ∧ e ≤ 1099511627776) ∧ (0 ≤ m ∧ m < 16)
  · obtain ⟨⟨h1, h2⟩, h3, h4⟩ := h
    refine .inr (.inr ⟨rfl, by omega, by omega, by omega, h4, ?_⟩)
    rw [decide_eq_true h1, decide_eq_true h2, decide_eq_true h3, decide_eq_true h4]
    rfl
  · refine .inr (.inl ⟨rfl, by omega, ?_⟩)
    rw [Bool.eq_false_iff]
    intro hc
    apply h
    simp only [Bool.and_eq_true, decide_eq_true_eq, true_and] at hc
    exact hc.1
theorem kind_cases (k : Int) : (kindB k = false ∧ (k < 1 ∨ (¬ k < 1 ∧ 4 < k))) ∨ (kindB k = true ∧ ¬ k < 1 ∧ ¬ 4 < k) := by
 unfold kindB
 by_cases h : 1 ≤ k ∧ k ≤ 4
 · exact .inr ⟨by rw [decide_eq_true h.1, decide_eq_true h.2]; rfl, by omega, by omega⟩
 · refine .inl ⟨?_, by omega⟩
   rw [Bool.eq_false_iff]
   simpa using h
set_option maxRecDepth 100000 in
set_option maxHeartbeats 4000000 in
theorem rfit_any (s : ByteArray) (e m : Int) (al : Bool) (k c : Int) (hs : s.size ≤ maxLen) (w : World) : Calls Tryz.prog 146 #[.agg #[.string s, .int .i64 e, .int .i64 m, .bool al, .int .i64 k, .int .i64 c]] w fun x w' => x = .returned (.bool (chFit s e m k c)) ∧ Below w.heap.size w w' := by
 have c1 := fun w => rname_any s hs w
 have c3 := fun w => rscale_any k c w
 rcases fit_cases s e m k c with ⟨hn, hf⟩ | ⟨hn, hx, hf⟩ | ⟨hn, h1, h2, h3, h4, hf⟩
 · rw [hn] at c1
   rw [hf]
   have C1 := Lib.hid c1
   clear c1 c3 hn hf
   go_enter Tryz.func146, Tryz.ntmps146
   go_wp2_with (fail)
   refine (C1.out _).mono ?_; rintro e w1 ⟨rfl, hb1⟩; obtain ⟨hc1, hf1⟩ := bcell hb1; have hz1 := hb1.size; (try simp at hz1); have hz1_0 : w.heap.size < w1.heap.size := (by omega); have hz1_0_1 : w.heap.size < w1.heap.size + 1 := (by omega); have hz1_0_2 : w.heap.size < w1.heap.size + 1 + 1 := (by omega); have hz1_0_3 : w.heap.size < w1.heap.size + 1 + 1 + 1 := (by omega)
   go_wp2
   go_ret
   exact ⟨rfl, (Qb1 hb1)⟩
 · rw [hn] at c1
   rw [hf]
   have C1 := Lib.hid c1
   clear c1 c3 hn hf
   rcases hx with h1 | ⟨h1, h2⟩ | ⟨h1, h2, h3⟩ | ⟨h1, h2, h3, h4⟩
   all_goals
    go_enter Tryz.func146, Tryz.ntmps146
    go_wp2_with (fail)
    refine (C1.out _).mono ?_; rintro e w1 ⟨rfl, hb1⟩; obtain ⟨hc1, hf1⟩ := bcell hb1; have hz1 := hb1.size; (try simp at hz1); have hz1_0 : w.heap.size < w1.heap.size := (by omega); have hz1_0_1 : w.heap.size < w1.heap.size + 1 := (by omega); have hz1_0_2 : w.heap.size < w1.heap.size + 1 + 1 := (by omega); have hz1_0_3 : w.heap.size < w1.heap.size + 1 + 1 + 1 := (by omega)
    go_wp2
    go_ret
    exact ⟨rfl, (Qb1 hb1)⟩
 · rw [hn] at c1
   rw [hf]
   rcases kind_cases k with ⟨hk, hx⟩ | ⟨hk, h5, h6⟩
   · rw [hk]
     have C1 := Lib.hid c1
     clear c1 c3 hn hf hk
     rcases hx with h5 | ⟨h5, h6⟩
     all_goals
      go_enter Tryz.func146, Tryz.ntmps146
      go_wp2_with (fail)
      refine (C1.out _).mono ?_; rintro e w1 ⟨rfl, hb1⟩; obtain ⟨hc1, hf1⟩ := bcell hb1; have hz1 := hb1.size; (try simp at hz1); have hz1_0 : w.heap.size < w1.heap.size := (by omega); have hz1_0_1 : w.heap.size < w1.heap.size + 1 := (by omega); have hz1_0_2 : w.heap.size < w1.heap.size + 1 + 1 := (by omega); have hz1_0_3 : w.heap.size < w1.heap.size + 1 + 1 + 1 := (by omega)
      go_wp2
      go_ret
      exact ⟨rfl, (Qb1 hb1)⟩
   · rw [hk]
     generalize scB k c = b at *
     have C1 := Lib.hid c1; have C3 := Lib.hid c3
     clear c1 c3 hn hf hk
     go_enter Tryz.func146, Tryz.ntmps146
     go_wp2_with (fail)
     refine (C1.out _).mono ?_; rintro e w1 ⟨rfl, hb1⟩; obtain ⟨hc1, hf1⟩ := bcell hb1; have hz1 := hb1.size; (try simp at hz1); have hz1_0 : w.heap.size < w1.heap.size := (by omega); have hz1_0_1 : w.heap.size < w1.heap.size + 1 := (by omega); have hz1_0_2 : w.heap.size < w1.heap.size + 1 + 1 := (by omega); have hz1_0_3 : w.heap.size < w1.heap.size + 1 + 1 + 1 := (by omega)
     go_wp2_with (fail)
     refine (C3.out _).mono ?_; rintro e w3 ⟨rfl, hb3⟩; obtain ⟨hc3, hf3⟩ := bcell hb3; have hz3 := hb3.size; (try simp at hz3); have hz3_0 : w.heap.size < w3.heap.size := (by omega); have hz3_0_1 : w.heap.size < w3.heap.size + 1 := (by omega); have hz3_0_2 : w.heap.size < w3.heap.size + 1 + 1 := (by omega); have hz3_0_3 : w.heap.size < w3.heap.size + 1 + 1 + 1 := (by omega)
     go_wp2
     go_ret
     exact ⟨rfl, (Qb2 hb3 hb1)⟩
end Go.Proofs.YtkfodkbgmpbmfaaGreat
namespace Go.Proofs.YtkfodkbgmpbmfaaGreat
open Go.RowKit
theorem block_of_add (a : Addr) (n : Nat) : (a.add n).block = a.block := by unfold Addr.add; split <;> rfl
theorem add_of_add (a : Addr) (i j : Nat) : (a.add i).add j = a.add (i + j) := by
 unfold Addr.add
 by_cases hi : i = 0 <;> by_cases hj : j = 0 <;> simp [hi, hj, Nat.add_assoc]

def Reads (w : World) (B size : Nat) (A : Option Addr) (n : Nat) (xs : List Value) : Prop :=
 xs.length = n * size ∧ (0 < n → ∃ ad, A = some ad ∧ ad.block < B ∧ ∀ j u, xs[j]? = some u → w.cell? (ad.add j) = some u)

section
variable {w w' : World} {B B' size n : Nat} {A : Option Addr} {xs : List Value}
theorem Reads.at_ {k : Nat} (h : Reads w B 1 A n xs) (hk : k < n) : ∃ ad u, A = some ad ∧ ad.block < B ∧ xs[k]? = some u ∧ w.cell? (ad.add k) = some u := by
 obtain ⟨ad, e, hb, hc⟩ := h.2 (by omega)
 have hl : k < xs.length := by have := h.1; omega
 exact ⟨ad, xs[k], e, hb, List.getElem?_eq_getElem hl, hc k _ (List.getElem?_eq_getElem hl)⟩
theorem Reads.keep (h : Reads w B size A n xs) (hk : ∀ p : Addr, p.block < B → w'.cell? p = w.cell? p) : Reads w' B size A n xs :=
 ⟨h.1, fun hn => by
  obtain ⟨ad, e, hb, hc⟩ := h.2 hn
  exact ⟨ad, e, hb, fun j u hu => (hk _ (by rw [block_of_add]; exact hb)).trans (hc j u hu)⟩⟩
theorem Reads.more (h : Reads w B size A n xs) (hB : B ≤ B') : Reads w B' size A n xs :=
 ⟨h.1, fun hn => by
  obtain ⟨ad, e, hb, hc⟩ := h.2 hn
  exact ⟨ad, e, by omega, hc⟩⟩
theorem Reads.below (h : Reads w B size A n xs) (hb : Below B w w') : Reads w' B size A n xs := h.keep fun _ hp => hb.cell hp
theorem Reads.alloc (h : Reads w B size A n xs) (hB : B ≤ w.heap.size) (o : Obj) : Reads (w.alloc o) B size A n xs := h.keep fun p hp => World.cell?_alloc_lt w o p (by omega)
theorem Reads.of_own {base : Nat} {e : TypeId} {c : Nat} (h : w.ownsRow base e size (.slice A n c) n xs) : Reads w w.heap.size size A n xs := by
 refine ⟨h.1, fun hn => ?_⟩
 obtain ⟨g, cap, hv, _, hlt⟩ := h.form hn
 have hA : A = some ⟨g, 0, none⟩ := by injection hv
 subst hA
 exact ⟨_, rfl, hlt, h.cells (g := g) rfl⟩
end
end Go.Proofs.YtkfodkbgmpbmfaaGreat
