/- find of a bag: what the call computes. -/
import Derived.Test.YtdaobbffhfbceaaBgI
import Derived.Maps.AppendAt
import Derived.Maps.OwnIn
namespace Go.Proofs.Ytdaobbffhfbceaa
open Go.RowKit Go.Shelf
set_option linter.unusedVariables false
set_option linter.unusedSimpArgs false
set_option maxRecDepth 100000
attribute [local go_sem] Oper.semAt_some
theorem ko_set {W W' : World} (h : KeepsOthers W W') (p : Addr) (v : Value) : KeepsOthers W (W'.setCell p v) := h.trans (KeepsOthers.setCell _ _ _)
theorem ko_alloc {W W' : World} (h : KeepsOthers W W') (o : Obj) : KeepsOthers W (W'.alloc o) := h.trans (KeepsOthers.alloc _ _)
theorem ko_drew {W W' : World} (h : KeepsOthers W W') : KeepsOthers W W'.drew := h.trans (KeepsOthers.drew _)
theorem below_putObj {B l : Nat} (A : World) (o : Obj) (h : B ≤ l) : Below B A (A.putObj l o) :=
  ⟨rfl, rfl, rfl, Nat.le_of_eq (World.putObj_size ..).symm, fun b hb => World.putObj_heap_other (by omega)⟩
theorem cell_putObj {A : World} {l : Nat} {o o' : Obj} {p : Addr} {v : Value} (ho : A.heap[l]? = some o) (hc : o.isCells = false) (h : A.cell? p = some v) : (A.putObj l o').cell? p = some v := by
  refine (World.cell?_of_block (World.putObj_heap_other (fun e => ?_))).trans h
  unfold World.cell? at h
  rw [e, ho] at h
  cases o <;> simp_all [Obj.isCells]
def findR (ls : List Dg) (k : Int) : Value := match findN ls k with
  | none => .tuple #[.int .i64 0, dAgg Dg0, .bool false]
  | some i => .tuple #[.int .i64 i, dAgg ((ls[i]?).getD Dg0), .bool true]
/-- What holds in the rounds of find. -/
def FndI (W0 : World) (k : Int) (pre : List (Nat × Dg)) (W : World) : Prop := Below W0.heap.size W0 W ∧ ∀ x ∈ pre, x.2.num ≠ k
def FndX (w : World) (D : Nat) (k : Int) (pre : List (Nat × Dg)) (W : World) : Prop :=
  Below w.heap.size w W ∧ D ≤ W.heap.size ∧ ∃ (p : List (Nat × Dg)) (x : Nat × Dg), pre = p ++ [x] ∧ x.2.num = k ∧ (∀ y ∈ p, y.2.num ≠ k) ∧
    W.cell? ⟨w.heap.size + 1, 0, none⟩ = some (.int .i64 x.1) ∧ W.cell? ⟨w.heap.size + 2, 0, none⟩ = some (.int .i64 x.2.num) ∧ W.cell? ⟨w.heap.size + 2, 1, none⟩ = some (.int .i64 x.2.frm) ∧ W.cell? ⟨w.heap.size + 2, 2, none⟩ = some (.int .i64 x.2.dst) ∧ W.cell? ⟨w.heap.size + 2, 3, none⟩ = some (.string x.2.body) ∧ W.cell? ⟨w.heap.size + 3, 0, none⟩ = some (.bool true)
theorem FndX.put {w A : World} {D : Nat} {k : Int} {pre : List (Nat × Dg)} {l : Nat} {o o' : Obj} (h : FndX w D k pre A) (hw : w.heap.size ≤ D) (hl : D ≤ l) (ho : A.heap[l]? = some o) (hc : o.isCells = false) : FndX w D k pre (A.putObj l o') := by
  obtain ⟨h1, h2, p, x, h3, h4, h5, q1, q2, q3, q4, q5, q6⟩ := h
  exact ⟨h1.trans (below_putObj _ _ (by omega)), by rw [World.putObj_size]; exact h2, p, x, h3, h4, h5, cell_putObj ho hc q1, cell_putObj ho hc q2, cell_putObj ho hc q3, cell_putObj ho hc q4, cell_putObj ho hc q5, cell_putObj ho hc q6⟩
theorem findR_none {ls : List Dg} {k : Int} (h : ∀ x ∈ upto ls ls.length, x.2.num ≠ k) : findR ls k = .tuple #[.int .i64 0, dAgg Dg0, .bool false] := by
  unfold findR
  rw [findN_none.2 fun d hd => ?_]
  obtain ⟨i, hi, e⟩ := List.getElem_of_mem hd
  have := h _ (mem_upto hi)
  rw [List.getElem?_eq_getElem hi] at this
  rw [← e]
  exact this
theorem findR_some {ls : List Dg} {k : Int} {j : Nat} {p : List (Nat × Dg)} {x : Nat × Dg} (hj : j < ls.length) (he : upto ls (j + 1) = p ++ [x]) (hx : x.2.num = k) (hp : ∀ y ∈ p, y.2.num ≠ k) : findR ls k = .tuple #[.int .i64 x.1, dAgg x.2, .bool true] := by
  rw [upto_succ] at he
  have h1 := List.append_inj_left' he rfl
  have h2 := List.append_inj_right' he rfl
  simp only [List.cons.injEq, and_true] at h2
  subst h1
  subst h2
  unfold findR
  have e := List.getElem?_eq_getElem hj
  rw [findN_at e (by simpa [e] using hx) fun i hi d hd => ?_]
  have := hp _ (mem_upto hi)
  rw [hd] at this
  exact this
theorem postS_ret {α : Type} {B D Bo Bw : Nat} {I Ix : List α → World → Prop} {xs : List α} {W W' : World} {a : Act} (h1 : KeepsFrom B W W') (h2 : Ix xs W') : postS B D Bo Bw I Ix xs W .ret a W' := ⟨h1, h2⟩
theorem find_leave (w X : World) (D : Nat) (tm : Array Value) (i : Int) (d : Dg) (b : Bool) (r : Value) (hr : r = .tuple #[.int .i64 i, dAgg d, .bool b]) (hD : w.heap.size ≤ D) (hX : X.heap[D]? = some (.deferred (some []))) (hb : Below w.heap.size w X)
    (t4 : tm[4]?.getD undef = .pointer (some ⟨w.heap.size + 1, 0, none⟩)) (t5 : tm[5]?.getD undef = .pointer (some ⟨w.heap.size + 2, 0, none⟩)) (t6 : tm[6]?.getD undef = .pointer (some ⟨w.heap.size + 3, 0, none⟩))
    (c1 : X.cell? ⟨w.heap.size + 1, 0, none⟩ = some (.int .i64 i)) (c20 : X.cell? ⟨w.heap.size + 2, 0, none⟩ = some (.int .i64 d.num)) (c21 : X.cell? ⟨w.heap.size + 2, 1, none⟩ = some (.int .i64 d.frm)) (c22 : X.cell? ⟨w.heap.size + 2, 2, none⟩ = some (.int .i64 d.dst)) (c23 : X.cell? ⟨w.heap.size + 2, 3, none⟩ = some (.string d.body)) (c3 : X.cell? ⟨w.heap.size + 3, 0, none⟩ = some (.bool b)) :
    LeavesInM Fence.wide 6 Try.prog Try.f25 tm (fun e w' => e = .returned r ∧ Below w.heap.size w w') [] FrameMode.returning (X.putObj D (.deferred none)) := by
  have e1 := cell_putObj (o' := .deferred none) hX rfl c1
  have e20 := cell_putObj (o' := .deferred none) hX rfl c20
  have e21 := cell_putObj (o' := .deferred none) hX rfl c21
  have e22 := cell_putObj (o' := .deferred none) hX rfl c22
  have e23 := cell_putObj (o' := .deferred none) hX rfl c23
  have e3 := cell_putObj (o' := .deferred none) hX rfl c3
  subst hr
  refine ⟨_, by simp [results, Try.results25, go_sem, *], rfl, hb.trans (below_putObj _ _ hD)⟩
set_option maxHeartbeats 1000000 in
theorem find_any (Bb bm : Nat) (lv : Value) (s : BS) (k : Int) (w : World) (h : BagAt w Bb bm lv s) :
    Calls Try.prog 25 #[.pointer (some ⟨Bb, 0, none⟩), .int .i64 k] w fun e w' => e = .returned (findR s.ls k) ∧ Below w.heap.size w w' := by
  have HB := Lib.hid h
  clear h
  have hmx : Try.prog.follows .mixedOrders = true := by kernel_rfl
  refine (callsIn_wide (n := 6)).1 ?_
  refine callsIn_of_wp_marks Try.func25 rfl trivial ?_ rfl
  simp only [Try.ntmps25, List.size_toArray, List.length_cons, List.length_nil, Nat.reduceAdd, Nat.reduceSub, Array.replicate_succ, Array.replicate_zero, List.push_toArray, List.append_toArray, List.nil_append, List.cons_append]
  refine wpIn_wide.2 ?_
  go_wp2_with (fail)
  refine (flying_any _ _).mono ?_; rintro x w2 ⟨rfl, rfl⟩
  go_wp2
  obtain ⟨W0, hW0⟩ : ∃ W0, W0 = (((((w.alloc (Obj.cells #[.int .i64 k] 2)).alloc (Obj.cells #[.int .i64 0] 3)).alloc (Obj.cells #[.int .i64 0, .int .i64 0, .int .i64 0, .string ⟨#[]⟩] 33)).alloc (Obj.cells #[.bool false] 4)).alloc (Obj.cells #[.pointer (some ⟨Bb, 0, none⟩)] 23)) := ⟨_, rfl⟩
  have hz : W0.heap.size = w.heap.size + 5 := by rw [hW0]; simp
  have hb0 : Below w.heap.size w W0 := by rw [hW0]; exact (by repeat (first | with_reducible refine Below.setCell ?_ (by first | (simp; done) | (simp; omega) | omega) _ | with_reducible refine Below.alloc ?_ (by first | (simp; done) | (simp; omega) | omega) _ | with_reducible refine Below.drew ?_ | with_reducible refine below_drewN ?_ _ | with_reducible exact Below.refl _ _))
  have q0 : W0.cell? ⟨w.heap.size, 0, none⟩ = some (.int .i64 k) := by rw [hW0]; go_simp
  have q4 : W0.cell? ⟨w.heap.size + 4, 0, none⟩ = some (.pointer (some ⟨Bb, 0, none⟩)) := by rw [hW0]; go_simp
  have p1 : W0.cell? ⟨w.heap.size + 1, 0, none⟩ = some (.int .i64 0) := by rw [hW0]; go_simp
  have p20 : W0.cell? ⟨w.heap.size + 2, 0, none⟩ = some (.int .i64 0) := by rw [hW0]; go_simp
  have p21 : W0.cell? ⟨w.heap.size + 2, 1, none⟩ = some (.int .i64 0) := by rw [hW0]; go_simp
  have p22 : W0.cell? ⟨w.heap.size + 2, 2, none⟩ = some (.int .i64 0) := by rw [hW0]; go_simp
  have p23 : W0.cell? ⟨w.heap.size + 2, 3, none⟩ = some (.string ⟨#[]⟩) := by rw [hW0]; go_simp
  have p3 : W0.cell? ⟨w.heap.size + 3, 0, none⟩ = some (.bool false) := by rw [hW0]; go_simp
  have f1 : W0.frozen? ⟨w.heap.size + 1, 0, none⟩ = false := by rw [hW0]; go_simp
  have f20 : W0.frozen? ⟨w.heap.size + 2, 0, none⟩ = false := by rw [hW0]; go_simp
  have f21 : W0.frozen? ⟨w.heap.size + 2, 1, none⟩ = false := by rw [hW0]; go_simp
  have f22 : W0.frozen? ⟨w.heap.size + 2, 2, none⟩ = false := by rw [hW0]; go_simp
  have f23 : W0.frozen? ⟨w.heap.size + 2, 3, none⟩ = false := by rw [hW0]; go_simp
  have f3 : W0.frozen? ⟨w.heap.size + 3, 0, none⟩ = false := by rw [hW0]; go_simp
  rw [← hW0]
  clear hW0
  have hB0 := HB.out.below hb0
  have hfl := HB.out.lt
  have hR0 := hB0.reads (Bo := w.heap.size) (Bw := w.heap.size) (fun b hb => by have := hfl b hb; omega)
  have HR0 := Lib.hid hR0
  clear hR0 hB0 hfl HB
  have hrb : ∀ A, W0.heap.size ≤ A.heap.size → Below W0.heap.size W0 A → rowB w.heap.size A = none := fun A _ hA => by
    unfold rowB
    rw [(hA.cell (p := ⟨w.heap.size, 0, none⟩) (by show w.heap.size < _; omega)).trans q0]
    rfl
  refine (wpIn_wide (n := 6)).1 ?_
  refine wpIn_range_s (by omega) (gf := 44) (lb := #[.pointer (some ⟨w.heap.size + 4, 0, none⟩)]) rfl (enters_of Try.func44 (by kernel_rfl) rfl)
    (encs := encsF) (Bo := w.heap.size) (Bw := w.heap.size) (by omega) (flying_seq 5 (by omega) (w.heap.size + 4) w.heap.size w.heap.size Bb lv s.ls W0 (by omega) (by omega) q4 ⟨by omega, by omega⟩ HR0.out) (fun _ => rfl)
    (FndI W0 k) (FndX w W0.heap.size k) (fun _ A h => ⟨h.1.size, fun r hr => by rw [hrb A h.1.size h.1] at hr; cases hr⟩) (fun _ A C h hf => ⟨h.1.trans ⟨hf.2.2.1, hf.2.2.2.1, hf.2.2.2.2, hf.1, fun b hb => hf.2.1 b (Nat.lt_of_lt_of_le hb h.1.size) (.inl hb)⟩, h.2⟩)
    (fun _ _ _ _ _ h hl ho hc => h.put (by omega) hl ho hc) ⟨Below.refl _ _, fun x hx => by cases hx⟩
    (fun x a' W => ∃ Bx, W0.heap.size ≤ Bx ∧ W.cell? ⟨Bx, 0, none⟩ = some (.int .i64 x.2.num) ∧ W.cell? ⟨Bx, 1, none⟩ = some (.int .i64 x.2.frm) ∧ W.cell? ⟨Bx, 2, none⟩ = some (.int .i64 x.2.dst) ∧ W.cell? ⟨Bx, 3, none⟩ = some (.string x.2.body) ∧
      a' = { tmps := #[.pointer (some ⟨Bb, 0, none⟩), .int .i64 k, undef, .pointer (some ⟨w.heap.size, 0, none⟩), .pointer (some ⟨w.heap.size + 1, 0, none⟩), .pointer (some ⟨w.heap.size + 1 + 1, 0, none⟩), .pointer (some ⟨w.heap.size + 1 + 1 + 1, 0, none⟩), .int .i64 x.1, .pointer (some ⟨Bx, 0, none⟩), .pointer (some ⟨Bb, 0, none⟩), .func (.func 44) #[] #[.pointer (some ⟨w.heap.size + 1 + 1 + 1 + 1, 0, none⟩)], .int .i64 x.1, dAgg x.2, undef, undef, undef, undef, undef, undef, undef], defers := [] })
    (fun x a' A l o o' hx ho hc => by
      obtain ⟨Bx, h1, h2, h3, h4, h5, h6⟩ := hx
      exact ⟨Bx, h1, cell_putObj ho hc h2, cell_putObj ho hc h3, cell_putObj ho hc h4, cell_putObj ho hc h5, h6⟩) ?assign ?body ?done ?stop
  all_goals clear HR0 hrb
  case assign =>
    intro l pre x W K hl hI hK
    unfold encsF
    obtain ⟨xi, xn, xf, xt, xb⟩ := x
    have hIs := hI.1.size
    gi_wp2
    refine hK _ _ ((KeepsOthers.alloc _ _).from _) (Kp.below ((Below.refl _ _).alloc (Nat.le_refl _) _) (by omega)) ⟨hI.1.alloc hIs _, hI.2⟩ ⟨W.heap.size, hIs, by go_simp, by go_simp, by go_simp, by go_simp, rfl⟩
  case body =>
    intro l pre x a' W hl hlen hI hx
    obtain ⟨Bx, hx0, x0, x1, x2, x3, rfl⟩ := hx
    obtain ⟨hIb, hIp⟩ := hI
    have hIs := hIb.size
    have hI0 : Below w.heap.size w W := hb0.trans (hIb.mono (by omega))
    have g0 := (hIb.cell (p := ⟨w.heap.size, 0, none⟩) (by show w.heap.size < _; omega)).trans q0
    obtain ⟨xi, xn, xf, xt, xb⟩ := x
    simp only [] at x0 x1 x2 x3
    have hbl := cell_lt x0
    simp only [] at hbl
    by_cases hk : xn = k
    · subst hk
      have e1 := (hIb.cell (p := ⟨w.heap.size + 1, 0, none⟩) (by show w.heap.size + 1 < _; omega)).trans p1
      have g1 := (hIb.frozen (p := ⟨w.heap.size + 1, 0, none⟩) (by show w.heap.size + 1 < _; omega)).trans f1
      have e20 := (hIb.cell (p := ⟨w.heap.size + 2, 0, none⟩) (by show w.heap.size + 2 < _; omega)).trans p20
      have g20 := (hIb.frozen (p := ⟨w.heap.size + 2, 0, none⟩) (by show w.heap.size + 2 < _; omega)).trans f20
      have e21 := (hIb.cell (p := ⟨w.heap.size + 2, 1, none⟩) (by show w.heap.size + 2 < _; omega)).trans p21
      have g21 := (hIb.frozen (p := ⟨w.heap.size + 2, 1, none⟩) (by show w.heap.size + 2 < _; omega)).trans f21
      have e22 := (hIb.cell (p := ⟨w.heap.size + 2, 2, none⟩) (by show w.heap.size + 2 < _; omega)).trans p22
      have g22 := (hIb.frozen (p := ⟨w.heap.size + 2, 2, none⟩) (by show w.heap.size + 2 < _; omega)).trans f22
      have e23 := (hIb.cell (p := ⟨w.heap.size + 2, 3, none⟩) (by show w.heap.size + 2 < _; omega)).trans p23
      have g23 := (hIb.frozen (p := ⟨w.heap.size + 2, 3, none⟩) (by show w.heap.size + 2 < _; omega)).trans f23
      have e3 := (hIb.cell (p := ⟨w.heap.size + 3, 0, none⟩) (by show w.heap.size + 3 < _; omega)).trans p3
      have g3 := (hIb.frozen (p := ⟨w.heap.size + 3, 0, none⟩) (by show w.heap.size + 3 < _; omega)).trans f3
      gi_wp2
      refine wpIn_region_any hmx ?_
      change wpAnyIn _ _ _ _ _ _ _ _ _ (World.drew _)
      refine wpAnyIn_ready (rs := [0, 1]) (by kernel_rfl) (by simp) ?_
      refine AllReadyIn.cons rfl (fun K hK => ?_) ?_
      · go_simp; refine hK _ _ ?_; clear hK K
        refine wpAnyIn_ready (rs := [1, 2]) (by kernel_rfl) (by simp) ?_
        refine AllReadyIn.cons rfl (fun K hK => ?_) ?_
        · go_simp; refine hK _ _ ?_; clear hK K
          refine wpAnyIn_ready (rs := [2]) (by kernel_rfl) (by simp) ?_
          refine AllReadyIn.cons rfl (fun K hK => ?_) ?_
          · go_simp; refine hK _ _ ?_; clear hK K
            refine wpAnyIn_ready (rs := [3]) (by kernel_rfl) (by simp) ?_
            refine AllReadyIn.cons rfl (fun K hK => ?_) ?_
            · go_simp; refine hK _ _ ?_; clear hK K
              refine wpAnyIn_ready (rs := [4]) (by kernel_rfl) (by simp) ?_
              refine AllReadyIn.cons rfl (fun K hK => ?_) ?_
              · go_simp; refine hK _ _ ?_; clear hK K
                refine wpAnyIn_done (by kernel_rfl) ?_ _
                gi_wp2
                refine postS_ret (KeepsOthers.from ?_ _) ⟨(by repeat (first | with_reducible refine Below.setCell ?_ (by first | (simp; done) | (simp; omega) | omega) _ | with_reducible refine Below.alloc ?_ (by first | (simp; done) | (simp; omega) | omega) _ | with_reducible refine Below.drew ?_ | with_reducible refine below_drewN ?_ _ | with_reducible exact Below.refl _ _ | with_reducible refine Below.trans ?_ (Below.mono hI0 (by first | (simp; done) | (simp; omega) | omega)))), by simp; omega, pre, (xi, ⟨xn, xf, xt, xb⟩), rfl, rfl, hIp, by go_simp, by go_simp, by go_simp, by go_simp, by go_simp, by go_simp⟩
                repeat (first | with_reducible refine ko_set ?_ _ _ | with_reducible refine ko_drew ?_ | with_reducible refine ko_alloc ?_ _ | with_reducible exact KeepsOthers.refl _)
              exact AllReadyIn.nil
            exact AllReadyIn.nil
          exact AllReadyIn.nil
        refine AllReadyIn.cons rfl (fun K hK => ?_) ?_
        · go_simp; refine hK _ _ ?_; clear hK K
          refine wpAnyIn_ready (rs := [1]) (by kernel_rfl) (by simp) ?_
          refine AllReadyIn.cons rfl (fun K hK => ?_) ?_
          · go_simp; refine hK _ _ ?_; clear hK K
            refine wpAnyIn_ready (rs := [3]) (by kernel_rfl) (by simp) ?_
            refine AllReadyIn.cons rfl (fun K hK => ?_) ?_
            · go_simp; refine hK _ _ ?_; clear hK K
              refine wpAnyIn_ready (rs := [4]) (by kernel_rfl) (by simp) ?_
              refine AllReadyIn.cons rfl (fun K hK => ?_) ?_
              · go_simp; refine hK _ _ ?_; clear hK K
                refine wpAnyIn_done (by kernel_rfl) ?_ _
                gi_wp2
                refine postS_ret (KeepsOthers.from ?_ _) ⟨(by repeat (first | with_reducible refine Below.setCell ?_ (by first | (simp; done) | (simp; omega) | omega) _ | with_reducible refine Below.alloc ?_ (by first | (simp; done) | (simp; omega) | omega) _ | with_reducible refine Below.drew ?_ | with_reducible refine below_drewN ?_ _ | with_reducible exact Below.refl _ _ | with_reducible refine Below.trans ?_ (Below.mono hI0 (by first | (simp; done) | (simp; omega) | omega)))), by simp; omega, pre, (xi, ⟨xn, xf, xt, xb⟩), rfl, rfl, hIp, by go_simp, by go_simp, by go_simp, by go_simp, by go_simp, by go_simp⟩
                repeat (first | with_reducible refine ko_set ?_ _ _ | with_reducible refine ko_drew ?_ | with_reducible refine ko_alloc ?_ _ | with_reducible exact KeepsOthers.refl _)
              exact AllReadyIn.nil
            exact AllReadyIn.nil
          exact AllReadyIn.nil
        exact AllReadyIn.nil
      refine AllReadyIn.cons rfl (fun K hK => ?_) ?_
      · go_simp; refine hK _ _ ?_; clear hK K
        refine wpAnyIn_ready (rs := [0]) (by kernel_rfl) (by simp) ?_
        refine AllReadyIn.cons rfl (fun K hK => ?_) ?_
        · go_simp; refine hK _ _ ?_; clear hK K
          refine wpAnyIn_ready (rs := [2]) (by kernel_rfl) (by simp) ?_
          refine AllReadyIn.cons rfl (fun K hK => ?_) ?_
          · go_simp; refine hK _ _ ?_; clear hK K
            refine wpAnyIn_ready (rs := [3]) (by kernel_rfl) (by simp) ?_
            refine AllReadyIn.cons rfl (fun K hK => ?_) ?_
            · go_simp; refine hK _ _ ?_; clear hK K
              refine wpAnyIn_ready (rs := [4]) (by kernel_rfl) (by simp) ?_
              refine AllReadyIn.cons rfl (fun K hK => ?_) ?_
              · go_simp; refine hK _ _ ?_; clear hK K
                refine wpAnyIn_done (by kernel_rfl) ?_ _
                gi_wp2
                refine postS_ret (KeepsOthers.from ?_ _) ⟨(by repeat (first | with_reducible refine Below.setCell ?_ (by first | (simp; done) | (simp; omega) | omega) _ | with_reducible refine Below.alloc ?_ (by first | (simp; done) | (simp; omega) | omega) _ | with_reducible refine Below.drew ?_ | with_reducible refine below_drewN ?_ _ | with_reducible exact Below.refl _ _ | with_reducible refine Below.trans ?_ (Below.mono hI0 (by first | (simp; done) | (simp; omega) | omega)))), by simp; omega, pre, (xi, ⟨xn, xf, xt, xb⟩), rfl, rfl, hIp, by go_simp, by go_simp, by go_simp, by go_simp, by go_simp, by go_simp⟩
                repeat (first | with_reducible refine ko_set ?_ _ _ | with_reducible refine ko_drew ?_ | with_reducible refine ko_alloc ?_ _ | with_reducible exact KeepsOthers.refl _)
              exact AllReadyIn.nil
            exact AllReadyIn.nil
          exact AllReadyIn.nil
        exact AllReadyIn.nil
      exact AllReadyIn.nil
    · have hkb : (xn == k) = false := by simpa using hk
      gi_wp2
      exact ⟨(KeepsOthers.refl _).from _, Kp.refl _ _ _ _, hIb, fun y hy => (List.mem_append.1 hy).elim (hIp y) (fun h => by rw [List.mem_singleton] at h; subst h; exact hk)⟩
  case done =>
    intro D ys W hDw hS hI hDd
    subst hS
    obtain ⟨hIb, hIp⟩ := hI
    have hIs := hIb.size
    have e1 := (hIb.cell (p := ⟨w.heap.size + 1, 0, none⟩) (by show w.heap.size + 1 < _; omega)).trans p1
    have g1 := (hIb.frozen (p := ⟨w.heap.size + 1, 0, none⟩) (by show w.heap.size + 1 < _; omega)).trans f1
    have e20 := (hIb.cell (p := ⟨w.heap.size + 2, 0, none⟩) (by show w.heap.size + 2 < _; omega)).trans p20
    have g20 := (hIb.frozen (p := ⟨w.heap.size + 2, 0, none⟩) (by show w.heap.size + 2 < _; omega)).trans f20
    have e21 := (hIb.cell (p := ⟨w.heap.size + 2, 1, none⟩) (by show w.heap.size + 2 < _; omega)).trans p21
    have g21 := (hIb.frozen (p := ⟨w.heap.size + 2, 1, none⟩) (by show w.heap.size + 2 < _; omega)).trans f21
    have e22 := (hIb.cell (p := ⟨w.heap.size + 2, 2, none⟩) (by show w.heap.size + 2 < _; omega)).trans p22
    have g22 := (hIb.frozen (p := ⟨w.heap.size + 2, 2, none⟩) (by show w.heap.size + 2 < _; omega)).trans f22
    have e23 := (hIb.cell (p := ⟨w.heap.size + 2, 3, none⟩) (by show w.heap.size + 2 < _; omega)).trans p23
    have g23 := (hIb.frozen (p := ⟨w.heap.size + 2, 3, none⟩) (by show w.heap.size + 2 < _; omega)).trans f23
    have e3 := (hIb.cell (p := ⟨w.heap.size + 3, 0, none⟩) (by show w.heap.size + 3 < _; omega)).trans p3
    have g3 := (hIb.frozen (p := ⟨w.heap.size + 3, 0, none⟩) (by show w.heap.size + 3 < _; omega)).trans f3
    simp only [Exit.inBlock, Exit.then]
    go_wp2
    have hD2 : ∀ W', KeepsOthers W W' → W'.heap[D]? = some (.deferred (some [])) := fun W' h => h.same D _ hDd rfl
    have hI0 : Below w.heap.size w W := hb0.trans (hIb.mono (by omega))
    refine ⟨by simp, .inl ⟨_, _, rfl, run_takeDeferred (hD2 _ (by repeat (first | with_reducible refine ko_set ?_ _ _ | with_reducible refine ko_drew ?_ | with_reducible refine ko_alloc ?_ _ | with_reducible exact KeepsOthers.refl _))), ?_⟩⟩
    exact find_leave w _ D _ 0 Dg0 false _ (findR_none hIp) (by omega) (hD2 _ (by repeat (first | with_reducible refine ko_set ?_ _ _ | with_reducible refine ko_drew ?_ | with_reducible refine ko_alloc ?_ _ | with_reducible exact KeepsOthers.refl _))) (by repeat (first | with_reducible refine Below.setCell ?_ (by first | (simp; done) | (simp; omega) | omega) _ | with_reducible refine Below.alloc ?_ (by first | (simp; done) | (simp; omega) | omega) _ | with_reducible refine Below.drew ?_ | with_reducible refine below_drewN ?_ _ | with_reducible exact Below.refl _ _ | with_reducible refine Below.trans ?_ (Below.mono hI0 (by first | (simp; done) | (simp; omega) | omega)))) rfl rfl rfl (by go_simp) (by go_simp; rfl) (by go_simp; rfl) (by go_simp; rfl) (by go_simp; rfl) (by go_simp)
  case stop =>
    intro D pre W hDw hS hI hDd
    obtain ⟨j, hj, hpre⟩ := hS
    obtain ⟨hI0, hI1, p, x, e1, e2, e3, q1, q2, q3, q4, q5, q6⟩ := hI
    simp only [Exit.inBlock, Exit.then]
    gi_wp2
    refine ⟨by simp, .inl ⟨_, _, rfl, run_takeDeferred hDd, ?_⟩⟩
    exact find_leave w W D _ x.1 x.2 true _ (findR_some hj (hpre.symm.trans e1) e2 e3) (by omega) hDd hI0 rfl rfl rfl q1 q2 q3 q4 q5 q6
theorem find_no {Bb bm : Nat} {lv : Value} {s : BS} {k : Int} {w : World} (h : BagAt w Bb bm lv s) (hn : findN s.ls k = none) :
    Calls Try.prog 25 #[.pointer (some ⟨Bb, 0, none⟩), .int .i64 k] w fun e w' => e = .returned (.tuple #[.int .i64 0, dAgg Dg0, .bool false]) ∧ Below w.heap.size w w' := by
  have := find_any Bb bm lv s k w h
  unfold findR at this
  rwa [hn] at this
theorem find_yes {Bb bm : Nat} {lv : Value} {s : BS} {k : Int} {w : World} {i : Nat} {d : Dg} (h : BagAt w Bb bm lv s) (hn : findN s.ls k = some i) (hd : s.ls[i]? = some d) :
    Calls Try.prog 25 #[.pointer (some ⟨Bb, 0, none⟩), .int .i64 k] w fun e w' => e = .returned (.tuple #[.int .i64 i, dAgg d, .bool true]) ∧ Below w.heap.size w w' := by
  have := find_any Bb bm lv s k w h
  unfold findR at this
  rw [hn] at this
  simpa only [hd, Option.getD_some] using this
end Go.Proofs.Ytdaobbffhfbceaa
