/- reg.Most, which ranges over slices.Values. -/
import Derived.Test.YtnmgfginhplpbaaReg
import Derived.Test.YtnmgfginhplpbaaQuiet
import Derived.Test.YtnmgfginhplpbaaMost
import Derived.Test.YtnmgfginhplpbaaVals
namespace Go.Proofs.Ytnmgfginhplpbaa
open Go.RowKit Go.Shelf
attribute [local go_sem] Oper.semAt_some
theorem ownFrom_keptC {β : Type} (B : Nat) (w0 : World) (l : β → List (Addr × Value)) (F : List Addr) (hB : w0.heap.size ≤ B) (hF : ∀ s, (l s).map Prod.fst = F) : OwnFrom B (fun s W => KeptC w0 (l s) F W) :=
  fun s X Y row hs hg hr => ⟨hs.1.grown hg hs.1.size (fun k e => Nat.le_trans hB (hr k e).1), fun x hx => cell_kept (hs.2.1 x hx) hg (fun r e => (hr r e).2), fun a ha => by
    obtain ⟨⟨a, v⟩, hv, rfl⟩ := List.mem_map.1 (hF s ▸ ha)
    exact ⟨Nat.lt_of_lt_of_le (hs.2.2 a ha).1 hg.size, (frozen_kept (hs.2.1 _ hv) hg (fun r e => (hr r e).2)).trans (hs.2.2 a ha).2⟩⟩
theorem keeps_of_below {W W' : World} {B : Nat} (hb : Below B W W') (h : W.heap.size ≤ B) : KeepsOthers W W' :=
  ⟨hb.size, fun k o hk _ => (hb.block k (Nat.lt_of_lt_of_le (Array.getElem?_eq_some_iff.1 hk).1 h)).trans hk⟩
theorem keeps_drawn (W : World) : KeepsOthers W { W with drawn := W.drawn + 1 } := ⟨Nat.le_refl _, fun _ _ h _ => h⟩
theorem ownFrom_cells3 {β : Type} (B : Nat) (p : Addr) (x : R) : OwnFrom B (fun (_ : β) W => cells3 W p x) :=
  fun _ _ _ _ hs hg hr => ⟨cell_kept hs.1 hg (fun r e => (hr r e).2), cell_kept hs.2.1 hg (fun r e => (hr r e).2), cell_kept hs.2.2 hg (fun r e => (hr r e).2)⟩
theorem mostR_add (pre : List R) (x : R) (h : pre ≠ []) : mostR (pre ++ [x]) = mergeR (mostR pre) x := by
  match pre, h with
  | y :: ys, _ => simp [mostR]
def mostI (w : World) (pre : List R) (W : World) : Prop := KeptC w [(⟨w.heap.size, 0, none⟩, .int .i64 0), (⟨w.heap.size, 1, none⟩, .int .i64 0), (⟨w.heap.size, 2, none⟩, .int .i64 0), (⟨w.heap.size + 1, 0, none⟩, .int .i64 (mostR pre).ver), (⟨w.heap.size + 1, 1, none⟩, .int .i64 (mostR pre).wr), (⟨w.heap.size + 1, 2, none⟩, .int .i64 (mostR pre).flow), (⟨w.heap.size + 1 + 1, 0, none⟩, .bool pre.isEmpty)] [⟨w.heap.size, 0, none⟩, ⟨w.heap.size, 1, none⟩, ⟨w.heap.size, 2, none⟩, ⟨w.heap.size + 1, 0, none⟩, ⟨w.heap.size + 1, 1, none⟩, ⟨w.heap.size + 1, 2, none⟩, ⟨w.heap.size + 1 + 1, 0, none⟩] W
set_option maxRecDepth 100000 in
set_option maxHeartbeats 4000000 in
theorem most_any (A : Option Addr) (n c : Nat) (rs : List R) (w : World) (hr : RegsAt w w.heap.size A n rs) (hm : n * 24 ≤ 140737488351232) :
    Calls Try.prog 20 #[.slice A n c] w fun e w' => e = .returned (.agg #[.int .i64 (mostR rs).ver, .int .i64 (mostR rs).wr, .int .i64 (mostR rs).flow]) ∧ Below w.heap.size w w' := by
  refine (callsIn_wide (n := 6)).1 ?_
  refine callsIn_of_wp_marks Try.func20 rfl trivial ?_ rfl
  simp only [Try.ntmps20, List.size_toArray, List.length_cons, List.length_nil, Nat.reduceAdd, Nat.reduceSub, Array.replicate_succ, Array.replicate_zero, List.push_toArray, List.append_toArray, List.nil_append, List.cons_append]
  have hmx : Try.prog.follows .mixedOrders = true := by kernel_rfl
  gi_wp2_with (refine ⟨trivial, ?_⟩; gi_at_call 26; refine (vals_in Fence.wide _ trivial rfl _ _ _ _).mono ?_; rintro e w' ⟨rfl, rfl⟩)
  have hmk : mostI w [] ((((w.alloc (Obj.cells #[Value.int IntKind.i64 0, Value.int IntKind.i64 0, Value.int IntKind.i64 0] 23)).alloc (Obj.cells #[Value.int IntKind.i64 0, Value.int IntKind.i64 0, Value.int IntKind.i64 0] 23)).alloc (Obj.cells #[Value.bool true] 4)).alloc (Obj.cells #[Value.slice A n c] 37)) := by
    unfold mostI mostR; exact (by (repeat' (first | refine KeptC.cons ?_ ?_ | refine KeptC.consF ?_ ?_ ?_ | refine KeptC.mk0 ?_)); all_goals (first | with_reducible assumption | (go_simp; done) | (simp; omega) | exact (by repeat (first | with_reducible refine Below.setCell ?_ (by first | (simp; done) | (simp; omega) | omega) _ | with_reducible refine Below.alloc ?_ (by first | (simp; done) | (simp; omega) | omega) _ | with_reducible refine Below.drew ?_ | with_reducible exact Below.refl _ _))))
  have hcv := (Boxed.new (((w.alloc (Obj.cells #[Value.int IntKind.i64 0, Value.int IntKind.i64 0, Value.int IntKind.i64 0] 23)).alloc (Obj.cells #[Value.int IntKind.i64 0, Value.int IntKind.i64 0, Value.int IntKind.i64 0] 23)).alloc (Obj.cells #[Value.bool true] 4)) 37 (.slice A n c)).cell
  rw [World.size_alloc, World.size_alloc, World.size_alloc] at hcv
  have hsz : ((((w.alloc (Obj.cells #[Value.int IntKind.i64 0, Value.int IntKind.i64 0, Value.int IntKind.i64 0] 23)).alloc (Obj.cells #[Value.int IntKind.i64 0, Value.int IntKind.i64 0, Value.int IntKind.i64 0] 23)).alloc (Obj.cells #[Value.bool true] 4)).alloc (Obj.cells #[Value.slice A n c] 37)).heap.size = w.heap.size + 4 := by simp
  obtain ⟨W0, hW0⟩ : ∃ W0, (((w.alloc (Obj.cells #[Value.int IntKind.i64 0, Value.int IntKind.i64 0, Value.int IntKind.i64 0] 23)).alloc (Obj.cells #[Value.int IntKind.i64 0, Value.int IntKind.i64 0, Value.int IntKind.i64 0] 23)).alloc (Obj.cells #[Value.bool true] 4)).alloc (Obj.cells #[Value.slice A n c] 37) = W0 := ⟨_, rfl⟩
  rw [hW0] at hcv hmk hsz ⊢
  clear hW0
  refine wpIn_rangeFunc_ownH rfl (by omega) (gf := 27) (lb := #[.pointer (some ⟨w.heap.size + 1 + 1 + 1, 0, none⟩)]) rfl trivial (enters_of Try.func27 (by kernel_rfl) rfl)
    (vals_stops Fence.wide _ trivial rfl (by omega) (w.heap.size + 1 + 1 + 1) w.heap.size n c A rs hm W0 (by omega) (by omega) hcv (hr.below hmk.1)) belowK_t (belowK_b (by omega)) (Below.refl _ _) (fun _ => rfl)
    (mostI w) (fun _ _ _ => False)
    (ownFrom_keptC _ w _ _ (by omega) (fun _ => rfl))
    (fun _ _ _ _ _ hs _ _ => hs) hmk
    (fun x a' W => ∃ Bx, w.heap.size + 1 + 1 < Bx ∧ cells3 W ⟨Bx, 0, none⟩ x ∧ a' = { tmps := #[.slice A n c, undef, .pointer (some ⟨w.heap.size, 0, none⟩), .pointer (some ⟨w.heap.size + 1, 0, none⟩), .pointer (some ⟨w.heap.size + 1 + 1, 0, none⟩), .pointer (some ⟨Bx, 0, none⟩), .slice A n c, .func (.func 27) #[] #[.pointer (some ⟨w.heap.size + 1 + 1 + 1, 0, none⟩)], regV x, undef, undef, undef, undef, undef, undef], defers := [] })
    (fun x a' s X Y row hs hg hr => by obtain ⟨Bx, h1, h2, h3⟩ := hs; exact ⟨Bx, h1, ownFrom_cells3 _ _ x s X Y row h2 hg hr, h3⟩)
    ?assign ?body ?done ?stop
  case assign =>
    rintro l pre x W K hI hK
    simp only [regV]
    unfold mostI at hI
    obtain ⟨m, hmm⟩ : ∃ m, mostR pre = m := ⟨_, rfl⟩
    rw [hmm] at hI
    simp only [KeptC, List.forall_mem_cons] at hI; obtain ⟨kb0, ⟨kc0_0, kc0_1, kc0_2, kc0_3, kc0_4, kc0_5, kc0_6, _⟩, ⟨kz0_0, kg0_0⟩, ⟨kz0_1, kg0_1⟩, ⟨kz0_2, kg0_2⟩, ⟨kz0_3, kg0_3⟩, ⟨kz0_4, kg0_4⟩, ⟨kz0_5, kg0_5⟩, ⟨kz0_6, kg0_6⟩, _⟩ := hI
    have hlt0 : w.heap.size + 1 + 1 < W.heap.size := kz0_6
    gi_wp2
    refine hK _ _ ((KeepsOthers.alloc _ _).from _) ((Below.refl _ _).alloc (by omega) _) ?_ ⟨W.heap.size, hlt0, ?_, rfl⟩
    · unfold mostI; rw [hmm]; exact (by (repeat' (first | refine KeptC.cons ?_ ?_ | refine KeptC.consF ?_ ?_ ?_ | refine KeptC.mk0 ?_)); all_goals (first | with_reducible assumption | (go_simp; done) | (simp; omega) | exact (by repeat (first | with_reducible refine Below.setCell ?_ (by first | (simp; done) | (simp; omega) | omega) _ | with_reducible refine Below.alloc ?_ (by first | (simp; done) | (simp; omega) | omega) _ | with_reducible refine Below.drew ?_ | with_reducible exact Below.refl _ _ | with_reducible refine Below.trans ?_ (Below.mono kb0 (by first | (simp; done) | (simp; omega) | omega))))))
    · exact ⟨by go_simp, by go_simp, by go_simp⟩
  case body =>
    rintro l pre x a' W hl ⟨r, hr⟩ hI ⟨Bx, hBx, ⟨x0, x1, x2⟩, rfl⟩ hlt
    have hd : 1 ≤ 6 - 1 - 1 := by omega
    unfold mostI at hI
    by_cases hp : pre = []
    · subst hp
      simp only [mostR, List.isEmpty_nil] at hI
      simp only [KeptC, List.forall_mem_cons] at hI; obtain ⟨kb0, ⟨kc0_0, kc0_1, kc0_2, kc0_3, kc0_4, kc0_5, kc0_6, _⟩, ⟨kz0_0, kg0_0⟩, ⟨kz0_1, kg0_1⟩, ⟨kz0_2, kg0_2⟩, ⟨kz0_3, kg0_3⟩, ⟨kz0_4, kg0_4⟩, ⟨kz0_5, kg0_5⟩, ⟨kz0_6, kg0_6⟩, _⟩ := hI
      simp only [Nat.zero_add] at x0 x1 x2
      have hWs := kb0.size
      simp only [regV]
      gi_wp2
      have hk : KeepsOthers W ((((W.setCell ⟨w.heap.size + 1, 0, none⟩ (.int .i64 x.ver)).setCell ⟨w.heap.size + 1, 1, none⟩ (.int .i64 x.wr)).setCell ⟨w.heap.size + 1, 2, none⟩ (.int .i64 x.flow)).setCell ⟨w.heap.size + 1 + 1, 0, none⟩ (.bool false)) := (((KeepsOthers.setCell _ _ _).trans (KeepsOthers.setCell _ _ _)).trans (KeepsOthers.setCell _ _ _)).trans (KeepsOthers.setCell _ _ _)
      refine ⟨hk.from _, (by repeat (first | with_reducible refine Below.setCell ?_ (by first | (simp; done) | (simp; omega) | omega) _ | with_reducible refine Below.alloc ?_ (by first | (simp; done) | (simp; omega) | omega) _ | with_reducible refine Below.drew ?_ | with_reducible exact Below.refl _ _)), ?_⟩
      show mostI w [x] _
      unfold mostI
      simp only [mostR, List.foldl_nil, List.isEmpty_cons]
      exact (by (repeat' (first | refine KeptC.cons ?_ ?_ | refine KeptC.consF ?_ ?_ ?_ | refine KeptC.mk0 ?_)); all_goals (first | with_reducible assumption | (go_simp; done) | (simp; omega) | exact (by repeat (first | with_reducible refine Below.setCell ?_ (by first | (simp; done) | (simp; omega) | omega) _ | with_reducible refine Below.alloc ?_ (by first | (simp; done) | (simp; omega) | omega) _ | with_reducible refine Below.drew ?_ | with_reducible exact Below.refl _ _ | with_reducible refine Below.trans ?_ (Below.mono kb0 (by first | (simp; done) | (simp; omega) | omega))))))
    · have hma : mostR (pre ++ [x]) = mergeR (mostR pre) x := mostR_add pre x hp
      have hie : pre.isEmpty = false := by cases pre with | nil => exact absurd rfl hp | cons => rfl
      rw [hie] at hI
      obtain ⟨xv, xw, xf⟩ := x
      have cm := fun w => merge_any (mostR pre).ver (mostR pre).wr (mostR pre).flow xv xw xf w
      generalize hM : mostR pre = m at *
      obtain ⟨mv, mw, mf⟩ := m
      generalize mergeR ⟨mv, mw, mf⟩ ⟨xv, xw, xf⟩ = rr at *
      obtain ⟨rv, rw', rf⟩ := rr
      have CM := Lib.hid cm
      have HMA := Lib.hid hma
      clear cm hma hM
      simp only [KeptC, List.forall_mem_cons] at hI; obtain ⟨kb0, ⟨kc0_0, kc0_1, kc0_2, kc0_3, kc0_4, kc0_5, kc0_6, _⟩, ⟨kz0_0, kg0_0⟩, ⟨kz0_1, kg0_1⟩, ⟨kz0_2, kg0_2⟩, ⟨kz0_3, kg0_3⟩, ⟨kz0_4, kg0_4⟩, ⟨kz0_5, kg0_5⟩, ⟨kz0_6, kg0_6⟩, _⟩ := hI
      simp only [Nat.zero_add] at x0 x1 x2
      have hWs := kb0.size
      simp only [regV]
      gi_wp2_with (refine ⟨trivial, ?_⟩; gi_at_call 16; refine (CallsIn.inRound l (callsIn_wide.2 (CM.out _))).mono ?_; rintro e w1 ⟨rfl, hb1⟩; have d0 := (hb1.cell (p := ⟨w.heap.size, 0, none⟩) kz0_0).trans kc0_0; have d1 := (hb1.cell (p := ⟨w.heap.size, 1, none⟩) kz0_1).trans kc0_1; have d2 := (hb1.cell (p := ⟨w.heap.size, 2, none⟩) kz0_2).trans kc0_2; have d3 := (hb1.cell (p := ⟨w.heap.size + 1, 0, none⟩) kz0_3).trans kc0_3; have d4 := (hb1.cell (p := ⟨w.heap.size + 1, 1, none⟩) kz0_4).trans kc0_4; have d5 := (hb1.cell (p := ⟨w.heap.size + 1, 2, none⟩) kz0_5).trans kc0_5; have d6 := (hb1.cell (p := ⟨w.heap.size + 1 + 1, 0, none⟩) kz0_6).trans kc0_6; have e0 := (hb1.frozen (p := ⟨w.heap.size, 0, none⟩) kz0_0).trans kg0_0; have e1 := (hb1.frozen (p := ⟨w.heap.size, 1, none⟩) kz0_1).trans kg0_1; have e2 := (hb1.frozen (p := ⟨w.heap.size, 2, none⟩) kz0_2).trans kg0_2; have e3 := (hb1.frozen (p := ⟨w.heap.size + 1, 0, none⟩) kz0_3).trans kg0_3; have e4 := (hb1.frozen (p := ⟨w.heap.size + 1, 1, none⟩) kz0_4).trans kg0_4; have e5 := (hb1.frozen (p := ⟨w.heap.size + 1, 2, none⟩) kz0_5).trans kg0_5; have e6 := (hb1.frozen (p := ⟨w.heap.size + 1 + 1, 0, none⟩) kz0_6).trans kg0_6; have hs1 := hb1.size; have hB1 := kb0.trans (hb1.mono hWs))
      have hk : KeepsOthers W (((w1.setCell ⟨w.heap.size + 1, 0, none⟩ (.int .i64 rv)).setCell ⟨w.heap.size + 1, 1, none⟩ (.int .i64 rw')).setCell ⟨w.heap.size + 1, 2, none⟩ (.int .i64 rf)) := (((keeps_of_below hb1 (Nat.le_refl _)).trans (KeepsOthers.setCell _ _ _)).trans (KeepsOthers.setCell _ _ _)).trans (KeepsOthers.setCell _ _ _)
      have hb2 := hb1.mono hWs
      refine ⟨hk.from _, (by repeat (first | with_reducible refine Below.setCell ?_ (by first | (simp; done) | (simp; omega) | omega) _ | with_reducible refine Below.alloc ?_ (by first | (simp; done) | (simp; omega) | omega) _ | with_reducible refine Below.drew ?_ | with_reducible exact Below.refl _ _ | with_reducible refine Below.trans ?_ (Below.mono hb2 (by first | (simp; done) | (simp; omega) | omega)))), ?_⟩
      show mostI w (pre ++ [_]) _
      unfold mostI
      rw [HMA.out, show (pre ++ [(⟨xv, xw, xf⟩ : R)]).isEmpty = false by simp]
      exact (by (repeat' (first | refine KeptC.cons ?_ ?_ | refine KeptC.consF ?_ ?_ ?_ | refine KeptC.mk0 ?_)); all_goals (first | with_reducible assumption | (go_simp; done) | (simp; omega) | exact (by repeat (first | with_reducible refine Below.setCell ?_ (by first | (simp; done) | (simp; omega) | omega) _ | with_reducible refine Below.alloc ?_ (by first | (simp; done) | (simp; omega) | omega) _ | with_reducible refine Below.drew ?_ | with_reducible exact Below.refl _ _ | with_reducible refine Below.trans ?_ (Below.mono hB1 (by first | (simp; done) | (simp; omega) | omega))))))
  case done =>
    rintro D zs W hD rfl hI hK
    unfold mostI at hI
    obtain ⟨⟨mv, mw, mf⟩, hmm⟩ : ∃ m, mostR zs = m := ⟨_, rfl⟩
    rw [hmm] at hI
    simp only [KeptC, List.forall_mem_cons] at hI; obtain ⟨kb0, ⟨kc0_0, kc0_1, kc0_2, kc0_3, kc0_4, kc0_5, kc0_6, _⟩, ⟨kz0_0, kg0_0⟩, ⟨kz0_1, kg0_1⟩, ⟨kz0_2, kg0_2⟩, ⟨kz0_3, kg0_3⟩, ⟨kz0_4, kg0_4⟩, ⟨kz0_5, kg0_5⟩, ⟨kz0_6, kg0_6⟩, _⟩ := hI
    have hWs := kb0.size
    gi_wp2
    obtain ⟨W2, hW2⟩ : ∃ W2, ((W.setCell ⟨w.heap.size, 0, none⟩ (.int .i64 mv)).setCell ⟨w.heap.size, 1, none⟩ (.int .i64 mw)).setCell ⟨w.heap.size, 2, none⟩ (.int .i64 mf) = W2 := ⟨_, rfl⟩
    have hk : KeepsOthers W W2 := by rw [← hW2]; exact ((KeepsOthers.setCell _ _ _).trans (KeepsOthers.setCell _ _ _)).trans (KeepsOthers.setCell _ _ _)
    have hb2 : Below w.heap.size w W2 := by rw [← hW2]; exact (by repeat (first | with_reducible refine Below.setCell ?_ (by first | (simp; done) | (simp; omega) | omega) _ | with_reducible refine Below.alloc ?_ (by first | (simp; done) | (simp; omega) | omega) _ | with_reducible refine Below.drew ?_ | with_reducible exact Below.refl _ _ | with_reducible refine Below.trans ?_ (Below.mono kb0 (by first | (simp; done) | (simp; omega) | omega))))
    have d0 : W2.cell? ⟨w.heap.size, 0, none⟩ = some (.int .i64 mv) := by rw [← hW2]; clear hW2; go_simp
    have d1 : W2.cell? ⟨w.heap.size, 1, none⟩ = some (.int .i64 mw) := by rw [← hW2]; clear hW2; go_simp
    have d2 : W2.cell? ⟨w.heap.size, 2, none⟩ = some (.int .i64 mf) := by rw [← hW2]; clear hW2; go_simp
    have hK2 := hk.same D _ hK rfl
    rw [hW2]
    clear hW2
    have f0 := cell_kept d0 (grownBy_putObj' _ D (.deferred none)) (fun r e => by cases e; exact ⟨_, hK2, rfl⟩)
    have f1 := cell_kept d1 (grownBy_putObj' _ D (.deferred none)) (fun r e => by cases e; exact ⟨_, hK2, rfl⟩)
    have f2 := cell_kept d2 (grownBy_putObj' _ D (.deferred none)) (fun r e => by cases e; exact ⟨_, hK2, rfl⟩)
    refine ⟨by simp, .inl ⟨_, _, rfl, run_takeDeferred hK2, ?_⟩⟩
    refine ⟨.agg #[.int .i64 mv, .int .i64 mw, .int .i64 mf], by simp [results, Try.results20, go_sem, *], by rw [hmm], hb2.trans (belowK_b (w := w) (Nat.le_refl _) W2 D _ _ (by omega) hK2 rfl rfl)⟩
  case stop =>
    rintro D c pre W _ _ h _
    exact h.elim
end Go.Proofs.Ytnmgfginhplpbaa
