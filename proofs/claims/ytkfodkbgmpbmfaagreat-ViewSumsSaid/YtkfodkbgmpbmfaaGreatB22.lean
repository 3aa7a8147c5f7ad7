/- Chapter 22, parts on the way: Wh Wi Wj -/
import Derived.Test.YtkfodkbgmpbmfaaGreatB01
import Derived.Test.YtkfodkbgmpbmfaaGreatB21
set_option linter.unusedVariables false
set_option linter.unusedSimpArgs false
namespace Go.Proofs.YtkfodkbgmpbmfaaGreat
open Go.RowKit Go.Shelf
set_option linter.unusedVariables false
set_option linter.unusedSimpArgs false
set_option maxRecDepth 100000
attribute [local go_sem] Oper.semAt_some
set_option maxHeartbeats 8000000 in
theorem links_edges (x : Wd) (f : Int → Int → Bool) (w : World) (hx : WdOk w x)
    (hS : ∀ (i j : Int) (W : World), Below w.heap.size w W → Calls Tryz.prog 55 #[.int .i64 i, .int .i64 j] W fun e w' => e = .returned (.bool (f i j)) ∧ Below W.heap.size W w') :
    Calls Tryz.prog 54 #[WdV x, .func (.func 55) #[] #[]] w fun e w' => ∃ A c OL, e = .returned (.slice A OL.length c) ∧ OwnE Bg.encL 2 62 w' w.heap.size (.slice A OL.length c) OL ∧ Bg.RiseL OL ∧ (∀ y, y ∈ OL ↔ y ∈ selE f (colsE (heldN x) x.nn)) ∧ Below w.heap.size w w' := by
 have hn : x.nn ≤ 16 := by have := hx.len; have := hx.fit.n1; omega
 have HX := Lib.hid hx
 have HS := Lib.hid hS
 clear hx hS
 obtain ⟨i0, hi0, hj0, hj1, hj2⟩ := info_parts link_inf
 refine (callsIn_wide (n := 6)).1 ?_
 refine callsIn_of_wp_marks Tryz.func54 rfl trivial ?_ rfl
 simp only [Tryz.ntmps54, List.size_toArray, List.length_cons, List.length_nil, Nat.reduceAdd, Nat.reduceSub, Array.replicate_succ, Array.replicate_zero, List.push_toArray, List.append_toArray, List.nil_append, List.cons_append]
 refine wpIn_wide.2 ?_
 go_wp2_with (fail)
 refine (vedges_any x _).mono ?_; rintro e w2 ⟨rfl, rfl⟩
 go_wp2
 obtain ⟨W0, hW0⟩ : ∃ W0, W0 = ((((w.alloc (Obj.cells #[.slice x.na x.nn x.nc, .slice x.ua x.un x.uc, .slice x.da x.dn x.dc, .int .i64 x.nx, .slice x.la x.ll x.lc, .slice x.sa x.sl x.sc, .int .i64 x.lost] 30)).alloc (Obj.cells #[.func (.func 55) #[] #[]] 108)).alloc (Obj.cells #[.slice none 0 0] 26)).alloc (Obj.cells #[.slice x.na x.nn x.nc, .slice x.ua x.un x.uc, .slice x.da x.dn x.dc, .int .i64 x.nx, .slice x.la x.ll x.lc, .slice x.sa x.sl x.sc, .int .i64 x.lost] 30)) := ⟨_, rfl⟩
 have hz : W0.heap.size = w.heap.size + 4 := by rw [hW0]; simp
 have hb0 : Below w.heap.size w W0 := by rw [hW0]; exact Qb
 have hI0 : LnkI w W0 (w.heap.size + 2) f [] W0 := ⟨hb0, Nat.le_refl _, fun _ _ _ => rfl, .slice none 0 0, by rw [hW0]; go_simp, by rw [hW0]; go_simp, rfl, .inl ⟨rfl, rfl⟩⟩
 have qs : W0.cell? ⟨w.heap.size + 1, 0, none⟩ = some (.func (.func 55) #[] #[]) := by rw [hW0]; go_simp
 have hbx : KeptC W0 [(⟨w.heap.size + 3, 0, none⟩, .slice x.na x.nn x.nc), (⟨w.heap.size + 3, 1, none⟩, .slice x.ua x.un x.uc), (⟨w.heap.size + 3, 2, none⟩, .slice x.da x.dn x.dc), (⟨w.heap.size + 3, 3, none⟩, .int .i64 x.nx), (⟨w.heap.size + 3, 4, none⟩, .slice x.la x.ll x.lc), (⟨w.heap.size + 3, 5, none⟩, .slice x.sa x.sl x.sc), (⟨w.heap.size + 3, 6, none⟩, .int .i64 x.lost)] [] W0 := by rw [hW0]; exact Qk
 rw [← hW0]
 clear hW0
 have hx0 := (HX.out.cells.below hb0)
 have hf := HX.out.fit
 refine (wpIn_wide (n := 6)).1 ?_
 refine wpIn_range_p (by omega) (gf := 125) (lb := #[.pointer (some ⟨w.heap.size + 3, 0, none⟩)]) rfl (enters_of Tryz.func125 (by kernel_rfl) rfl)
  (encs := encsY) (Pt := PtY) (Bo := w.heap.size + 2) (Bw := w.heap.size + 2) (by omega) (edges_seq 5 (by omega) (w.heap.size + 3) (w.heap.size + 2) (w.heap.size + 2) w.heap.size x W0 (by omega) (by omega) hbx ⟨by omega, by omega⟩ hx0 hf ⟨by omega, by omega, by omega⟩) (fun _ => rfl)
  (LnkI w W0 (w.heap.size + 2) f) (fun _ _ h => h.row) (fun _ _ _ h hf => h.fr (by omega) (by omega) hf) (fun _ _ _ h _ => h) hI0
  (fun y => { tmps := #[WdV x, .func (.func 55) #[] #[], .pointer (some ⟨w.heap.size, 0, none⟩), .pointer (some ⟨w.heap.size + 1, 0, none⟩), .slice none 0 0, .pointer (some ⟨w.heap.size + 1 + 1, 0, none⟩), .int .i64 y.1, .int .i64 y.2, WdV x, .func (.func 125) #[] #[.pointer (some ⟨w.heap.size + 1 + 1 + 1, 0, none⟩)], .int .i64 y.1, .int .i64 y.2, undef, undef, undef, undef, undef, undef, undef, undef, undef, undef, undef, undef, undef], defers := [] }) ?assign ?body ?done
 case assign =>
  intro l y W K hK
  unfold encsY
  gi_wp2
  exact hK
 case body =>
  intro l pre y W hl hlen hI hP
  have HI := Lib.hid hI
  obtain ⟨j1, j2, jk, v, j3, j4, j5⟩ := hI
  have q1 : W.cell? ⟨w.heap.size + 1, 0, none⟩ = some (.func (.func 55) #[] #[]) := (lk_cell (p := ⟨w.heap.size + 1, 0, none⟩) (jk (w.heap.size + 1) (by omega) (by omega))).1.trans qs
  have HSW := Lib.hid (HS.out y.1 y.2 W j1)
  clear j1 j2 jk j3 j4 j5 hP
  gi_wp2_with (fail)
  refine ⟨trivial, (CallsIn.inRound l (callsIn_wide.2 HSW.out)).mono ?_⟩
  rintro e w1 ⟨rfl, hb1⟩
  have hs0 : w.heap.size + 4 ≤ W0.heap.size := by omega
  have HI1 := Lib.hid (HI.out.below (by omega) (by omega) hb1)
  have HKB := Lib.hid (lk_below (B := W0.heap.size) hb1)
  have HKP : Hid (Kp W0.heap.size (w.heap.size + 2) (w.heap.size + 2) W w1) := Lib.hid (Kp.below hb1 (by have := HI.out.2.1; omega))
  obtain ⟨q, hq⟩ : ∃ q, f y.1 y.2 = q := ⟨_, rfl⟩
  rw [hq]
  have HQ := Lib.hid hq
  cases q with
  | false =>
   have HE : Hid (LnkI w W0 (w.heap.size + 2) f (pre ++ [y]) w1) := Lib.hid (by
    have h := HI1.out
    unfold LnkI at h ⊢
    rw [selE_snoc, HQ.out]
    simpa using h)
   clear hq
   gi_wp2
   exact ⟨HKB.out, HKP.out, HE.out⟩
  | true =>
   obtain ⟨j1, j2, jk, v, j3, j4, j5⟩ := HI1.out
   obtain ⟨A2, cp2, rfl⟩ := row_slice' j5
   have hpl : (selE f pre).length ≤ pre.length := List.length_filter_le ..
   have HRA : Hid ((w1.alloc (Obj.cells #[.int .i64 y.1, .int .i64 y.2] 62)).ownsRow W0.heap.size 62 2 (.slice A2 (selE f pre).length cp2) (selE f pre).length (flatE Bg.encL (selE f pre))) := Lib.hid (j5.alloc _)
   have HCN : Hid (CellsE Bg.encL (w1.alloc (Obj.cells #[.int .i64 y.1, .int .i64 y.2] 62)) ⟨w1.heap.size, 0, none⟩ (y.1, y.2)) := Lib.hid (link_cells (by go_simp) (by go_simp))
   have HJ1 := Lib.hid j1; have HJK := Lib.hid jk; have HJ5 := Lib.hid j5
   clear hq j1 jk j5 hz
   gi_wp2_with (gi_at_builtin; (refine wpListIn_append_own_at _ rfl _ _ 26 rfl W0.heap.size 62 i0 _ 2 16 Tryz.underlying26 hi0 hj0 hj1 hj2 rfl (by decide) (.slice A2 (selE f pre).length cp2) (selE f pre).length (flatE Bg.encL (selE f pre)) rfl HRA.out ⟨w1.heap.size, 0, none⟩ 1 1 (Bg.encL y) rfl rfl HCN.out (Bg.encL_one y) (by simp only [maxLen]; omega) (by omega) (by simp; omega) ?_; intro v' w6 hown hgrow _ hat; obtain ⟨A6, c6, hv6⟩ := row_slice' hown; subst hv6; have hra := (row_grown HRA.out hgrow (by simp; omega)).1; have e7 : w6.cell? ⟨w.heap.size + 2, 0, none⟩ = some (.slice A2 (selE f pre).length cp2) := (hra.cell (p := ⟨w.heap.size + 2, 0, none⟩) (by show w.heap.size + 2 < W0.heap.size; omega)).trans ((World.cell?_alloc_lt w1 _ _ (by show w.heap.size + 2 < _; omega)).trans j3); have g7 : w6.frozen? ⟨w.heap.size + 2, 0, none⟩ = false := (hra.frozen (p := ⟨w.heap.size + 2, 0, none⟩) (by show w.heap.size + 2 < W0.heap.size; omega)).trans ((lk_cell (p := ⟨w.heap.size + 2, 0, none⟩) (A := w1) (C := w1.alloc _) (Below.heap_alloc _ _ _ (by show w.heap.size + 2 < _; omega))).2.trans j4)))
   have hA := lnk_app (x := y) (by omega) (by omega) HJ1.out j2 HJK.out j3 j4 HJ5.out HQ.out hown hgrow hat
   exact ⟨HKB.out.trans hA.1, HKP.out.trans hA.2.1, hA.2.2⟩
 case done =>
  intro D ys W hDw hS hI hDd
  subst hS
  obtain ⟨j1, j2, jk, v, j3, j4, j5⟩ := hI
  obtain ⟨A2, cp2, rfl⟩ := row_slice' j5
  obtain ⟨fs, hfs⟩ := toL_list (selE f (colsE (heldN x) x.nn)) (fun y hy => by
   obtain ⟨i, b, h1, h2, _, rfl⟩ := mem_colsE.1 ((List.mem_filter.1 hy).1)
   exact ⟨i, b, by omega, by omega, rfl⟩)
  have hnd : fs.Nodup := by
   have h1 : (fs.map toL).Nodup := by rw [← hfs]; exact (colsE_nodup _ _).sublist List.filter_sublist
   exact List.Pairwise.imp (fun h e => h (by rw [e])) (List.pairwise_map.1 h1)
  have hlen : (selE f (colsE (heldN x) x.nn)).length ≤ 256 := by
   have h1 : (selE f (colsE (heldN x) x.nn)).length ≤ (colsE (heldN x) x.nn).length := List.length_filter_le ..
   rcases colsE_len (heldN x) x.nn with h2 | h2 <;> omega
  have hmem : ∀ (ts : List LF), (∀ z, z ∈ ts ↔ z ∈ fs) → ∀ y, y ∈ ts.map toL ↔ y ∈ selE f (colsE (heldN x) x.nn) := fun ts h y => by
   rw [hfs]
   simp only [List.mem_map]
   exact ⟨fun ⟨z, h1, h2⟩ => ⟨z, (h z).1 h1, h2⟩, fun ⟨z, h1, h2⟩ => ⟨z, (h z).2 h1, h2⟩⟩
  have HM := Lib.hid hmem
  clear hmem
  rw [hfs] at j3 j5 hlen
  rw [List.length_map] at j3 j5 hlen
  have hown : OwnE encF 2 62 W W0.heap.size (.slice A2 fs.length cp2) fs := by
   unfold OwnE
   rw [flat_toL]
   exact j5
  have HSO := Lib.hid (sort_any W0.heap.size A2 cp2 fs W hown hnd (by omega))
  have HJ1 := Lib.hid j1; have HJ5 := Lib.hid j5
  clear hown hnd hfs jk j5 j1
  simp only [Exit.inBlock, Exit.then]
  go_wp2_with (fail)
  refine HSO.out.mono ?_
  rintro e w9 ⟨rfl, ts, ho9, hl9, hm9, hr9, hg9⟩
  have hb9 := (row_grown HJ5.out hg9 (by omega)).1
  have q9 : w9.cell? ⟨w.heap.size + 2, 0, none⟩ = some (.slice A2 fs.length cp2) := (hb9.cell (p := ⟨w.heap.size + 2, 0, none⟩) (by show w.heap.size + 2 < W0.heap.size; omega)).trans j3
  have hDd9 : w9.heap[D]? = some (.deferred (some [])) := by
   refine (hg9.block D (Array.getElem?_eq_some_iff.1 hDd).1 ?_).trans hDd
   intro e
   rcases HJ5.out.2 with ⟨h1, _⟩ | ⟨g, cap, cur, h1, _, h3, _⟩
   · rw [h1] at e; simp [Value.ownBlock] at e
   · rw [h1] at e
     simp [Value.ownBlock] at e
     subst e
     rw [h3] at hDd
     cases hDd
  have HO9 := Lib.hid ho9; have HM9 := Lib.hid (HM.out ts hm9); have HR9 := Lib.hid hr9; have HB9 := Lib.hid (HJ1.out.trans (hb9.mono (by omega)))
  clear ho9 hm9 hr9 hg9 hb9
  go_wp2
  refine ⟨by simp, .inl ⟨_, _, rfl, run_takeDeferred hDd9, ?_⟩⟩
  refine ⟨.slice A2 fs.length cp2, by simp [results, Tryz.results54, go_sem, *], A2, cp2, ts.map toL, by rw [List.length_map, hl9], ?_, HR9.out, HM9.out, HB9.out.trans (belowK_b (w := w) (Nat.le_refl _) w9 D _ _ (by omega) hDd9 rfl rfl)⟩
  have h8 : OwnE encF 2 62 (w9.putObj D (.deferred none)) W0.heap.size (.slice A2 fs.length cp2) ts := ownsRow_putObj HO9.out _ hDd9 rfl
  have h9 : OwnE Bg.encL 2 62 (w9.putObj D (.deferred none)) W0.heap.size (.slice A2 fs.length cp2) (ts.map toL) := by
   unfold OwnE at h8 ⊢
   rw [List.length_map, ← flat_toL]
   exact h8
  rw [List.length_map, hl9]
  exact OwnE.less h9 (by omega)
set_option maxHeartbeats 8000000 in
theorem links_open (x : Wd) (b2 b3 : Nat) (f : Int → Int → Bool) (w : World) (hx : WdOk w x)
    (hS : ∀ (i j : Int) (W : World), Below w.heap.size w W → Calls Tryz.prog 56 #[.int .i64 i, .int .i64 j, .pointer (some ⟨b2, 0, none⟩), .pointer (some ⟨b3, 0, none⟩)] W fun e w' => e = .returned (.bool (f i j)) ∧ Below W.heap.size W w') :
    Calls Tryz.prog 54 #[WdV x, .func (.func 56) #[] #[.pointer (some ⟨b2, 0, none⟩), .pointer (some ⟨b3, 0, none⟩)]] w fun e w' => ∃ A c OL, e = .returned (.slice A OL.length c) ∧ OwnE Bg.encL 2 62 w' w.heap.size (.slice A OL.length c) OL ∧ Bg.RiseL OL ∧ (∀ y, y ∈ OL ↔ y ∈ selE f (colsE (heldN x) x.nn)) ∧ Below w.heap.size w w' := by
 have hn : x.nn ≤ 16 := by have := hx.len; have := hx.fit.n1; omega
 have HX := Lib.hid hx
 have HS := Lib.hid hS
 clear hx hS
 obtain ⟨i0, hi0, hj0, hj1, hj2⟩ := info_parts link_inf
 refine (callsIn_wide (n := 6)).1 ?_
 refine callsIn_of_wp_marks Tryz.func54 rfl trivial ?_ rfl
 simp only [Tryz.ntmps54, List.size_toArray, List.length_cons, List.length_nil, Nat.reduceAdd, Nat.reduceSub, Array.replicate_succ, Array.replicate_zero, List.push_toArray, List.append_toArray, List.nil_append, List.cons_append]
 refine wpIn_wide.2 ?_
 go_wp2_with (fail)
 refine (vedges_any x _).mono ?_; rintro e w2 ⟨rfl, rfl⟩
 go_wp2
 obtain ⟨W0, hW0⟩ : ∃ W0, W0 = ((((w.alloc (Obj.cells #[.slice x.na x.nn x.nc, .slice x.ua x.un x.uc, .slice x.da x.dn x.dc, .int .i64 x.nx, .slice x.la x.ll x.lc, .slice x.sa x.sl x.sc, .int .i64 x.lost] 30)).alloc (Obj.cells #[.func (.func 56) #[] #[.pointer (some ⟨b2, 0, none⟩), .pointer (some ⟨b3, 0, none⟩)]] 108)).alloc (Obj.cells #[.slice none 0 0] 26)).alloc (Obj.cells #[.slice x.na x.nn x.nc, .slice x.ua x.un x.uc, .slice x.da x.dn x.dc, .int .i64 x.nx, .slice x.la x.ll x.lc, .slice x.sa x.sl x.sc, .int .i64 x.lost] 30)) := ⟨_, rfl⟩
 have hz : W0.heap.size = w.heap.size + 4 := by rw [hW0]; simp
 have hb0 : Below w.heap.size w W0 := by rw [hW0]; exact Qb
 have hI0 : LnkI w W0 (w.heap.size + 2) f [] W0 := ⟨hb0, Nat.le_refl _, fun _ _ _ => rfl, .slice none 0 0, by rw [hW0]; go_simp, by rw [hW0]; go_simp, rfl, .inl ⟨rfl, rfl⟩⟩
 have qs : W0.cell? ⟨w.heap.size + 1, 0, none⟩ = some (.func (.func 56) #[] #[.pointer (some ⟨b2, 0, none⟩), .pointer (some ⟨b3, 0, none⟩)]) := by rw [hW0]; go_simp
 have hbx : KeptC W0 [(⟨w.heap.size + 3, 0, none⟩, .slice x.na x.nn x.nc), (⟨w.heap.size + 3, 1, none⟩, .slice x.ua x.un x.uc), (⟨w.heap.size + 3, 2, none⟩, .slice x.da x.dn x.dc), (⟨w.heap.size + 3, 3, none⟩, .int .i64 x.nx), (⟨w.heap.size + 3, 4, none⟩, .slice x.la x.ll x.lc), (⟨w.heap.size + 3, 5, none⟩, .slice x.sa x.sl x.sc), (⟨w.heap.size + 3, 6, none⟩, .int .i64 x.lost)] [] W0 := by rw [hW0]; exact Qk
 rw [← hW0]
 clear hW0
 have hx0 := (HX.out.cells.below hb0)
 have hf := HX.out.fit
 refine (wpIn_wide (n := 6)).1 ?_
 refine wpIn_range_p (by omega) (gf := 125) (lb := #[.pointer (some ⟨w.heap.size + 3, 0, none⟩)]) rfl (enters_of Tryz.func125 (by kernel_rfl) rfl)
  (encs := encsY) (Pt := PtY) (Bo := w.heap.size + 2) (Bw := w.heap.size + 2) (by omega) (edges_seq 5 (by omega) (w.heap.size + 3) (w.heap.size + 2) (w.heap.size + 2) w.heap.size x W0 (by omega) (by omega) hbx ⟨by omega, by omega⟩ hx0 hf ⟨by omega, by omega, by omega⟩) (fun _ => rfl)
  (LnkI w W0 (w.heap.size + 2) f) (fun _ _ h => h.row) (fun _ _ _ h hf => h.fr (by omega) (by omega) hf) (fun _ _ _ h _ => h) hI0
  (fun y => { tmps := #[WdV x, .func (.func 56) #[] #[.pointer (some ⟨b2, 0, none⟩), .pointer (some ⟨b3, 0, none⟩)], .pointer (some ⟨w.heap.size, 0, none⟩), .pointer (some ⟨w.heap.size + 1, 0, none⟩), .slice none 0 0, .pointer (some ⟨w.heap.size + 1 + 1, 0, none⟩), .int .i64 y.1, .int .i64 y.2, WdV x, .func (.func 125) #[] #[.pointer (some ⟨w.heap.size + 1 + 1 + 1, 0, none⟩)], .int .i64 y.1, .int .i64 y.2, undef, undef, undef, undef, undef, undef, undef, undef, undef, undef, undef, undef, undef], defers := [] }) ?assign ?body ?done
 case assign =>
  intro l y W K hK
  unfold encsY
  gi_wp2
  exact hK
 case body =>
  intro l pre y W hl hlen hI hP
  have HI := Lib.hid hI
  obtain ⟨j1, j2, jk, v, j3, j4, j5⟩ := hI
  have q1 : W.cell? ⟨w.heap.size + 1, 0, none⟩ = some (.func (.func 56) #[] #[.pointer (some ⟨b2, 0, none⟩), .pointer (some ⟨b3, 0, none⟩)]) := (lk_cell (p := ⟨w.heap.size + 1, 0, none⟩) (jk (w.heap.size + 1) (by omega) (by omega))).1.trans qs
  have HSW := Lib.hid (HS.out y.1 y.2 W j1)
  clear j1 j2 jk j3 j4 j5 hP
  gi_wp2_with (fail)
  refine ⟨trivial, (CallsIn.inRound l (callsIn_wide.2 HSW.out)).mono ?_⟩
  rintro e w1 ⟨rfl, hb1⟩
  have hs0 : w.heap.size + 4 ≤ W0.heap.size := by omega
  have HI1 := Lib.hid (HI.out.below (by omega) (by omega) hb1)
  have HKB := Lib.hid (lk_below (B := W0.heap.size) hb1)
  have HKP : Hid (Kp W0.heap.size (w.heap.size + 2) (w.heap.size + 2) W w1) := Lib.hid (Kp.below hb1 (by have := HI.out.2.1; omega))
  obtain ⟨q, hq⟩ : ∃ q, f y.1 y.2 = q := ⟨_, rfl⟩
  rw [hq]
  have HQ := Lib.hid hq
  cases q with
  | false =>
   have HE : Hid (LnkI w W0 (w.heap.size + 2) f (pre ++ [y]) w1) := Lib.hid (by
    have h := HI1.out
    unfold LnkI at h ⊢
    rw [selE_snoc, HQ.out]
    simpa using h)
   clear hq
   gi_wp2
   exact ⟨HKB.out, HKP.out, HE.out⟩
  | true =>
   obtain ⟨j1, j2, jk, v, j3, j4, j5⟩ := HI1.out
   obtain ⟨A2, cp2, rfl⟩ := row_slice' j5
   have hpl : (selE f pre).length ≤ pre.length := List.length_filter_le ..
   have HRA : Hid ((w1.alloc (Obj.cells #[.int .i64 y.1, .int .i64 y.2] 62)).ownsRow W0.heap.size 62 2 (.slice A2 (selE f pre).length cp2) (selE f pre).length (flatE Bg.encL (selE f pre))) := Lib.hid (j5.alloc _)
   have HCN : Hid (CellsE Bg.encL (w1.alloc (Obj.cells #[.int .i64 y.1, .int .i64 y.2] 62)) ⟨w1.heap.size, 0, none⟩ (y.1, y.2)) := Lib.hid (link_cells (by go_simp) (by go_simp))
   have HJ1 := Lib.hid j1; have HJK := Lib.hid jk; have HJ5 := Lib.hid j5
   clear hq j1 jk j5 hz
   gi_wp2_with (gi_at_builtin; (refine wpListIn_append_own_at _ rfl _ _ 26 rfl W0.heap.size 62 i0 _ 2 16 Tryz.underlying26 hi0 hj0 hj1 hj2 rfl (by decide) (.slice A2 (selE f pre).length cp2) (selE f pre).length (flatE Bg.encL (selE f pre)) rfl HRA.out ⟨w1.heap.size, 0, none⟩ 1 1 (Bg.encL y) rfl rfl HCN.out (Bg.encL_one y) (by simp only [maxLen]; omega) (by omega) (by simp; omega) ?_; intro v' w6 hown hgrow _ hat; obtain ⟨A6, c6, hv6⟩ := row_slice' hown; subst hv6; have hra := (row_grown HRA.out hgrow (by simp; omega)).1; have e7 : w6.cell? ⟨w.heap.size + 2, 0, none⟩ = some (.slice A2 (selE f pre).length cp2) := (hra.cell (p := ⟨w.heap.size + 2, 0, none⟩) (by show w.heap.size + 2 < W0.heap.size; omega)).trans ((World.cell?_alloc_lt w1 _ _ (by show w.heap.size + 2 < _; omega)).trans j3); have g7 : w6.frozen? ⟨w.heap.size + 2, 0, none⟩ = false := (hra.frozen (p := ⟨w.heap.size + 2, 0, none⟩) (by show w.heap.size + 2 < W0.heap.size; omega)).trans ((lk_cell (p := ⟨w.heap.size + 2, 0, none⟩) (A := w1) (C := w1.alloc _) (Below.heap_alloc _ _ _ (by show w.heap.size + 2 < _; omega))).2.trans j4)))
   have hA := lnk_app (x := y) (by omega) (by omega) HJ1.out j2 HJK.out j3 j4 HJ5.out HQ.out hown hgrow hat
   exact ⟨HKB.out.trans hA.1, HKP.out.trans hA.2.1, hA.2.2⟩
 case done =>
  intro D ys W hDw hS hI hDd
  subst hS
  obtain ⟨j1, j2, jk, v, j3, j4, j5⟩ := hI
  obtain ⟨A2, cp2, rfl⟩ := row_slice' j5
  obtain ⟨fs, hfs⟩ := toL_list (selE f (colsE (heldN x) x.nn)) (fun y hy => by
   obtain ⟨i, b, h1, h2, _, rfl⟩ := mem_colsE.1 ((List.mem_filter.1 hy).1)
   exact ⟨i, b, by omega, by omega, rfl⟩)
  have hnd : fs.Nodup := by
   have h1 : (fs.map toL).Nodup := by rw [← hfs]; exact (colsE_nodup _ _).sublist List.filter_sublist
   exact List.Pairwise.imp (fun h e => h (by rw [e])) (List.pairwise_map.1 h1)
  have hlen : (selE f (colsE (heldN x) x.nn)).length ≤ 256 := by
   have h1 : (selE f (colsE (heldN x) x.nn)).length ≤ (colsE (heldN x) x.nn).length := List.length_filter_le ..
   rcases colsE_len (heldN x) x.nn with h2 | h2 <;> omega
  have hmem : ∀ (ts : List LF), (∀ z, z ∈ ts ↔ z ∈ fs) → ∀ y, y ∈ ts.map toL ↔ y ∈ selE f (colsE (heldN x) x.nn) := fun ts h y => by
   rw [hfs]
   simp only [List.mem_map]
   exact ⟨fun ⟨z, h1, h2⟩ => ⟨z, (h z).1 h1, h2⟩, fun ⟨z, h1, h2⟩ => ⟨z, (h z).2 h1, h2⟩⟩
  have HM := Lib.hid hmem
  clear hmem
  rw [hfs] at j3 j5 hlen
  rw [List.length_map] at j3 j5 hlen
  have hown : OwnE encF 2 62 W W0.heap.size (.slice A2 fs.length cp2) fs := by
   unfold OwnE
   rw [flat_toL]
   exact j5
  have HSO := Lib.hid (sort_any W0.heap.size A2 cp2 fs W hown hnd (by omega))
  have HJ1 := Lib.hid j1; have HJ5 := Lib.hid j5
  clear hown hnd hfs jk j5 j1
  simp only [Exit.inBlock, Exit.then]
  go_wp2_with (fail)
  refine HSO.out.mono ?_
  rintro e w9 ⟨rfl, ts, ho9, hl9, hm9, hr9, hg9⟩
  have hb9 := (row_grown HJ5.out hg9 (by omega)).1
  have q9 : w9.cell? ⟨w.heap.size + 2, 0, none⟩ = some (.slice A2 fs.length cp2) := (hb9.cell (p := ⟨w.heap.size + 2, 0, none⟩) (by show w.heap.size + 2 < W0.heap.size; omega)).trans j3
  have hDd9 : w9.heap[D]? = some (.deferred (some [])) := by
   refine (hg9.block D (Array.getElem?_eq_some_iff.1 hDd).1 ?_).trans hDd
   intro e
   rcases HJ5.out.2 with ⟨h1, _⟩ | ⟨g, cap, cur, h1, _, h3, _⟩
   · rw [h1] at e; simp [Value.ownBlock] at e
   · rw [h1] at e
     simp [Value.ownBlock] at e
     subst e
     rw [h3] at hDd
     cases hDd
  have HO9 := Lib.hid ho9; have HM9 := Lib.hid (HM.out ts hm9); have HR9 := Lib.hid hr9; have HB9 := Lib.hid (HJ1.out.trans (hb9.mono (by omega)))
  clear ho9 hm9 hr9 hg9 hb9
  go_wp2
  refine ⟨by simp, .inl ⟨_, _, rfl, run_takeDeferred hDd9, ?_⟩⟩
  refine ⟨.slice A2 fs.length cp2, by simp [results, Tryz.results54, go_sem, *], A2, cp2, ts.map toL, by rw [List.length_map, hl9], ?_, HR9.out, HM9.out, HB9.out.trans (belowK_b (w := w) (Nat.le_refl _) w9 D _ _ (by omega) hDd9 rfl rfl)⟩
  have h8 : OwnE encF 2 62 (w9.putObj D (.deferred none)) W0.heap.size (.slice A2 fs.length cp2) ts := ownsRow_putObj HO9.out _ hDd9 rfl
  have h9 : OwnE Bg.encL 2 62 (w9.putObj D (.deferred none)) W0.heap.size (.slice A2 fs.length cp2) (ts.map toL) := by
   unfold OwnE at h8 ⊢
   rw [List.length_map, ← flat_toL]
   exact h8
  rw [List.length_map, hl9]
  exact OwnE.less h9 (by omega)
end Go.Proofs.YtkfodkbgmpbmfaaGreat
namespace Go.Proofs.YtkfodkbgmpbmfaaGreat
open Go.RowKit Go.Shelf
set_option linter.unusedVariables false
set_option linter.unusedSimpArgs false
set_option maxRecDepth 100000
theorem mem_rowE {p : Nat → Nat → Bool} {i b : Nat} {y : Int × Int} : y ∈ rowE p i b ↔ ∃ j : Nat, i < j ∧ j < b ∧ p i j = true ∧ y = ((i : Int), (j : Int)) := by
 unfold rowE
 simp only [List.mem_map, List.mem_filter, List.mem_range, Bool.and_eq_true, decide_eq_true_eq]
 constructor
 · rintro ⟨j, ⟨h1, h2, h3⟩, rfl⟩; exact ⟨j, h2, h1, h3, rfl⟩
 · rintro ⟨j, h2, h1, h3, rfl⟩; exact ⟨j, ⟨h1, h2, h3⟩, rfl⟩
theorem mem_allE {p : Nat → Nat → Bool} {n a : Nat} {y : Int × Int} : y ∈ allE p n a ↔ ∃ i j : Nat, i < a ∧ i < j ∧ j < n ∧ p i j = true ∧ y = ((i : Int), (j : Int)) := by
 unfold allE
 simp only [List.mem_flatMap, List.mem_range, mem_rowE]
 constructor
 · rintro ⟨i, h1, j, h2, h3, h4, rfl⟩; exact ⟨i, j, h1, h2, h3, h4, rfl⟩
 · rintro ⟨i, j, h1, h2, h3, h4, rfl⟩; exact ⟨i, h1, j, h2, h3, h4, rfl⟩
theorem rowE_rise (p : Nat → Nat → Bool) (i : Nat) : ∀ b, Bg.RiseL (rowE p i b)
 | 0 => by rw [rowE_start p i 0 (by omega)]; exact List.Pairwise.nil
 | b + 1 => by
  by_cases h : i < b
  · rw [rowE_next p i b h]
    refine List.pairwise_append.2 ⟨rowE_rise p i b, ?_, ?_⟩
    · split
      · exact List.pairwise_singleton _ _
      · exact List.Pairwise.nil
    · intro y hy z hz
      obtain ⟨j, h1, h2, _, rfl⟩ := mem_rowE.1 hy
      split at hz
      · simp only [List.mem_singleton] at hz
        subst hz
        simp [Bg.ltL]
        omega
      · cases hz
  · rw [rowE_start p i (b + 1) (by omega)]
    exact List.Pairwise.nil
theorem allE_rise (p : Nat → Nat → Bool) (n : Nat) : ∀ a, Bg.RiseL (allE p n a)
 | 0 => by simp [allE, Bg.RiseL]
 | a + 1 => by
  rw [allE_next]
  refine List.pairwise_append.2 ⟨allE_rise p n a, rowE_rise p a n, ?_⟩
  intro y hy z hz
  obtain ⟨i, j, h1, _, _, _, rfl⟩ := mem_allE.1 hy
  obtain ⟨k, _, _, _, rfl⟩ := mem_rowE.1 hz
  simp [Bg.ltL]
  omega
theorem sel_all {p : Nat → Nat → Bool} {n : Nat} {f : Int → Int → Bool} {g : Int × Int → Bool} (hg : ∀ y : Int × Int, g y = f y.1 y.2) {OL : List (Int × Int)} (h : Bg.RiseL OL) (hm : ∀ y, y ∈ OL ↔ y ∈ selE f (colsE p n)) : OL = (allE p n n).filter g := by
 refine Bg.rise_ext h ((allE_rise p n n).sublist List.filter_sublist) (fun y => ?_)
 rw [hm]
 unfold selE
 simp only [List.mem_filter, mem_colsE, mem_allE, hg]
 constructor
 · rintro ⟨⟨i, b, h1, h2, h3, rfl⟩, h4⟩; exact ⟨⟨i, b, by omega, h1, h2, h3, rfl⟩, h4⟩
 · rintro ⟨⟨i, b, _, h1, h2, h3, rfl⟩, h4⟩; exact ⟨⟨i, b, h1, h2, h3, rfl⟩, h4⟩
theorem edges1_any (i j : Int) (w : World) : Calls Tryz.prog 55 #[.int .i64 i, .int .i64 j] w fun e w' => e = .returned (.bool true) ∧ Below w.heap.size w w' := by
 go_enter Tryz.func55, Tryz.ntmps55
 go_wp2
 go_ret
 exact ⟨rfl, Below.refl _ _⟩
set_option maxHeartbeats 4000000 in
theorem edges_any (x : Wd) (w : World) (hx : WdOk w x) :
    Calls Tryz.prog 17 #[WdV x] w fun e w' => ∃ A c, e = .returned (.slice A (allE (heldN x) x.nn x.nn).length c) ∧ OwnE Bg.encL 2 62 w' w.heap.size (.slice A (allE (heldN x) x.nn x.nn).length c) (allE (heldN x) x.nn x.nn) ∧ Below w.heap.size w w' := by
 have C := Lib.hid (fun W (hb : Below w.heap.size w W) => links_edges x (fun _ _ => true) W (hx.below hb) (fun i j W' _ => edges1_any i j W'))
 clear hx
 go_enter Tryz.func17, Tryz.ntmps17
 go_wp2_with (fail)
 refine (C.out _ Qb).mono ?_; rintro e w1 ⟨A, c, OL, rfl, ho, hr, hm, hb1⟩
 obtain rfl : OL = allE (heldN x) x.nn x.nn := by
  rw [sel_all (g := fun _ => true) (fun _ => rfl) hr hm]
  exact List.filter_eq_self.2 (fun _ _ => rfl)
 have HO := Lib.hid ho
 have HB : Hid (Below w.heap.size w w1) := Lib.hid (Qb1 hb1)
 clear ho hr hm hb1
 go_wp2
 go_ret
 exact ⟨A, c, rfl, OwnE.less HO.out (by simp), HB.out⟩
set_option maxHeartbeats 8000000 in
theorem open1_any (x : Wd) (nm : ByteArray) (i j : Int) (b2 b3 : Nat) (w : World) (hx : WdOk w x)
    (hk : KeptC w [(⟨b2, 0, none⟩, .slice x.na x.nn x.nc), (⟨b2, 1, none⟩, .slice x.ua x.un x.uc), (⟨b2, 2, none⟩, .slice x.da x.dn x.dc), (⟨b2, 3, none⟩, .int .i64 x.nx), (⟨b2, 4, none⟩, .slice x.la x.ll x.lc), (⟨b2, 5, none⟩, .slice x.sa x.sl x.sc), (⟨b2, 6, none⟩, .int .i64 x.lost), (⟨b3, 0, none⟩, .string nm)] [] w) :
    Calls Tryz.prog 56 #[.int .i64 i, .int .i64 j, .pointer (some ⟨b2, 0, none⟩), .pointer (some ⟨b3, 0, none⟩)] w fun e w' => e = .returned (.bool (openP x nm (i, j))) ∧ Below w.heap.size w w' := by
 have CB := Lib.hid (fun W (hb : Below w.heap.size w W) => both_any x i j nm W (hx.below hb))
 have CA := Lib.hid (fun W (hb : Below w.heap.size w W) => agreed_any x i j nm W (hx.below hb))
 clear hx
 simp only [KeptC, List.forall_mem_cons] at hk
 obtain ⟨_, ⟨c0, c1, c2, c3, c4, c5, c6, c7, _⟩, _⟩ := hk
 unfold openP
 simp only []
 generalize bothB x i j nm = p at CB ⊢
 generalize agreedB x i j nm = q at CA ⊢
 go_enter Tryz.func56, Tryz.ntmps56
 go_wp2_with (fail)
 refine (CB.out _ Qb).mono ?_; rintro e w1 ⟨rfl, hb1⟩
 have d0 := (hb1.cell (cell_lt c0)).trans c0
 have d1 := (hb1.cell (cell_lt c1)).trans c1
 have d2 := (hb1.cell (cell_lt c2)).trans c2
 have d3 := (hb1.cell (cell_lt c3)).trans c3
 have d4 := (hb1.cell (cell_lt c4)).trans c4
 have d5 := (hb1.cell (cell_lt c5)).trans c5
 have d6 := (hb1.cell (cell_lt c6)).trans c6
 have d7 := (hb1.cell (cell_lt c7)).trans c7
 have HB1 := Lib.hid hb1
 clear hb1 c0 c1 c2 c3 c4 c5 c6 c7
 cases p with
 | false =>
  go_wp2
  go_ret
  exact ⟨by simp, HB1.out⟩
 | true =>
  go_wp2_with (fail)
  refine (CA.out _ HB1.out).mono ?_; rintro e w2 ⟨rfl, hb2⟩
  have HB2 : Hid (Below w.heap.size w w2) := Lib.hid (HB1.out.trans (hb2.mono HB1.out.size))
  clear hb2
  go_wp2
  go_ret
  exact ⟨by simp, HB2.out⟩
set_option maxHeartbeats 4000000 in
theorem open_any (x : Wd) (nm : ByteArray) (w : World) (hx : WdOk w x) :
    Calls Tryz.prog 19 #[WdV x, .string nm] w fun e w' => ∃ A c, e = .returned (.slice A ((allE (heldN x) x.nn x.nn).filter (openP x nm)).length c) ∧ OwnE Bg.encL 2 62 w' w.heap.size (.slice A ((allE (heldN x) x.nn x.nn).filter (openP x nm)).length c) ((allE (heldN x) x.nn x.nn).filter (openP x nm)) ∧ Below w.heap.size w w' := by
 have hmf : ∀ (fn : Fn) (first cap : Array Value) (w : World), (Instr.makeFunc fn first cap).run Tryz.prog w = .ok (.func fn first cap) w := fun _ _ _ _ => rfl
 obtain ⟨W0, hW0⟩ : ∃ W0, W0 = (w.alloc (Obj.cells #[.slice x.na x.nn x.nc, .slice x.ua x.un x.uc, .slice x.da x.dn x.dc, .int .i64 x.nx, .slice x.la x.ll x.lc, .slice x.sa x.sl x.sc, .int .i64 x.lost] 30)).alloc (Obj.cells #[.string nm] 9) := ⟨_, rfl⟩
 have hb0 : Below w.heap.size w W0 := by rw [hW0]; exact Qb
 have hbx : KeptC W0 [(⟨w.heap.size, 0, none⟩, .slice x.na x.nn x.nc), (⟨w.heap.size, 1, none⟩, .slice x.ua x.un x.uc), (⟨w.heap.size, 2, none⟩, .slice x.da x.dn x.dc), (⟨w.heap.size, 3, none⟩, .int .i64 x.nx), (⟨w.heap.size, 4, none⟩, .slice x.la x.ll x.lc), (⟨w.heap.size, 5, none⟩, .slice x.sa x.sl x.sc), (⟨w.heap.size, 6, none⟩, .int .i64 x.lost), (⟨w.heap.size + 1, 0, none⟩, .string nm)] [] W0 := by rw [hW0]; exact Qk
 have C := Lib.hid (links_open x w.heap.size (w.heap.size + 1) (fun i j => openP x nm (i, j)) W0 (hx.below hb0) (fun i j W hb => open1_any x nm i j _ _ W ((hx.below hb0).below hb) (by
  have h := hbx.2.1
  exact ⟨Below.refl _ _, fun y hy => (hb.cell (cell_lt (h y hy))).trans (h y hy), fun a ha => by cases ha⟩)))
 have HW0 := Lib.hid hW0; have HB0 := Lib.hid hb0
 clear hx hbx hW0 hb0
 go_enter Tryz.func19, Tryz.ntmps19
 go_wp2_with (fail)
 have C2 := C.out
 rw [HW0.out] at C2
 refine C2.mono ?_; rintro e w1 ⟨A, c, OL, rfl, ho, hr, hm, hb1⟩
 obtain rfl : OL = (allE (heldN x) x.nn x.nn).filter (openP x nm) := sel_all (g := openP x nm) (fun _ => rfl) hr hm
 have HO := Lib.hid ho
 rw [← HW0.out] at hb1
 have HB : Hid (Below w.heap.size w w1) := Lib.hid (HB0.out.trans (hb1.mono HB0.out.size))
 clear ho hr hm hb1
 go_wp2
 go_ret
 exact ⟨A, c, rfl, OwnE.less HO.out (by simp <;> omega), HB.out⟩
end Go.Proofs.YtkfodkbgmpbmfaaGreat
namespace Go.Proofs.YtkfodkbgmpbmfaaGreat
open Go.RowKit Go.Shelf
set_option linter.unusedVariables false
set_option linter.unusedSimpArgs false
set_option maxRecDepth 100000
theorem noints_any (A : Option Addr) (n c c2 : Nat) (w : World) : Calls Tryz.prog 71 #[.slice A n c, .slice none 0 c2] w fun e w' => e = .returned (.bool (decide (n = 0))) ∧ w = w' := by
 cases n with
 | zero =>
  go_enter Tryz.func71, Tryz.ntmps71
  go_wp2
  refine wp_loop_rounds 1 ?_
  rw [rounds_succ]
  go_wp2
  go_ret
  exact ⟨rfl, rfl⟩
 | succ n =>
  have hq : ((((n + 1 : Nat) : Int) != 0)) = true := by simp; omega
  have hq2 : ((n : Int) + 1 != 0) = true := by simp; omega
  go_enter Tryz.func71, Tryz.ntmps71
  go_wp2
  go_ret
  exact ⟨by simp, rfl⟩
theorem noseen_any (A : Option Addr) (n c c2 : Nat) (w : World) : Calls Tryz.prog 72 #[.slice A n c, .slice none 0 c2] w fun e w' => e = .returned (.bool (decide (n = 0))) ∧ w = w' := by
 cases n with
 | zero =>
  go_enter Tryz.func72, Tryz.ntmps72
  go_wp2
  refine wp_loop_rounds 1 ?_
  rw [rounds_succ]
  go_wp2
  go_ret
  exact ⟨rfl, rfl⟩
 | succ n =>
  have hq : ((((n + 1 : Nat) : Int) != 0)) = true := by simp; omega
  have hq2 : ((n : Int) + 1 != 0) = true := by simp; omega
  go_enter Tryz.func72, Tryz.ntmps72
  go_wp2
  go_ret
  exact ⟨by simp, rfl⟩
theorem nohalf_any (A : Option Addr) (n c c2 : Nat) (w : World) : Calls Tryz.prog 73 #[.slice A n c, .slice none 0 c2] w fun e w' => e = .returned (.bool (decide (n = 0))) ∧ w = w' := by
 cases n with
 | zero =>
  go_enter Tryz.func73, Tryz.ntmps73
  go_wp2
  refine wp_loop_rounds 1 ?_
  rw [rounds_succ]
  go_wp2
  go_ret
  exact ⟨rfl, rfl⟩
 | succ n =>
  have hq : ((((n + 1 : Nat) : Int) != 0)) = true := by simp; omega
  have hq2 : ((n : Int) + 1 != 0) = true := by simp; omega
  go_enter Tryz.func73, Tryz.ntmps73
  go_wp2
  go_ret
  exact ⟨by simp, rfl⟩
/-! ### Neighbours -/
def placeI (rs : List Int) (v : Int) : Int := if rs.findIdx (fun y => y == v) < rs.length then (rs.findIdx (fun y => y == v) : Int) else -1
theorem placeI_at {rs : List Int} {v : Int} {k : Nat} (h : rs[k]? = some v) (hb : ∀ (t : Nat) y, t < k → rs[t]? = some y → y ≠ v) : placeI rs v = k := by
 have hk : k < rs.length := (List.getElem?_eq_some_iff.1 h).1
 have e : rs.findIdx (fun y => y == v) = k := by
  refine (List.findIdx_eq hk).2 ⟨?_, fun j hj => ?_⟩
  · have := (List.getElem?_eq_some_iff.1 h).2
    simp [this]
  · have := hb j rs[j] hj (List.getElem?_eq_getElem (by omega))
    simpa using this
 unfold placeI
 rw [e, if_pos hk]
theorem placeI_none {rs : List Int} {v : Int} (hb : ∀ (t : Nat) y, t < rs.length → rs[t]? = some y → y ≠ v) : placeI rs v = -1 := by
 have e : rs.findIdx (fun y => y == v) = rs.length := by
  refine List.findIdx_eq_length.2 fun y hy => ?_
  obtain ⟨t, ht⟩ := List.mem_iff_getElem?.1 hy
  have := hb t y (List.getElem?_eq_some_iff.1 ht).1 ht
  simpa using this
 unfold placeI
 rw [e, if_neg (by omega)]
set_option maxHeartbeats 2000000 in
theorem tplace_any (A : Option Addr) (n cp : Nat) (rs : List Int) (v : Int) (w : World) (hr : RowsE encI 1 w w.heap.size A n rs) (hm : n ≤ 70368744177664) :
    Calls Tryz.prog 108 #[.slice A n cp, .int .i64 v] w fun e w' => e = .returned (.int .i64 (placeI rs v)) ∧ w = w' := by
 have HR := Lib.hid hr
 clear hr
 go_enter Tryz.func108, Tryz.ntmps108
 go_wp2
 go_loopw [5] (fun i w' => ∃ (k : Nat), k ≤ n ∧ i = .int .i64 k ∧ Hid (∀ (t : Nat) y, t < k → rs[t]? = some y → y ≠ v) ∧ w' = w) (fun i _ => n - (intOf i).toNat)
 case atStart => exact ⟨0, Nat.zero_le _, rfl, Lib.hid before_zero, rfl⟩
 case round =>
  obtain ⟨k, hk, rfl, HA, rfl⟩ := hrel
  by_cases hlt : k < n
  rotate_left
  · obtain rfl : k = n := by omega
    have HP : Hid (placeI rs v = -1) := Lib.hid (placeI_none (by have := HR.out.1; rw [this]; exact HA.out))
    go_wp2
    go_ret
    exact ⟨by rw [HP.out]; rfl, rfl⟩
  · obtain ⟨ad, x, rfl, hab, hx, h4⟩ := HR.out.at hlt
    rw [Nat.mul_one] at h4 hab
    have c0 : wr.cell? (ad.add k) = some (.int .i64 x) := by have := h4 0 _ rfl; rwa [Bg.add_z] at this
    have HX := Lib.hid hx
    clear h4 hx
    by_cases hxv : x = v
    · have HP : Hid (placeI rs v = k) := Lib.hid (placeI_at (by rw [HX.out, hxv]) HA.out)
      have hq : (x == v) = true := by simpa using hxv
      clear hxv
      go_wp2
      go_ret
      exact ⟨by rw [HP.out]; rfl, rfl⟩
    · have HQ := Lib.hid hxv
      have hq : (x == v) = false := by simpa using hxv
      clear hxv
      go_wp2
      go_roundw
      case rel => exact ⟨k + 1, by omega, by go_num, Lib.hid (before_next HA.out HX.out HQ.out), by first | rfl | trivial⟩
      case measure => simp [intOf]; omega
theorem thas_any (A : Option Addr) (n cp : Nat) (rs : List Int) (v : Int) (w : World) (hr : RowsE encI 1 w w.heap.size A n rs) (hm : n ≤ 70368744177664) :
    Calls Tryz.prog 80 #[.slice A n cp, .int .i64 v] w fun e w' => e = .returned (.bool (decide (0 ≤ placeI rs v))) ∧ w = w' := by
 have C := Lib.hid (tplace_any A n cp rs v w hr hm)
 clear hr
 generalize placeI rs v = q at C ⊢
 go_enter Tryz.func80, Tryz.ntmps80
 go_wp2_with (fail)
 refine C.out.mono ?_; rintro e w1 ⟨rfl, rfl⟩
 go_wp2
 go_ret
 exact ⟨rfl, rfl⟩
set_option maxHeartbeats 4000000 in
theorem tfit_any (id : Int) (A : Option Addr) (n cp : Nat) (rs : List Int) (tu : Int) (w : World) (hr : RowsE encI 1 w w.heap.size A n rs) (hm : n ≤ 70368744177664) :
    Calls Tryz.prog 75 #[.int .i64 id, .slice A n cp, .int .i64 tu] w (FitPost True w) := by
 have HR := Lib.hid hr
 clear hr
 obtain ⟨B0, hB0⟩ : ∃ B, nodeI id = B := ⟨_, rfl⟩
 have cc := node13_any id
 rw [hB0] at cc
 clear hB0
 go_enter Tryz.func75, Tryz.ntmps75
 cases B0 with
 | false =>
  go_wp2_with (fail)
  refine (cc _).mono ?_; rintro e w1 ⟨rfl, rfl⟩
  go_wp2
  go_ret
  exact FitPost.no (Below.refl _ _)
 | true =>
  go_wp2_with (fail)
  refine (cc _).mono ?_; rintro e w1 ⟨rfl, rfl⟩
  clear cc
  by_cases h6 : (6 : Int) < n
  · go_wp2
    go_ret
    exact FitPost.no (Below.refl _ _)
  by_cases h0 : tu < 0
  · go_wp2
    go_ret
    exact FitPost.no (Below.refl _ _)
  by_cases h1 : max (n : Int) 1 ≤ tu
  · go_wp2
    go_ret
    exact FitPost.no (Below.refl _ _)
  have h6' : n ≤ 6 := by omega
  go_wp2
  clear h0 h1 h6
  go_loopw [7] (fun i w' => ∃ (k : Nat), k ≤ n ∧ i = .int .i64 k ∧ w' = w) (fun i _ => n - (intOf i).toNat)
  case atStart => exact ⟨0, Nat.zero_le _, rfl, rfl⟩
  case round =>
   obtain ⟨k, hk, rfl, rfl⟩ := hrel
   by_cases hlt : k < n
   rotate_left
   · obtain rfl : k = n := by omega
     go_wp2
     go_ret
     exact FitPost.yes trivial (Below.refl _ _)
   · obtain ⟨ad, x, rfl, hab, hx, h4⟩ := HR.out.at hlt
     rw [Nat.mul_one] at h4 hab
     have c0 : wr.cell? (ad.add k) = some (.int .i64 x) := by have := h4 0 _ rfl; rwa [Bg.add_z] at this
     have CP := Lib.hid (tplace_any (some ad) n cp rs x wr HR.out hm)
     clear h4 hx
     obtain ⟨B2, hB2⟩ : ∃ B, nodeI x = B := ⟨_, rfl⟩
     have cc := node13_any x
     rw [hB2] at cc
     clear hB2
     cases B2 with
     | false =>
      go_wp2_with (fail)
      refine (cc _).mono ?_; rintro e w2 ⟨rfl, rfl⟩
      go_wp2
      go_ret
      exact FitPost.no (Below.refl _ _)
     | true =>
      go_wp2_with (fail)
      refine (cc _).mono ?_; rintro e w2 ⟨rfl, rfl⟩
      clear cc
      by_cases hxi : x = id
      · have hq : (x == id) = true := by simpa using hxi
        clear hxi
        go_wp2
        go_ret
        exact FitPost.no (Below.refl _ _)
      · have hq : (x == id) = false := by simpa using hxi
        clear hxi
        generalize placeI rs x = q at CP
        go_wp2_with (fail)
        refine CP.out.mono ?_; rintro e w3 ⟨rfl, rfl⟩
        by_cases hqk : q = k
        · have hq : (q != (k : Int)) = false := by simpa using hqk
          clear hqk
          go_wp2
          go_roundw
          case rel => exact ⟨k + 1, by omega, by go_num, by first | rfl | trivial⟩
          case measure => simp [intOf]; omega
        · have hq : (q != (k : Int)) = true := by simpa using hqk
          clear hqk
          go_wp2
          go_ret
          exact FitPost.no (Below.refl _ _)
end Go.Proofs.YtkfodkbgmpbmfaaGreat
