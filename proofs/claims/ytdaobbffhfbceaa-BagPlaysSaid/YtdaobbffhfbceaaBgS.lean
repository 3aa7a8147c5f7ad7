/- lose, Sever, Forget of a bag: what each call computes. -/
import Derived.Test.YtdaobbffhfbceaaBgX
namespace Go.Proofs.Ytdaobbffhfbceaa
open Go.RowKit Go.Shelf
set_option linter.unusedVariables false
set_option linter.unusedSimpArgs false
set_option maxRecDepth 100000
theorem BagAt.relist {w w1 : World} {Bb bm : Nat} {lv lv' : Value} {s : BS} {ls' : List Dg} {F : List Nat} (h : BagAt w Bb bm lv s) (t : Turn F w w1) (hB : Bb ∉ F) (hm : bm ∉ F) (hrow : RowD w1 lv' ls') (hne : lv'.ownBlock ≠ some Bb) (hok : OkS ⟨s.nx, ls', s.sv⟩) :
    BagAt (w1.setCell ⟨Bb, 2, none⟩ lv') Bb bm lv' ⟨s.nx, ls', s.sv⟩ := by
  have hbl : Bb < w.heap.size := cell_lt h.c0
  have hml := h.map.lt
  have hbb := t.block Bb hbl hB
  have e0 : w1.cell? ⟨Bb, 0, none⟩ = _ := (World.cell?_of_block (a := ⟨Bb, 0, none⟩) hbb).trans h.c0
  have e1 : w1.cell? ⟨Bb, 1, none⟩ = _ := (World.cell?_of_block (a := ⟨Bb, 1, none⟩) hbb).trans h.c1
  have e2 : w1.cell? ⟨Bb, 2, none⟩ = _ := (World.cell?_of_block (a := ⟨Bb, 2, none⟩) hbb).trans h.c2
  have e3 : w1.cell? ⟨Bb, 3, none⟩ = _ := (World.cell?_of_block (a := ⟨Bb, 3, none⟩) hbb).trans h.c3
  have hmb : bm ≠ Bb := fun e => h.ne_map.1 e.symm
  refine ⟨?_, ?_, World.cell?_setCell_same _ _ _ e2, ?_, ?_, ?_, row_same hrow (fun b hb => Below.heap_setCell _ _ _ _ (fun e => hne (by rw [hb, e]))), (h.map.same (t.block bm hml hm)).same (Below.heap_setCell _ _ _ _ hmb), hne, hok⟩
  · rw [World.cell?_setCell_other _ _ _ _ (by simp)]; exact e0
  · rw [World.cell?_setCell_other _ _ _ _ (by simp)]; exact e1
  · rw [World.cell?_setCell_other _ _ _ _ (by simp)]; exact e3
  · rw [World.frozen?_setCell]; exact (frozen_of_block (p := ⟨Bb, 1, none⟩) hbb).trans h.f1
  · rw [World.frozen?_setCell]; exact (frozen_of_block (p := ⟨Bb, 2, none⟩) hbb).trans h.f2
theorem BagAt.renum {w : World} {Bb bm : Nat} {lv : Value} {s : BS} {nx' : Int} (h : BagAt w Bb bm lv s) (hok : OkS ⟨nx', s.ls, s.sv⟩) : BagAt (w.setCell ⟨Bb, 1, none⟩ (.int .i64 nx')) Bb bm lv ⟨nx', s.ls, s.sv⟩ := by
  have hmb : bm ≠ Bb := fun e => h.ne_map.1 e.symm
  refine ⟨?_, World.cell?_setCell_same _ _ _ h.c1, ?_, ?_, ?_, ?_, row_same h.row (fun b hb => Below.heap_setCell _ _ _ _ (fun e => h.ne (by rw [hb, e]))), h.map.same (Below.heap_setCell _ _ _ _ hmb), h.ne, hok⟩
  · rw [World.cell?_setCell_other _ _ _ _ (by simp)]; exact h.c0
  · rw [World.cell?_setCell_other _ _ _ _ (by simp)]; exact h.c2
  · rw [World.cell?_setCell_other _ _ _ _ (by simp)]; exact h.c3
  · rw [World.frozen?_setCell]; exact h.f1
  · rw [World.frozen?_setCell]; exact h.f2
theorem BagAt.remap {w w1 : World} {Bb bm : Nat} {lv : Value} {s : BS} {sv' : List LK} (h : BagAt w Bb bm lv s) (hg : w.grownBy w1 (some bm)) (hm : MapAt w1 bm sv') (hok : OkS ⟨s.nx, s.ls, sv'⟩) : BagAt w1 Bb bm lv ⟨s.nx, s.ls, sv'⟩ := by
  have hb : ∀ b, b < w.heap.size → b ≠ bm → w1.heap[b]? = w.heap[b]? := fun b h1 h2 => hg.block b h1 (fun e => h2 (Option.some.inj e))
  have h1 := hb Bb (cell_lt h.c0) h.ne_map.1
  exact ⟨(World.cell?_of_block (a := ⟨Bb, 0, none⟩) h1).trans h.c0, (World.cell?_of_block (a := ⟨Bb, 1, none⟩) h1).trans h.c1, (World.cell?_of_block (a := ⟨Bb, 2, none⟩) h1).trans h.c2, (World.cell?_of_block (a := ⟨Bb, 3, none⟩) h1).trans h.c3,
    (frozen_of_block (p := ⟨Bb, 1, none⟩) h1).trans h.f1, (frozen_of_block (p := ⟨Bb, 2, none⟩) h1).trans h.f2, row_same h.row (fun b e => hb b (row_obj h.row e).1 (fun e2 => h.ne_map.2 (by rw [e, e2]))), hm, h.ne, hok⟩
theorem okS_filt {s : BS} {p : Dg → Bool} (h : OkS s) : OkS ⟨s.nx, filtP p s.ls, s.sv⟩ :=
  ⟨h.nx0, h.nx1, Nat.le_trans (List.length_filter_le ..) h.len, h.sv, h.i64, fun d hd => h.nm d (List.mem_filter.1 hd).1⟩
theorem filtP_len (p : Dg → Bool) (L : List Dg) : (filtP p L).length ≤ L.length := List.length_filter_le ..
set_option maxHeartbeats 4000000 in
theorem delete0_f (A : Option Addr) (cp : Nat) (Bt : Nat) (tv : Int) (w : World) (hBt : w.cell? ⟨Bt, 0, none⟩ = some (.int .i64 tv)) :
    Calls Try.prog 43 #[.slice A 0 cp, .func (.func 30) #[] #[.pointer (some ⟨Bt, 0, none⟩)]] w fun e w' => e = .returned (.slice A 0 cp) ∧ Below w.heap.size w w' := by
  have ci := index_f A 0 cp [] Bt tv w hBt (rowsE_nil _ _ _) (by omega)
  have CI := Lib.hid ci
  clear ci
  go_enter Try.func43, Try.ntmps43
  go_wp2_with (fail)
  refine CI.out.mono ?_; rintro e w1 ⟨r, rfl, hd, hb1⟩
  obtain rfl : r = -1 := by
    rcases hd with ⟨h, _⟩ | ⟨k, _, _, h, _⟩
    · exact h
    · omega
  go_wp2
  go_ret
  exact ⟨rfl, (by repeat (first | with_reducible refine Below.setCell ?_ (by first | (simp; done) | (simp; omega) | omega) _ | with_reducible refine Below.alloc ?_ (by first | (simp; done) | (simp; omega) | omega) _ | with_reducible refine Below.drew ?_ | with_reducible refine below_drewN ?_ _ | with_reducible exact Below.refl _ _ | with_reducible refine Below.trans ?_ (Below.mono hb1 (by first | (simp; done) | (simp; omega) | omega))))⟩
theorem delete_f (lv : Value) (ls : List Dg) (Bt : Nat) (tv : Int) (w : World) (hBt : w.cell? ⟨Bt, 0, none⟩ = some (.int .i64 tv)) (hrow : RowD w lv ls) (hn : ls.length ≤ 65536) (hdBt : lv.ownBlock ≠ some Bt) :
    Calls Try.prog 43 #[lv, .func (.func 30) #[] #[.pointer (some ⟨Bt, 0, none⟩)]] w fun e w' => ∃ lv', e = .returned lv' ∧ RowD w' lv' (filtP (dstP tv) ls) ∧ lv'.ownBlock = lv.ownBlock ∧ Turn lv.ownBlock.toList w w' := by
  rcases Nat.eq_zero_or_pos ls.length with h0 | h0
  · obtain rfl : ls = [] := List.eq_nil_of_length_eq_zero h0
    obtain ⟨A, c, rfl⟩ := row_len hrow
    refine (delete0_f A c Bt tv w hBt).mono ?_
    rintro e w' ⟨rfl, hb⟩
    exact ⟨_, rfl, row_same hrow (fun b hb' => hb.block b (row_obj hrow hb').1), rfl, Turn.below hb (Nat.le_refl _)⟩
  · obtain ⟨g, cap, f0, rfl, hnc, hc, hat⟩ := own_is hrow h0
    refine (deleteF_f g cap ls.length ls f0 Bt tv w hBt rfl hat hnc hc hn (fun e => hdBt (by rw [e]; rfl))).mono ?_
    rintro e w' ⟨rfl, ⟨R, hR, hq⟩, ht⟩
    exact ⟨_, rfl, is_own hR (filtP_len _ _) hnc hc hq, rfl, ht⟩
set_option maxHeartbeats 4000000 in
theorem lose_f (Bb bm : Nat) (lv : Value) (s : BS) (Bt : Nat) (tv : Int) (w : World) (h : BagAt w Bb bm lv s) (hBt : w.cell? ⟨Bt, 0, none⟩ = some (.int .i64 tv)) (hdBt : lv.ownBlock ≠ some Bt) :
    Calls Try.prog 27 #[.pointer (some ⟨Bb, 0, none⟩), .func (.func 30) #[] #[.pointer (some ⟨Bt, 0, none⟩)]] w fun e w' => e = .returned (.int .i64 ((s.ls.length : Int) - (filtP (dstP tv) s.ls).length)) ∧ ∃ lv', BagAt w' Bb bm lv' ⟨s.nx, filtP (dstP tv) s.ls, s.sv⟩ ∧ Moved w lv lv' ∧ Turn (foot Bb bm lv) w w' := by
  have hlen := h.ok.len
  have hfl := filtP_len (dstP tv) s.ls
  obtain ⟨A, c, hlv⟩ := row_len h.row
  have cd := delete_f lv s.ls Bt tv w hBt h.row hlen hdBt
  have c2 := h.c2
  have hbl := cell_lt c2
  simp only [] at hbl
  have HB := Lib.hid h
  subst hlv
  have CD := Lib.hid cd
  clear h cd
  go_enter Try.func27, Try.ntmps27
  go_wp2_with (fail)
  refine CD.out.mono ?_; rintro e w1 ⟨lv', rfl, hrow, hown, ht⟩
  have hne : lv'.ownBlock ≠ some Bb := by rw [hown]; exact HB.out.ne
  have hB1 : Bb ∉ (Value.slice A s.ls.length c).ownBlock.toList := fun hm => HB.out.ne (Option.mem_toList.1 hm)
  have hm1 : bm ∉ (Value.slice A s.ls.length c).ownBlock.toList := fun hm => HB.out.ne_map.2 (Option.mem_toList.1 hm)
  have hfin := HB.out.relist ht hB1 hm1 hrow hne (okS_filt HB.out.ok)
  have hbb := ht.block Bb hbl hB1
  have d2 := (World.cell?_of_block (a := ⟨Bb, 2, none⟩) hbb).trans c2
  have k2 := (frozen_of_block (p := ⟨Bb, 2, none⟩) hbb).trans HB.out.f2
  obtain ⟨A2, c2', rfl⟩ := row_len hrow
  have hT : Turn (foot Bb bm (.slice A s.ls.length c)) w (w1.setCell ⟨Bb, 2, none⟩ (.slice A2 (filtP (dstP tv) s.ls).length c2')) := (ht.mono (fun b hb => .inl (by simp only [foot, List.mem_cons]; exact .inr (.inr hb)))).setCell (.inl (by simp [foot])) _
  have HF := Lib.hid hfin
  have HT := Lib.hid hT
  have HO := Lib.hid hown
  have hws := ht.size
  have hbl1 : Bb < w1.heap.size := by omega
  clear hfin hT hrow hne hown ht hB1 hm1 hbb CD c2
  go_wp2
  go_ret
  exact ⟨rfl, _, HF.out, .inl HO.out, HT.out⟩
set_option maxHeartbeats 4000000 in
theorem delete0_s (A : Option Addr) (cp : Nat) (Ba Bc : Nat) (a b : Int) (w : World) (hBa : w.cell? ⟨Ba, 0, none⟩ = some (.int .i64 a)) (hBc : w.cell? ⟨Bc, 0, none⟩ = some (.int .i64 b)) :
    Calls Try.prog 43 #[.slice A 0 cp, .func (.func 28) #[] #[.pointer (some ⟨Ba, 0, none⟩), .pointer (some ⟨Bc, 0, none⟩)]] w fun e w' => e = .returned (.slice A 0 cp) ∧ Below w.heap.size w w' := by
  have ci := index_s A 0 cp [] Ba Bc a b w hBa hBc (rowsE_nil _ _ _) (by omega)
  have CI := Lib.hid ci
  clear ci
  go_enter Try.func43, Try.ntmps43
  go_wp2_with (fail)
  refine CI.out.mono ?_; rintro e w1 ⟨r, rfl, hd, hb1⟩
  obtain rfl : r = -1 := by
    rcases hd with ⟨h, _⟩ | ⟨k, _, _, h, _⟩
    · exact h
    · omega
  go_wp2
  go_ret
  exact ⟨rfl, (by repeat (first | with_reducible refine Below.setCell ?_ (by first | (simp; done) | (simp; omega) | omega) _ | with_reducible refine Below.alloc ?_ (by first | (simp; done) | (simp; omega) | omega) _ | with_reducible refine Below.drew ?_ | with_reducible refine below_drewN ?_ _ | with_reducible exact Below.refl _ _ | with_reducible refine Below.trans ?_ (Below.mono hb1 (by first | (simp; done) | (simp; omega) | omega))))⟩
theorem delete_s (lv : Value) (ls : List Dg) (Ba Bc : Nat) (a b : Int) (w : World) (hBa : w.cell? ⟨Ba, 0, none⟩ = some (.int .i64 a)) (hBc : w.cell? ⟨Bc, 0, none⟩ = some (.int .i64 b)) (hrow : RowD w lv ls) (hn : ls.length ≤ 65536) (hdBa : lv.ownBlock ≠ some Ba) (hdBc : lv.ownBlock ≠ some Bc) :
    Calls Try.prog 43 #[lv, .func (.func 28) #[] #[.pointer (some ⟨Ba, 0, none⟩), .pointer (some ⟨Bc, 0, none⟩)]] w fun e w' => ∃ lv', e = .returned lv' ∧ RowD w' lv' (filtP (sevP a b) ls) ∧ lv'.ownBlock = lv.ownBlock ∧ Turn lv.ownBlock.toList w w' := by
  rcases Nat.eq_zero_or_pos ls.length with h0 | h0
  · obtain rfl : ls = [] := List.eq_nil_of_length_eq_zero h0
    obtain ⟨A, c, rfl⟩ := row_len hrow
    refine (delete0_s A c Ba Bc a b w hBa hBc).mono ?_
    rintro e w' ⟨rfl, hb⟩
    exact ⟨_, rfl, row_same hrow (fun b hb' => hb.block b (row_obj hrow hb').1), rfl, Turn.below hb (Nat.le_refl _)⟩
  · obtain ⟨g, cap, f0, rfl, hnc, hc, hat⟩ := own_is hrow h0
    refine (deleteF_s g cap ls.length ls f0 Ba Bc a b w hBa hBc rfl hat hnc hc hn (fun e => hdBa (by rw [e]; rfl)) (fun e => hdBc (by rw [e]; rfl))).mono ?_
    rintro e w' ⟨rfl, ⟨R, hR, hq⟩, ht⟩
    exact ⟨_, rfl, is_own hR (filtP_len _ _) hnc hc hq, rfl, ht⟩
set_option maxHeartbeats 4000000 in
theorem lose_s (Bb bm : Nat) (lv : Value) (s : BS) (Ba Bc : Nat) (a b : Int) (w : World) (h : BagAt w Bb bm lv s) (hBa : w.cell? ⟨Ba, 0, none⟩ = some (.int .i64 a)) (hBc : w.cell? ⟨Bc, 0, none⟩ = some (.int .i64 b)) (hdBa : lv.ownBlock ≠ some Ba) (hdBc : lv.ownBlock ≠ some Bc) :
    Calls Try.prog 27 #[.pointer (some ⟨Bb, 0, none⟩), .func (.func 28) #[] #[.pointer (some ⟨Ba, 0, none⟩), .pointer (some ⟨Bc, 0, none⟩)]] w fun e w' => e = .returned (.int .i64 ((s.ls.length : Int) - (filtP (sevP a b) s.ls).length)) ∧ ∃ lv', BagAt w' Bb bm lv' ⟨s.nx, filtP (sevP a b) s.ls, s.sv⟩ ∧ Moved w lv lv' ∧ Turn (foot Bb bm lv) w w' := by
  have hlen := h.ok.len
  have hfl := filtP_len (sevP a b) s.ls
  obtain ⟨A, c, hlv⟩ := row_len h.row
  have cd := delete_s lv s.ls Ba Bc a b w hBa hBc h.row hlen hdBa hdBc
  have c2 := h.c2
  have hbl := cell_lt c2
  simp only [] at hbl
  have HB := Lib.hid h
  subst hlv
  have CD := Lib.hid cd
  clear h cd
  go_enter Try.func27, Try.ntmps27
  go_wp2_with (fail)
  refine CD.out.mono ?_; rintro e w1 ⟨lv', rfl, hrow, hown, ht⟩
  have hne : lv'.ownBlock ≠ some Bb := by rw [hown]; exact HB.out.ne
  have hB1 : Bb ∉ (Value.slice A s.ls.length c).ownBlock.toList := fun hm => HB.out.ne (Option.mem_toList.1 hm)
  have hm1 : bm ∉ (Value.slice A s.ls.length c).ownBlock.toList := fun hm => HB.out.ne_map.2 (Option.mem_toList.1 hm)
  have hfin := HB.out.relist ht hB1 hm1 hrow hne (okS_filt HB.out.ok)
  have hbb := ht.block Bb hbl hB1
  have d2 := (World.cell?_of_block (a := ⟨Bb, 2, none⟩) hbb).trans c2
  have k2 := (frozen_of_block (p := ⟨Bb, 2, none⟩) hbb).trans HB.out.f2
  obtain ⟨A2, c2', rfl⟩ := row_len hrow
  have hT : Turn (foot Bb bm (.slice A s.ls.length c)) w (w1.setCell ⟨Bb, 2, none⟩ (.slice A2 (filtP (sevP a b) s.ls).length c2')) := (ht.mono (fun b hb => .inl (by simp only [foot, List.mem_cons]; exact .inr (.inr hb)))).setCell (.inl (by simp [foot])) _
  have HF := Lib.hid hfin
  have HT := Lib.hid hT
  have HO := Lib.hid hown
  have hws := ht.size
  have hbl1 : Bb < w1.heap.size := by omega
  clear hfin hT hrow hne hown ht hB1 hm1 hbb CD c2
  go_wp2
  go_ret
  exact ⟨rfl, _, HF.out, .inl HO.out, HT.out⟩
set_option maxHeartbeats 4000000 in
theorem forget_any (Bb bm : Nat) (lv : Value) (s : BS) (t : Int) (w : World) (h : BagAt w Bb bm lv s) :
    Calls Try.prog 15 #[.pointer (some ⟨Bb, 0, none⟩), .int .i64 t] w fun e w' => e = .returned (.int .i64 (forS s t).2) ∧ ∃ lv', BagAt w' Bb bm lv' (forS s t).1 ∧ Moved w lv lv' ∧ Turn (foot Bb bm lv) w w' := by
  have c0 := h.c0
  have hbl := cell_lt c0
  simp only [] at hbl
  have hfl := h.lt
  have cl := fun (W : World) (hb : Below w.heap.size w W) (hc : W.cell? ⟨w.heap.size, 0, none⟩ = some (.int .i64 t)) => lose_f Bb bm lv s w.heap.size t W (h.below hb) hc (fun e => by have := hfl w.heap.size (by simp [foot, e]); omega)
  have CL := Lib.hid cl
  clear h hfl cl
  go_enter Try.func15, Try.ntmps15
  go_wp2_with (fail)
  refine (there_any Bb _ (by go_simp)).mono ?_; rintro e w1 ⟨rfl, rfl⟩
  go_wp2_with (fail)
  refine (CL.out _ (by repeat (first | with_reducible refine Below.setCell ?_ (by first | (simp; done) | (simp; omega) | omega) _ | with_reducible refine Below.alloc ?_ (by first | (simp; done) | (simp; omega) | omega) _ | with_reducible refine Below.drew ?_ | with_reducible refine below_drewN ?_ _ | with_reducible exact Below.refl _ _)) (by go_simp)).mono ?_; rintro e w2 ⟨rfl, lv', hb, hm, ht⟩
  have HB := Lib.hid hb
  have HM := Lib.hid hm
  have HT := Lib.hid ht
  clear hb hm ht CL
  go_wp2
  go_ret
  have ht := HT.out
  have h0 : Turn [] w (w.alloc (Obj.cells #[.int .i64 t] 3)) := Turn.below (B := w.heap.size) (by repeat (first | with_reducible refine Below.setCell ?_ (by first | (simp; done) | (simp; omega) | omega) _ | with_reducible refine Below.alloc ?_ (by first | (simp; done) | (simp; omega) | omega) _ | with_reducible refine Below.drew ?_ | with_reducible refine below_drewN ?_ _ | with_reducible exact Below.refl _ _)) (Nat.le_refl _)
  have hm := HM.out
  exact ⟨rfl, lv', HB.out, hm.imp id (fun ⟨r, h1, h2⟩ => ⟨r, h1, by simp at h2; omega⟩), (h0.mono (fun b hb => by cases hb)).trans ht (fun b hb => .inl hb)⟩
end Go.Proofs.Ytdaobbffhfbceaa
