/- Chapter 22, parts on the way: Yu -/
import Derived.Test.YtkfodkbgmpbmfaaGreatB01
import Derived.Test.YtkfodkbgmpbmfaaGreatB38
set_option linter.unusedVariables false
set_option linter.unusedSimpArgs false
namespace Go.Proofs.YtkfodkbgmpbmfaaGreat
open Go.RowKit Go.Shelf
set_option linter.unusedVariables false
set_option linter.unusedSimpArgs false
set_option maxRecDepth 100000
def encBs (l : List Bool) : List Value := l.map Value.bool
def sees (gs : List (List Nat)) (l : List Nat) (n : Nat) : List Bool := (List.range n).map fun j => inG gs j || l.contains j
theorem sees_at {gs : List (List Nat)} {l : List Nat} {n j : Nat} (h : j < n) : (sees gs l n)[j]? = some (inG gs j || l.contains j) := by
 unfold sees
 rw [List.getElem?_map, List.getElem?_range h]
 rfl
theorem sees_enc {gs : List (List Nat)} {l : List Nat} {n j : Nat} (h : j < n) : (encBs (sees gs l n))[j]? = some (.bool (inG gs j || l.contains j)) := by
 unfold encBs
 rw [List.getElem?_map, sees_at h]
 rfl
theorem sees_set (gs : List (List Nat)) (l : List Nat) (n k : Nat) : encBs (sees gs (l ++ [k]) n) = (encBs (sees gs l n)).set k (.bool true) := by
 unfold encBs
 rw [show (Value.bool true) = Value.bool ((fun _ => true) ()) from rfl]
 apply List.ext_getElem?
 intro j
 rw [List.getElem?_set]
 by_cases hj : j < n
 · rw [List.getElem?_map, List.getElem?_map, sees_at hj, sees_at hj]
   by_cases e : k = j
   · subst e
     have hl : k < ((sees gs l n).map Value.bool).length := by unfold sees; simpa using hj
     rw [if_pos rfl, if_pos hl]
     have : (l ++ [k]).contains k = true := by rw [List.contains_iff_mem]; simp
     rw [this]
     simp
   · rw [if_neg e]
     have : (l ++ [k]).contains j = l.contains j := by
      rw [Bool.eq_iff_iff, List.contains_iff_mem, List.contains_iff_mem, List.mem_append, List.mem_singleton]
      constructor
      · rintro (h | h)
        · exact h
        · exact absurd h.symm e
      · exact .inl
     rw [this]
 · have h1 : (sees gs (l ++ [k]) n).map Value.bool = (sees gs (l ++ [k]) n).map Value.bool := rfl
   have hl : ∀ l', ((sees gs l' n).map Value.bool).length = n := fun l' => by unfold sees; simp
   rw [List.getElem?_eq_none (by rw [hl]; omega), List.getElem?_eq_none (by rw [hl]; omega)]
   by_cases e : k = j
   · rw [if_pos e, if_neg (by rw [hl]; omega)]
   · rw [if_neg e]
theorem sees_done {gs : List (List Nat)} {l g : List Nat} {n : Nat} (h : ∀ j, j ∈ l ↔ j ∈ g) : sees gs l n = sees (gs ++ [g]) [] n := by
 unfold sees
 refine List.map_congr_left fun j _ => ?_
 rw [inG_app]
 have e : l.contains j = g.contains j := by rw [Bool.eq_iff_iff, List.contains_iff_mem, List.contains_iff_mem]; exact h j
 rw [e]
 simp
theorem sees_nil (n : Nat) : encBs (sees [] [] n) = List.replicate n (.bool false) := by
 unfold encBs sees inG
 apply List.ext_getElem?
 intro j
 by_cases hj : j < n
 · rw [List.getElem?_map, List.getElem?_map, List.getElem?_range hj, List.getElem?_replicate, if_pos hj]
   rfl
 · rw [List.getElem?_eq_none (by simp; omega), List.getElem?_eq_none (by simp; omega)]
theorem bool_inf : (Tryz.prog.info? 4).map (fun i => (i.zero, i.size, i.bytes)) = some (some (.bool false), 1, 1) := by kernel_rfl
theorem grps_len (n : Nat) (H : Nat → Nat → Bool) (up : Nat → Bool) : ∀ k, (grps n H up k).length ≤ k
 | 0 => Nat.le_refl _
 | k + 1 => by
  have ih := grps_len n H up k
  unfold grps
  split
  · rw [List.length_append, List.length_singleton]; omega
  · omega
set_option maxHeartbeats 16000000 in
theorem vgroups_own (x : Wd) (w : World) (hx : WdOk w x) :
    Calls Tryz.prog 26 #[WdV x] w fun e w' => ∃ A N C gs, e = .returned (.slice A N C) ∧ gs.map Gr.mem = groupsB x ∧ OutAt w' (w.heap.size + 2) (.slice A N C) (.slice none 0 0) gs ∧ Below w.heap.size w w' := by
 have CU : Hid (∀ (a : Nat) W, Below w.heap.size w W → Calls Tryz.prog 43 #[WdV x, .int .i64 a] W fun e w' => (∃ u, e = .returned (.tuple #[NdV u, .bool (upB x a)])) ∧ Below W.heap.size W w') := Lib.hid (fun a W hb => (up_any x a W (hx.below hb)).mono fun e w' h => ⟨⟨_, h.1⟩, h.2⟩)
 have CH := Lib.hid (fun (a b : Nat) W (hb : Below w.heap.size w W) => (show Calls Tryz.prog 12 #[WdV x, .int .i64 a, .int .i64 b] W fun e w' => e = .returned (.bool (heldN x a b)) ∧ Below W.heap.size W w' from held_any x a b W (hx.below hb)))
 have HL := Lib.hid (show x.nds.length = x.nn ∧ x.nn ≤ 16 from ⟨hx.len.1, by have := hx.len.1; have := hx.fit.n1; omega⟩)
 have HGE : Hid (groupsB x = grps x.nn (heldN x) (upB x) x.nn) := Lib.hid (by unfold groupsB; rw [HL.out.1])
 have HSY := Lib.hid (fun a b => heldN_symm x a b)
 rw [HGE.out]
 clear HGE
 clear hx
 generalize heldN x = H at CH HSY ⊢
 generalize upB x = up at CU ⊢
 obtain ⟨na, nn, nc, ua, un, uc, da, dn, dc, nx, la, ll, lc, sa, sl, sc, lost, nds, ups⟩ := x
 simp only [] at CU CH HL ⊢
 obtain ⟨G, hG⟩ : ∃ G : Nat → List (List Nat), G = grps nn H up := ⟨_, rfl⟩
 have HG0 : Hid (G 0 = []) := Lib.hid (by rw [hG]; rfl)
 have HGN : Hid (∀ k, up k = false ∨ inG (G k) k = true → G (k + 1) = G k) := Lib.hid (fun k h => by rw [hG] at h ⊢; exact grps_next_no h)
 have HGY : Hid (∀ k, up k = true → inG (G k) k = false → G (k + 1) = G k ++ [grp nn H k]) := Lib.hid (fun k h h2 => by rw [hG] at h2 ⊢; exact grps_next_yes h h2)
 have HGC : Hid (∀ k x y, k ≤ nn → x < nn → y < nn → H x y = true → inG (G k) y = true → inG (G k) x = true) := Lib.hid (fun k x y hk hx hy e h => by rw [hG] at h ⊢; exact grps_closed HSY.out hk hx hy e h)
 have HGL : Hid (∀ k, (G k).length ≤ k) := Lib.hid (fun k => by rw [hG]; exact grps_len nn H up k)
 rw [← hG]
 clear hG HSY
 have HN16 : Hid (nn ≤ 16) := Lib.hid HL.out.2
 obtain ⟨i0, hi0, hz0, hz1, hz2⟩ := info_parts bool_inf
 go_enter Tryz.func26, Tryz.ntmps26
 go_wp2_with (fail)
 go_step3
 go_wp2_with (at_make; refine wpList_make_row _ rfl (.tmp 13) (.tmp 13) 23 rfl 4 i0 (.bool false) Tryz.underlying23 hi0 hz0 hz1 rfl .i64 .i64 nn rfl rfl (by rw [hz2]; have := HN16.out; omega) (by have := HN16.out; omega) ?_)
 go_step3
 go_wp2
 refine lay1 (fun W => (W.cell? ⟨w.heap.size, 0, none⟩ = some (.slice na nn nc) ∧ W.cell? ⟨w.heap.size, 1, none⟩ = some (.slice ua un uc) ∧ W.cell? ⟨w.heap.size, 2, none⟩ = some (.slice da dn dc) ∧ W.cell? ⟨w.heap.size, 3, none⟩ = some (.int .i64 nx) ∧ W.cell? ⟨w.heap.size, 4, none⟩ = some (.slice la ll lc) ∧ W.cell? ⟨w.heap.size, 5, none⟩ = some (.slice sa sl sc) ∧ W.cell? ⟨w.heap.size, 6, none⟩ = some (.int .i64 lost)) ∧ LocX encBs W (w.heap.size + 1) (sees [] [] nn) ∧ Below w.heap.size w W) ⟨⟨by go_simp, by go_simp, by go_simp, by go_simp, by go_simp, by go_simp, by go_simp⟩, ?_, Qb⟩ ?_
 · have h := LocX.fresh (enc := encBs) (w.alloc (.cells #[.slice na nn nc, .slice ua un uc, .slice da dn dc, .int .i64 nx, .slice la ll lc, .slice sa sl sc, .int .i64 lost] 30)) (madeCells #[.bool false] nn) 4 (sees [] [] nn) (by rw [toList_madeCells_one, sees_nil])
   rw [show (w.alloc (.cells #[.slice na nn nc, .slice ua un uc, .slice da dn dc, .int .i64 nx, .slice la ll lc, .slice sa sl sc, .int .i64 lost] 30)).heap.size = w.heap.size + 1 by simp] at h
   exact h
 rintro w0 ⟨⟨kc0_0, kc0_1, kc0_2, kc0_3, kc0_4, kc0_5, kc0_6⟩, hX0, kb0⟩
 have HX0 := Lib.hid hX0
 have hz0 : w.heap.size + 1 < w0.heap.size := HX0.out.1
 have hy0 : w.heap.size < w0.heap.size := by omega
 clear hX0
 go_loopw [18, 3] (fun i l w' => ∃ (k : Nat) (A : Option Addr) (N C : Nat) (gs : List Gr), k ≤ nn ∧ i = .int .i64 k ∧ l = .slice A N C ∧ Hid (gs.length = N) ∧ Hid (gs.map Gr.mem = G k) ∧ Hid (OutAt w' (w.heap.size + 2) (.slice A N C) (.slice none 0 0) gs) ∧ Hid (LocX encBs w' (w.heap.size + 1) (sees (G k) [] nn)) ∧ KeptC w [(⟨w.heap.size, 0, none⟩, .slice na nn nc), (⟨w.heap.size, 1, none⟩, .slice ua un uc), (⟨w.heap.size, 2, none⟩, .slice da dn dc), (⟨w.heap.size, 3, none⟩, .int .i64 nx), (⟨w.heap.size, 4, none⟩, .slice la ll lc), (⟨w.heap.size, 5, none⟩, .slice sa sl sc), (⟨w.heap.size, 6, none⟩, .int .i64 lost)] [] w') (fun i _ _ => nn - (intOf i).toNat)
 case atStart => exact ⟨0, none, 0, 0, [], Nat.zero_le _, rfl, rfl, Lib.hid rfl, Lib.hid (by rw [HG0.out]; rfl), Lib.hid (OutAt.nil _ _), (by rw [HG0.out]; exact HX0), (Qk1 kb0)⟩
 case round =>
  obtain ⟨k, A, N, C, gs, hk, rfl, rfl, HLn, HMM, HO, HX, hK⟩ := hrel
  clear kb0 hz0 hy0 HX0 kc0_0 kc0_1 kc0_2 kc0_3 kc0_4 kc0_5 kc0_6
  simp only [KeptC, List.forall_mem_cons] at hK; obtain ⟨kb1, ⟨kc1_0, kc1_1, kc1_2, kc1_3, kc1_4, kc1_5, kc1_6, _⟩, _⟩ := hK
  have hs1 := kb1.size
  have hz1 : w.heap.size + 1 < wr.heap.size := HX.out.1
  have hy1 : w.heap.size < wr.heap.size := by omega
  by_cases hlt : k < nn
  rotate_left
  · obtain rfl : k = nn := by omega
    go_wp2
    rw [Exit.noGoto_ret]
    go_ret
    exact ⟨A, N, C, gs, rfl, HMM.out, HO.out, kb1⟩
  · obtain ⟨w1, h⟩ : ∃ w1, w1 = wr := ⟨_, rfl⟩
    subst h
    have hwk : IntKind.i64.wrap ((k : Int) + 1) = (k : Int) + 1 := by rw [IntKind.wrap_i64]; have := HN16.out; omega
    have hki : (k : Int) < (nn : Int) := by omega
    have CU2 := Lib.hid (CU.out k)
    have HGN2 := Lib.hid (HGN.out k)
    have HGY2 := Lib.hid (HGY.out k)
    generalize up k = ok at CU2 HGN2 HGY2
    go_wp2_with (fail)
    refine (CU2.out _ (Qb1 kb1)).mono ?_; rintro e w2 ⟨⟨u, rfl⟩, hb2⟩
    have hk2 : KeptC w [(⟨w.heap.size, 0, none⟩, .slice na nn nc), (⟨w.heap.size, 1, none⟩, .slice ua un uc), (⟨w.heap.size, 2, none⟩, .slice da dn dc), (⟨w.heap.size, 3, none⟩, .int .i64 nx), (⟨w.heap.size, 4, none⟩, .slice la ll lc), (⟨w.heap.size, 5, none⟩, .slice sa sl sc), (⟨w.heap.size, 6, none⟩, .int .i64 lost)] [] w2 := by
     refine KeptC.below ?_ hb2
     exact Qk1 kb1
    simp only [KeptC, List.forall_mem_cons] at hk2; obtain ⟨kb2, ⟨kc2_0, kc2_1, kc2_2, kc2_3, kc2_4, kc2_5, kc2_6, _⟩, _⟩ := hk2
    have hz2 : w.heap.size + 1 < w2.heap.size := by have := hb2.size; omega
    have hy2 : w.heap.size < w2.heap.size := by omega
    have HO2 := Lib.hid (HO.out.below hb2)
    have HX2 := Lib.hid (HX.out.below hb2 hz1)
    clear hb2 kb1 hz1 hy1 hs1 kc1_0 kc1_1 kc1_2 kc1_3 kc1_4 kc1_5 kc1_6 CU2 HO HX
    go_upto_region 7 with (fail)
    refine lay1 (fun W => (W.cell? ⟨w.heap.size, 0, none⟩ = some (.slice na nn nc) ∧ W.cell? ⟨w.heap.size, 1, none⟩ = some (.slice ua un uc) ∧ W.cell? ⟨w.heap.size, 2, none⟩ = some (.slice da dn dc) ∧ W.cell? ⟨w.heap.size, 3, none⟩ = some (.int .i64 nx) ∧ W.cell? ⟨w.heap.size, 4, none⟩ = some (.slice la ll lc) ∧ W.cell? ⟨w.heap.size, 5, none⟩ = some (.slice sa sl sc) ∧ W.cell? ⟨w.heap.size, 6, none⟩ = some (.int .i64 lost)) ∧ Below w2.heap.size w2 W) ⟨⟨by go_simp, by go_simp, by go_simp, by go_simp, by go_simp, by go_simp, by go_simp⟩, Qb⟩ ?_
    rintro w3 ⟨⟨kc3_0, kc3_1, kc3_2, kc3_3, kc3_4, kc3_5, kc3_6⟩, hb3⟩
    have kb3 : Below w.heap.size w w3 := kb2.trans (hb3.mono kb2.size)
    have hz3 : w.heap.size + 1 < w3.heap.size := by have := hb3.size; omega
    have hy3 : w.heap.size < w3.heap.size := by omega
    have HO3 := Lib.hid (HO2.out.below hb3)
    have HX3 := Lib.hid (HX2.out.below hb3 hz2)
    clear hb3 kb2 hz2 hy2 kc2_0 kc2_1 kc2_2 kc2_3 kc2_4 kc2_5 kc2_6 HO2 HX2
    have hsk := HX3.out.2 k _ (sees_enc hlt)
    rw [show ([] : List Nat).contains k = false from rfl, Bool.or_false] at hsk
    cases ok with
    | false =>
     have HNX := Lib.hid (HGN2.out (.inl rfl))
     clear hsk HGN2 HGY2
     go_wp2
     go_roundw
     case rel => exact ⟨k + 1, A, N, C, gs, by omega, by go_num, rfl, HLn, Lib.hid (by rw [HNX.out]; exact HMM.out), HO3, (by rw [HNX.out]; exact HX3), (Qk1 kb3)⟩
     case measure => simp [intOf]; omega
    | true =>
     obtain ⟨hs1, hs2⟩ := hsk
     cases hin : inG (G k) k with
     | true =>
      rw [hin] at hs1
      have HNX := Lib.hid (HGN2.out (.inr hin))
      clear HGN2 HGY2 hin
      go_wp2
      go_roundw
      case rel => exact ⟨k + 1, A, N, C, gs, by omega, by go_num, rfl, HLn, Lib.hid (by rw [HNX.out]; exact HMM.out), HO3, (by rw [HNX.out]; exact HX3), (Qk1 kb3)⟩
      case measure => simp [intOf]; omega
     | false =>
      rw [hin] at hs1
      have HNX := Lib.hid (HGY2.out rfl hin)
      have HIN := Lib.hid hin
      have hBA : w.heap.size + 1 < w3.heap.size := hz3
      clear HGN2 HGY2 hin
      go_upto_region 10 with (fail)
      refine lay1 (fun W => (W.cell? ⟨w.heap.size, 0, none⟩ = some (.slice na nn nc) ∧ W.cell? ⟨w.heap.size, 1, none⟩ = some (.slice ua un uc) ∧ W.cell? ⟨w.heap.size, 2, none⟩ = some (.slice da dn dc) ∧ W.cell? ⟨w.heap.size, 3, none⟩ = some (.int .i64 nx) ∧ W.cell? ⟨w.heap.size, 4, none⟩ = some (.slice la ll lc) ∧ W.cell? ⟨w.heap.size, 5, none⟩ = some (.slice sa sl sc) ∧ W.cell? ⟨w.heap.size, 6, none⟩ = some (.int .i64 lost)) ∧ LocX encBs W (w.heap.size + 1) (sees (G k) [k] nn) ∧ Away (w.heap.size + 1) w3 W ∧ OwnE encI 1 3 W w3.heap.size (.slice (some ⟨w3.heap.size, 0, none⟩) 1 1) (memI [k])) ⟨⟨by go_simp, by go_simp, by go_simp, by go_simp, by go_simp, by go_simp, by go_simp⟩, ?_, ?_, ?_⟩ ?_
      · exact (HX3.out.set k (.bool true) (sees (G k) [k] nn) (sees_set (G k) [] nn k)).below ((Below.refl _ _).alloc (Nat.le_refl _) _) (by simp; omega)
      · exact (Away.set w3 k (.bool true)).own ((Below.refl _ _).alloc (by simp) _) hz3
      · have h := World.ownsRow_lit (base := w3.heap.size) (e := 3) (size := 1) (w3.setCell ⟨w.heap.size + 1, k, none⟩ (.bool true)) #[.int .i64 k] 1 (by simp) (by decide) rfl
        rw [World.size_setCell] at h
        exact h
      rintro w4 ⟨⟨kc4_0, kc4_1, kc4_2, kc4_3, kc4_4, kc4_5, kc4_6⟩, hX4, hA4, hW4⟩
      have HX4 := Lib.hid hX4; have HA4 := Lib.hid hA4; have HW4 := Lib.hid hW4
      have kb4 : Below w.heap.size w w4 := kb3.trans (hA4.low.mono (by omega))
      have hz4 : w.heap.size + 1 < w4.heap.size := HX4.out.1
      have hy4 : w.heap.size < w4.heap.size := by omega
      clear hX4 hA4 hW4 hs1 hs2 kc3_0 kc3_1 kc3_2 kc3_3 kc3_4 kc3_5 kc3_6 HX3
      go_wp2
      go_loopw [9, 8] (fun i g w' => ∃ (a : Nat) (l : List Nat) (gA : Option Addr) (gN gC : Nat), a ≤ gN ∧ i = .int .i64 a ∧ g = .slice gA gN gC ∧ Hid (l.length = gN ∧ gN ≤ nn) ∧ Hid (Srch nn H k l a) ∧ Hid (∀ y ∈ l, inG (G k) y = false) ∧ Hid (OwnE encI 1 3 w' w3.heap.size (.slice gA gN gC) (memI l)) ∧ Hid (LocX encBs w' (w.heap.size + 1) (sees (G k) l nn)) ∧ Hid (Away (w.heap.size + 1) w3 w') ∧ KeptC w [(⟨w.heap.size, 0, none⟩, .slice na nn nc), (⟨w.heap.size, 1, none⟩, .slice ua un uc), (⟨w.heap.size, 2, none⟩, .slice da dn dc), (⟨w.heap.size, 3, none⟩, .int .i64 nx), (⟨w.heap.size, 4, none⟩, .slice la ll lc), (⟨w.heap.size, 5, none⟩, .slice sa sl sc), (⟨w.heap.size, 6, none⟩, .int .i64 lost)] [] w') (fun i _ _ => nn - (intOf i).toNat)
      case atStart => exact ⟨0, [k], some ⟨w3.heap.size, 0, none⟩, 1, 1, Nat.zero_le _, rfl, rfl, Lib.hid ⟨rfl, by omega⟩, Lib.hid (Srch.start hlt), Lib.hid (fun y hy => by rw [List.mem_singleton.1 hy]; exact HIN.out), HW4, HX4, HA4, (Qk1 kb4)⟩
      case round =>
       obtain ⟨a, l, gA, gN, gC, ha, rfl, rfl, HLL, HSR, HNI, HW, HX, HA, hK⟩ := hrel
       clear kb3 kb4 hz4 hy4 kc4_0 kc4_1 kc4_2 kc4_3 kc4_4 kc4_5 kc4_6 HX4 HA4 HW4
       simp only [KeptC, List.forall_mem_cons] at hK; obtain ⟨kb5, ⟨kc5_0, kc5_1, kc5_2, kc5_3, kc5_4, kc5_5, kc5_6, _⟩, _⟩ := hK
       have hs5 := kb5.size
       have hz5 : w.heap.size + 1 < wr.heap.size := HX.out.1
       have hy5 : w.heap.size < wr.heap.size := by omega
       obtain ⟨w5, h⟩ : ∃ w5, w5 = wr := ⟨_, rfl⟩
       subst h
       by_cases hla : a < gN
       rotate_left
       · obtain rfl : a = gN := by omega
         have hg0 : 0 < a := by
          have h1 := HLL.out.1
          have h2 := List.length_pos_of_mem HSR.out.fst
          omega
         obtain ⟨gb, rfl, hgM, hgw, hgr, hgc⟩ := HW.out.gr hg0 HLL.out.1
         have HGM := Lib.hid hgM
         have CS := Lib.hid (sortI_any gb a gC l w5 w3.heap.size HW.out HLL.out.1 (by have := HLL.out.2; have := HN16.out; omega))
         have HSG := Lib.hid (sorted_grp HSR.out (Nat.le_of_eq HLL.out.1))
         rw [HSG.out] at CS
         have HMG : Hid (∀ j, j ∈ l ↔ j ∈ grp nn H k) := Lib.hid (fun j => HSR.out.end_ (Nat.le_of_eq HLL.out.1) j)
         have HLG : Hid ((grp nn H k).length = a) := Lib.hid (by
          have h1 : (memI (grp nn H k)).length = (memI l).length := by rw [← HSG.out]; exact List.length_mergeSort ..
          rw [memI_len, memI_len] at h1
          rw [h1]
          exact HLL.out.1)
         clear hgr hgM
         go_wp2_with (fail)
         refine CS.out.mono ?_; rintro e w6 ⟨rfl, hown6, hb6⟩
         have HA6 := Lib.hid (HA.out.own hb6 hBA)
         have HO6 := Lib.hid (HO3.out.away HA6.out (Nat.lt_succ_self _))
         have HX6 := Lib.hid (HX.out.below hb6 hBA)
         have HW6 := Lib.hid hown6
         have kb6 : Below w.heap.size w w6 := kb5.trans (hb6.mono (by omega))
         have hz6 : w.heap.size + 1 < w6.heap.size := HX6.out.1
         have hy6 : w.heap.size < w6.heap.size := by omega
         have kc6_0 := (hb6.cell (p := ⟨w.heap.size, 0, none⟩) (show w.heap.size < w3.heap.size by omega)).trans kc5_0
         have kc6_1 := (hb6.cell (p := ⟨w.heap.size, 1, none⟩) (show w.heap.size < w3.heap.size by omega)).trans kc5_1
         have kc6_2 := (hb6.cell (p := ⟨w.heap.size, 2, none⟩) (show w.heap.size < w3.heap.size by omega)).trans kc5_2
         have kc6_3 := (hb6.cell (p := ⟨w.heap.size, 3, none⟩) (show w.heap.size < w3.heap.size by omega)).trans kc5_3
         have kc6_4 := (hb6.cell (p := ⟨w.heap.size, 4, none⟩) (show w.heap.size < w3.heap.size by omega)).trans kc5_4
         have kc6_5 := (hb6.cell (p := ⟨w.heap.size, 5, none⟩) (show w.heap.size < w3.heap.size by omega)).trans kc5_5
         have kc6_6 := (hb6.cell (p := ⟨w.heap.size, 6, none⟩) (show w.heap.size < w3.heap.size by omega)).trans kc5_6
         have HM6 : Hid (w5.heap.size ≤ w6.heap.size) := Lib.hid hb6.size
         clear hb6 hown6 CS kb5 hz5 hy5 hs5 kc5_0 kc5_1 kc5_2 kc5_3 kc5_4 kc5_5 kc5_6 HX HA HW
         have HB9 : Hid (N + 1 ≤ maxLen ∧ (N + 1) * 24 ≤ 140737488355328) := Lib.hid (by
          have h1 := HLn.out
          have h2 := HGL.out k
          rw [← HMM.out, List.length_map, h1] at h2
          have h3 := HN16.out
          simp only [maxLen]; omega)
         have hgw6 : gb < w6.heap.size := by have := HM6.out; omega
         go_wp2_with (at_builtin; refine wpList_app1K encG_len encG_one (by decide) rfl (.tmp 76) (.tmp 78) 50 42 rfl Tryz.underlying50 slint_inf rfl (w.heap.size + 2) gs A N C HLn.out rfl ((HO6.out.below ((Below.refl _ _).alloc (Nat.le_refl _) _)).own) (some ⟨w6.heap.size, 0, none⟩) 1 1 rfl [⟨some ⟨gb, 0, none⟩, a, gC, grp nn H k⟩] (rows_one (fun i u hu => by have h := ((LocX.fresh (enc := encG) w6 #[.slice (some ⟨gb, 0, none⟩) a gC] 42 ⟨some ⟨gb, 0, none⟩, a, gC, grp nn H k⟩ rfl).2 i u hu).1; rw [Addr.add_lit, Nat.zero_add]; exact h) (by simp)) HB9.out.1 HB9.out.2 (by simp; omega) ?_; rintro O7 A7 n7 c7 w7 hO7 hn7 hown7 hb7 hkp7; have HO7 := Lib.hid hO7; have HN7 := Lib.hid hn7; have HW7 := Lib.hid hown7; have HKP7 := Lib.hid hkp7; have HB8 := Lib.hid hb7; have HB7 : Hid (Below (w.heap.size + 2) w6 w7) := Lib.hid ((Qb : Below (w.heap.size + 2) w6 _).trans hb7); clear hO7 hn7 hown7 hb7 hkp7)
         have hO7 := HO7.out
         subst hO7
         have HOK : Hid (OutAt w7 (w.heap.size + 2) (.slice A7 n7 c7) (.slice none 0 0) (gs ++ [⟨some ⟨gb, 0, none⟩, a, gC, grp nn H k⟩])) := Lib.hid (by
          have hal : Below w6.heap.size w6 (w6.alloc (.cells #[.slice (some ⟨gb, 0, none⟩) a gC] 42)) := (Below.refl _ _).alloc (Nat.le_refl _) _
          have ho := HO6.out.below hal
          have hwl : OwnE encI 1 3 (w6.alloc (.cells #[.slice (some ⟨gb, 0, none⟩) a gC] 42)) w3.heap.size (.slice (some ⟨gb, 0, none⟩) a gC) (memI (grp nn H k)) := HW6.out.below hal
          obtain ⟨b2, e2, hb1, hb2, hb3, hb4⟩ := hwl.gr hg0 HLG.out
          injection e2 with e2
          injection e2 with e2 _
          subst e2
          refine ho.push (w' := w7) ⟨gb, rfl, ?_, hb2, ?_, ?_, hb3, hb4⟩ ?_ HW7.out HKP7.out ?_
          · omega
          · intro e
            have h1 := HO3.out.own.lt e
            omega
          · intro e; simp [Value.ownBlock] at e
          · have h1 := HB7.out.size
            exact HB8.out.size
          · intro b e; simp [Value.ownBlock] at e)
         have kb7 : Below w.heap.size w w7 := kb6.trans (HB7.out.mono (by omega))
         have kc7_0 := (HB7.out.cell (p := ⟨w.heap.size, 0, none⟩) (show w.heap.size < w.heap.size + 2 by omega)).trans kc6_0
         have kc7_1 := (HB7.out.cell (p := ⟨w.heap.size, 1, none⟩) (show w.heap.size < w.heap.size + 2 by omega)).trans kc6_1
         have kc7_2 := (HB7.out.cell (p := ⟨w.heap.size, 2, none⟩) (show w.heap.size < w.heap.size + 2 by omega)).trans kc6_2
         have kc7_3 := (HB7.out.cell (p := ⟨w.heap.size, 3, none⟩) (show w.heap.size < w.heap.size + 2 by omega)).trans kc6_3
         have kc7_4 := (HB7.out.cell (p := ⟨w.heap.size, 4, none⟩) (show w.heap.size < w.heap.size + 2 by omega)).trans kc6_4
         have kc7_5 := (HB7.out.cell (p := ⟨w.heap.size, 5, none⟩) (show w.heap.size < w.heap.size + 2 by omega)).trans kc6_5
         have kc7_6 := (HB7.out.cell (p := ⟨w.heap.size, 6, none⟩) (show w.heap.size < w.heap.size + 2 by omega)).trans kc6_6
         have HX7 := Lib.hid (HX6.out.below HB7.out (by omega))
         have HL7 : Hid ((gs ++ [(⟨some ⟨gb, 0, none⟩, a, gC, grp nn H k⟩ : Gr)]).length = n7) := HN7
         have HM7 : Hid ((gs ++ [(⟨some ⟨gb, 0, none⟩, a, gC, grp nn H k⟩ : Gr)]).map Gr.mem = G (k + 1)) := Lib.hid (by rw [HNX.out, List.map_append, HMM.out]; rfl)
         have HX8 : Hid (LocX encBs w7 (w.heap.size + 1) (sees (G (k + 1)) [] nn)) := Lib.hid (by rw [HNX.out, ← sees_done HMG.out]; exact HX7.out)
         go_roundw
         case rel => exact ⟨k + 1, A7, n7, c7, _, by omega, by go_num, rfl, HL7, HM7, HOK, HX8, (Qk1 kb7)⟩
         case measure => simp [intOf]; omega
       · obtain ⟨x, hxa⟩ : ∃ x, l[a]? = some x := ⟨_, List.getElem?_eq_getElem (by rw [HLL.out.1]; exact hla)⟩
         have hwa : IntKind.i64.wrap ((a : Int) + 1) = (a : Int) + 1 := by rw [IntKind.wrap_i64]; have := HLL.out.2; have := HN16.out; omega
         have HAK : Hid (Ask nn H k l a x 0) := Lib.hid (HSR.out.ask hxa)
         have HXN : Hid (x < nn) := Lib.hid (HSR.out.rch x (List.mem_of_getElem? hxa)).1
         have HXI : Hid (inG (G k) x = false) := Lib.hid (HNI.out x (List.mem_of_getElem? hxa))
         clear hxa HSR
         go_wp2
         go_loopw [49, 8] (fun j g w' => ∃ (b : Nat) (l : List Nat) (gA : Option Addr) (gN gC : Nat), b ≤ nn ∧ j = .int .i64 b ∧ g = .slice gA gN gC ∧ a < gN ∧ Hid (l.length = gN ∧ gN ≤ nn) ∧ Hid (Ask nn H k l a x b) ∧ Hid (∀ y ∈ l, inG (G k) y = false) ∧ Hid (OwnE encI 1 3 w' w3.heap.size (.slice gA gN gC) (memI l)) ∧ Hid (LocX encBs w' (w.heap.size + 1) (sees (G k) l nn)) ∧ Hid (Away (w.heap.size + 1) w3 w') ∧ KeptC w [(⟨w.heap.size, 0, none⟩, .slice na nn nc), (⟨w.heap.size, 1, none⟩, .slice ua un uc), (⟨w.heap.size, 2, none⟩, .slice da dn dc), (⟨w.heap.size, 3, none⟩, .int .i64 nx), (⟨w.heap.size, 4, none⟩, .slice la ll lc), (⟨w.heap.size, 5, none⟩, .slice sa sl sc), (⟨w.heap.size, 6, none⟩, .int .i64 lost)] [] w') (fun j _ _ => nn - (intOf j).toNat)
         case atStart => exact ⟨0, l, gA, gN, gC, Nat.zero_le _, rfl, rfl, hla, HLL, HAK, HNI, HW, HX, HA, (Qk1 kb5)⟩
         case round =>
          clear kb5 hz5 hy5 hs5 kc5_0 kc5_1 kc5_2 kc5_3 kc5_4 kc5_5 kc5_6 HX HA HW HLL HNI HAK hla ha
          obtain ⟨b, l, gA, gN, gC, hb, rfl, rfl, hla, HLL, HAK, HNI, HW, HX, HA, hK⟩ := hrel
          simp only [KeptC, List.forall_mem_cons] at hK; obtain ⟨kb6, ⟨kc6_0, kc6_1, kc6_2, kc6_3, kc6_4, kc6_5, kc6_6, _⟩, _⟩ := hK
          have hs6 := kb6.size
          have hz6 : w.heap.size + 1 < wr.heap.size := HX.out.1
          have hy6 : w.heap.size < wr.heap.size := by omega
          obtain ⟨w6, h⟩ : ∃ w6, w6 = wr := ⟨_, rfl⟩
          subst h
          by_cases hlb : b < nn
          rotate_left
          · obtain rfl : b = nn := by omega
            go_wp2
            go_roundw
            case rel => exact ⟨a + 1, l, gA, gN, gC, by omega, by go_num, rfl, HLL, Lib.hid HAK.out.done, HNI, HW, HX, HA, (Qk1 kb6)⟩
            case measure => have := HLL.out.2; simp [intOf]; omega
          · have hwb : IntKind.i64.wrap ((b : Int) + 1) = (b : Int) + 1 := by rw [IntKind.wrap_i64]; have := HN16.out; omega
            have hbi : (b : Int) < (nn : Int) := by omega
            have hai : (a : Int) < (gN : Int) := by omega
            obtain ⟨hq1, hq2⟩ := HX.out.2 b _ (sees_enc hlb)
            obtain ⟨gb, rfl, hgM, hgw, hgr, hgc⟩ := HW.out.gr (show 0 < gN by omega) HLL.out.1
            obtain ⟨ad2, y2, e2, hab2, hy2, h6⟩ := hgr.at hla
            obtain rfl := Option.some.inj e2
            obtain ⟨x2, hx2, rfl⟩ := memI_get hy2
            have hex : x = x2 := (Option.some.inj (hx2.symm.trans HAK.out.at_)).symm
            subst hex
            rw [Nat.mul_one] at h6
            have q0 : w6.cell? ⟨gb, a, none⟩ = some (.int .i64 x) := by have := h6 0 _ rfl; rw [Addr.add_lit, Addr.add_lit] at this; simpa using this
            have HGW := Lib.hid hgw
            have HGMM := Lib.hid hgM
            have HSB : Hid ((inG (G k) b || l.contains b) = true → H x b = true → b ∈ l) := Lib.hid (by
             intro h1 h2
             rcases Bool.or_eq_true _ _ ▸ h1 with h3 | h3
             · have := HGC.out k x b hk HXN.out hlb h2 h3
               rw [HXI.out] at this
               cases this
             · exact List.contains_iff_mem.1 h3)
            have HSN : Hid ((inG (G k) b || l.contains b) = false → b ∉ l ∧ inG (G k) b = false) := Lib.hid (by
             intro h1
             rw [Bool.or_eq_false_iff] at h1
             refine ⟨fun h => ?_, h1.1⟩
             rw [List.contains_iff_mem.2 h] at h1
             cases h1.2)
            generalize (inG (G k) b || l.contains b) = sb at hq1 HSB HSN
            have CH2 := Lib.hid (fun W (hb : Below w6.heap.size w6 W) => CH.out x b W (kb6.trans (hb.mono kb6.size)))
            clear hgr hgc hab2 hy2 h6 e2 hgM hx2
            cases sb with
            | true =>
             have HSB2 := Lib.hid (HSB.out rfl)
             clear HSB HSN CH2
             go_wp2_with (fail)
             refine wp_region_quietC_lit (KeptC w6 [(⟨w.heap.size, 0, none⟩, .slice na nn nc), (⟨w.heap.size, 1, none⟩, .slice ua un uc), (⟨w.heap.size, 2, none⟩, .slice da dn dc), (⟨w.heap.size, 3, none⟩, .int .i64 nx), (⟨w.heap.size, 4, none⟩, .slice la ll lc), (⟨w.heap.size, 5, none⟩, .slice sa sl sc), (⟨w.heap.size, 6, none⟩, .int .i64 lost), (⟨w.heap.size + 1, b, none⟩, .bool true), (⟨gb, a, none⟩, .int .i64 x)] []) (by kernel_rfl) (by kernel_rfl) ?_ ?_
             · refine KeptC.drewn ?_
               exact Qk
             repeat (first
              | go_big_quiet_skip
              | (go_big_quiet_want; (apply quietC_run); (· intro w' hw'; (have hk' := hw'; simp only [KeptC, List.forall_mem_cons] at hk'; go_split_ands); go_simp; first | done | rfl); (simp only [Act.put, List.setIfInBounds_toArray, List.set_cons_zero, List.set_cons_succ]; go_big_quiet_on))
              | (go_big_quiet_want; (apply quietC_call); (· intro w' hw'; go_simp; first | done | exact ⟨rfl, rfl⟩ | rfl); (· intro w' hw'; first | ((with_reducible refine (fail).mono ?_); rintro e w2 ⟨rfl, hb⟩; exact ⟨rfl, hw'.below hb⟩)); (simp only [Act.put, List.setIfInBounds_toArray, List.set_cons_zero, List.set_cons_succ]; go_big_quiet_on)))
             refine wpQuiet_nil ?_
             intro w9 hk9
             (have hk' := hk9; simp only [KeptC, List.forall_mem_cons] at hk'; go_split_ands); have hkB9 := hk9.1
             have kb9 : Below w.heap.size w w9 := kb6.trans (hkB9.mono kb6.size)
             have HW9 := Lib.hid (HW.out.below hkB9)
             have HX9 := Lib.hid (HX.out.below hkB9 hz6)
             have HA9 := Lib.hid (HA.out.trans (Away.of hkB9 hz6))
             clear kc6_0 kc6_1 kc6_2 kc6_3 kc6_4 kc6_5 kc6_6 hq1 hq2 q0 hk9
             go_wp2
             go_roundw
             case rel => exact ⟨b + 1, l, _, gN, gC, by omega, by go_num, rfl, hla, HLL, Lib.hid (HAK.out.skip HSB2.out), HNI, HW9, HX9, HA9, (Qk1 kb9)⟩
             case measure => simp [intOf]; omega
            | false =>
             have HSN2 := Lib.hid (HSN.out rfl)
             have HPU := Lib.hid (fun h : H x b = true => HAK.out.push hlb h HSN2.out.1)
             have HSK := Lib.hid (fun h : H x b = false => HAK.out.skip (b := b) (fun h2 => by rw [h] at h2; cases h2))
             clear HSB HSN
             generalize H x b = hb2 at CH2 HPU HSK
             cases hb2 with
             | false =>
              go_wp2_with (fail)
              refine wp_region_quietC_lit (KeptC w6 [(⟨w.heap.size, 0, none⟩, .slice na nn nc), (⟨w.heap.size, 1, none⟩, .slice ua un uc), (⟨w.heap.size, 2, none⟩, .slice da dn dc), (⟨w.heap.size, 3, none⟩, .int .i64 nx), (⟨w.heap.size, 4, none⟩, .slice la ll lc), (⟨w.heap.size, 5, none⟩, .slice sa sl sc), (⟨w.heap.size, 6, none⟩, .int .i64 lost), (⟨w.heap.size + 1, b, none⟩, .bool false), (⟨gb, a, none⟩, .int .i64 x)] []) (by kernel_rfl) (by kernel_rfl) ?_ ?_
              · refine KeptC.drewn ?_
                exact Qk
              repeat (first
               | go_big_quiet_skip
               | (go_big_quiet_want; (apply quietC_run); (· intro w' hw'; (have hk' := hw'; simp only [KeptC, List.forall_mem_cons] at hk'; go_split_ands); go_simp; first | done | rfl); (simp only [Act.put, List.setIfInBounds_toArray, List.set_cons_zero, List.set_cons_succ]; go_big_quiet_on))
               | (go_big_quiet_want; (apply quietC_call); (· intro w' hw'; go_simp; first | done | exact ⟨rfl, rfl⟩ | rfl); (· intro w' hw'; first | ((with_reducible refine (CH2.out _ hw'.lowV).mono ?_); rintro e w2 ⟨rfl, hb⟩; exact ⟨rfl, hw'.below hb⟩)); (simp only [Act.put, List.setIfInBounds_toArray, List.set_cons_zero, List.set_cons_succ]; go_big_quiet_on)))
              refine wpQuiet_nil ?_
              intro w9 hk9
              (have hk' := hk9; simp only [KeptC, List.forall_mem_cons] at hk'; go_split_ands); have hkB9 := hk9.1
              have kb9 : Below w.heap.size w w9 := kb6.trans (hkB9.mono kb6.size)
              have HW9 := Lib.hid (HW.out.below hkB9)
              have HX9 := Lib.hid (HX.out.below hkB9 hz6)
              have HA9 := Lib.hid (HA.out.trans (Away.of hkB9 hz6))
              clear kc6_0 kc6_1 kc6_2 kc6_3 kc6_4 kc6_5 kc6_6 hq1 hq2 q0 hk9
              go_wp2
              go_roundw
              case rel => exact ⟨b + 1, l, _, gN, gC, by omega, by go_num, rfl, hla, HLL, Lib.hid (HSK.out (by first | rfl | trivial)), HNI, HW9, HX9, HA9, (Qk1 kb9)⟩
              case measure => simp [intOf]; omega
             | true =>
              go_wp2_with (fail)
              refine wp_region_quietC_lit (KeptC w6 [(⟨w.heap.size, 0, none⟩, .slice na nn nc), (⟨w.heap.size, 1, none⟩, .slice ua un uc), (⟨w.heap.size, 2, none⟩, .slice da dn dc), (⟨w.heap.size, 3, none⟩, .int .i64 nx), (⟨w.heap.size, 4, none⟩, .slice la ll lc), (⟨w.heap.size, 5, none⟩, .slice sa sl sc), (⟨w.heap.size, 6, none⟩, .int .i64 lost), (⟨w.heap.size + 1, b, none⟩, .bool false), (⟨gb, a, none⟩, .int .i64 x)] []) (by kernel_rfl) (by kernel_rfl) ?_ ?_
              · refine KeptC.drewn ?_
                exact Qk
              repeat (first
               | go_big_quiet_skip
               | (go_big_quiet_want; (apply quietC_run); (· intro w' hw'; (have hk' := hw'; simp only [KeptC, List.forall_mem_cons] at hk'; go_split_ands); go_simp; first | done | rfl); (simp only [Act.put, List.setIfInBounds_toArray, List.set_cons_zero, List.set_cons_succ]; go_big_quiet_on))
               | (go_big_quiet_want; (apply quietC_call); (· intro w' hw'; go_simp; first | done | exact ⟨rfl, rfl⟩ | rfl); (· intro w' hw'; first | ((with_reducible refine (CH2.out _ hw'.lowV).mono ?_); rintro e w2 ⟨rfl, hb⟩; exact ⟨rfl, hw'.below hb⟩)); (simp only [Act.put, List.setIfInBounds_toArray, List.set_cons_zero, List.set_cons_succ]; go_big_quiet_on)))
              refine wpQuiet_nil ?_
              intro w9 hk9
              (have hk' := hk9; simp only [KeptC, List.forall_mem_cons] at hk'; go_split_ands); have hkB9 := hk9.1
              have kb9 : Below w.heap.size w w9 := kb6.trans (hkB9.mono kb6.size)
              have HW9 := Lib.hid (HW.out.below hkB9)
              have HX9 := Lib.hid (HX.out.below hkB9 hz6)
              have HA9 := Lib.hid (HA.out.trans (Away.of hkB9 hz6))
              have hz9 : w.heap.size + 1 < w9.heap.size := HX9.out.1
              have hy9 : w.heap.size < w9.heap.size := by omega
              have hfr9 : w9.frozen? ⟨w.heap.size + 1, b, none⟩ = false := (hkB9.frozen (p := ⟨w.heap.size + 1, b, none⟩) hz6).trans hq2
              have hMz : w.heap.size + 1 < w3.heap.size := hBA
              have HS93 : Hid (w3.heap.size ≤ w9.heap.size) := Lib.hid HA9.out.low.size
              clear kc6_0 kc6_1 kc6_2 kc6_3 kc6_4 kc6_5 kc6_6 hq1 hq2 q0 hk9 HW HX HA kb6 hz6 hy6 hs6
              go_upto_region 18 with (fail)
              refine lay1 (fun W => (W.cell? ⟨w.heap.size, 0, none⟩ = some (.slice na nn nc) ∧ W.cell? ⟨w.heap.size, 1, none⟩ = some (.slice ua un uc) ∧ W.cell? ⟨w.heap.size, 2, none⟩ = some (.slice da dn dc) ∧ W.cell? ⟨w.heap.size, 3, none⟩ = some (.int .i64 nx) ∧ W.cell? ⟨w.heap.size, 4, none⟩ = some (.slice la ll lc) ∧ W.cell? ⟨w.heap.size, 5, none⟩ = some (.slice sa sl sc) ∧ W.cell? ⟨w.heap.size, 6, none⟩ = some (.int .i64 lost)) ∧ LocX encBs W (w.heap.size + 1) (sees (G k) (l ++ [b]) nn) ∧ Away (w.heap.size + 1) w3 W ∧ OwnE encI 1 3 W w3.heap.size (.slice (some ⟨gb, 0, none⟩) gN gC) (memI l) ∧ w9.heap.size ≤ W.heap.size ∧ Below w.heap.size w W) ⟨⟨by go_simp, by go_simp, by go_simp, by go_simp, by go_simp, by go_simp, by go_simp⟩, HX9.out.set b (.bool true) _ (sees_set (G k) l nn b), HA9.out.trans (Away.set _ _ _), HW9.out.setc' (p := ⟨w.heap.size + 1, b, none⟩) hMz _, by simp, (Qb1 kb9)⟩ ?_
              rintro w10 ⟨⟨kc7_0, kc7_1, kc7_2, kc7_3, kc7_4, kc7_5, kc7_6⟩, hX, hA, hW, hsz, kbX⟩
              have HX10 := Lib.hid hX; have HA10 := Lib.hid hA; have HW10 := Lib.hid hW
              have hz10 : w.heap.size + 1 < w10.heap.size := HX10.out.1
              have hy10 : w.heap.size < w10.heap.size := by omega
              have hM10 : w3.heap.size ≤ w10.heap.size := by have := HS93.out; omega
              clear hX hA hW kb9 hz9 hy9 hfr9 HX9 HA9 HW9 hkB9
              have HB9 : Hid (gN + 1 ≤ maxLen ∧ (gN + 1) * 8 ≤ 140737488355328) := Lib.hid (by have h1 := HLL.out.2; have h2 := HN16.out; simp only [maxLen]; omega)
              go_wp2_with (at_builtin; refine wpList_app1K encI_len encI_one (by decide) rfl (.tmp 69) (.tmp 71) 42 3 rfl Tryz.underlying42 int_inf rfl w3.heap.size (memI l) (some ⟨gb, 0, none⟩) gN gC (by rw [memI_len]; exact HLL.out.1) rfl (HW10.out.below ((Below.refl _ _).alloc (Nat.le_refl _) _)) (some ⟨w10.heap.size, 0, none⟩) 1 1 rfl [(b : Int)] (rows_one (fun i u hu => by have h := ((LocX.fresh (enc := encI) w10 #[.int .i64 b] 3 (b : Int) rfl).2 i u hu).1; rw [Addr.add_lit, Nat.zero_add]; exact h) (by simp)) HB9.out.1 HB9.out.2 (by simp; omega) ?_; rintro O7 A7 n7 c7 w7 hO7 hn7 hown7 hb7 _; have HO7 := Lib.hid hO7; have HN7 := Lib.hid hn7; have HW7 := Lib.hid hown7; have HB7 : Hid (Below w3.heap.size w10 w7) := Lib.hid ((Qb : Below w3.heap.size w10 _).trans hb7); clear hO7 hn7 hown7 hb7)
              have hO7 := HO7.out
              have e8 : O7 = memI (l ++ [b]) := by rw [memI_app]; exact hO7
              subst e8
              have kb7 : Below w.heap.size w w7 := kbX.trans (HB7.out.mono (by omega))
              have kc8_0 := (HB7.out.cell (p := ⟨w.heap.size, 0, none⟩) (show w.heap.size < w3.heap.size by omega)).trans kc7_0
              have kc8_1 := (HB7.out.cell (p := ⟨w.heap.size, 1, none⟩) (show w.heap.size < w3.heap.size by omega)).trans kc7_1
              have kc8_2 := (HB7.out.cell (p := ⟨w.heap.size, 2, none⟩) (show w.heap.size < w3.heap.size by omega)).trans kc7_2
              have kc8_3 := (HB7.out.cell (p := ⟨w.heap.size, 3, none⟩) (show w.heap.size < w3.heap.size by omega)).trans kc7_3
              have kc8_4 := (HB7.out.cell (p := ⟨w.heap.size, 4, none⟩) (show w.heap.size < w3.heap.size by omega)).trans kc7_4
              have kc8_5 := (HB7.out.cell (p := ⟨w.heap.size, 5, none⟩) (show w.heap.size < w3.heap.size by omega)).trans kc7_5
              have kc8_6 := (HB7.out.cell (p := ⟨w.heap.size, 6, none⟩) (show w.heap.size < w3.heap.size by omega)).trans kc7_6
              have HX7 := Lib.hid (HX10.out.below HB7.out hMz)
              have HA7 := Lib.hid (HA10.out.own HB7.out hMz)
              have HL7 : Hid ((l ++ [b]).length = n7 ∧ n7 ≤ nn) := Lib.hid (by
               have h1 := HN7.out
               rw [memI_len] at h1
               have h2 := (HPU.out (by first | rfl | trivial)).s.len
               exact ⟨h1, by omega⟩)
              have hla7 : a < n7 := by have h1 := HL7.out.1; have h2 := HLL.out.1; rw [List.length_append] at h1; omega
              have HNI7 : Hid (∀ y ∈ l ++ [b], inG (G k) y = false) := Lib.hid (fun y hy => by
               rcases List.mem_append.1 hy with h1 | h1
               · exact HNI.out y h1
               · rw [List.mem_singleton.1 h1]; exact HSN2.out.2)
              go_roundw
              case rel => exact ⟨b + 1, l ++ [b], A7, n7, c7, by omega, by go_num, rfl, hla7, HL7, Lib.hid (HPU.out (by first | rfl | trivial)), HNI7, HW7, HX7, HA7, (Qk1 kb7)⟩
              case measure => simp [intOf]; omega
theorem vgroups_any (x : Wd) (w : World) (hx : WdOk w x) :
    Calls Tryz.prog 26 #[WdV x] w fun e w' => ∃ A N C gs, e = .returned (.slice A N C) ∧ gs.map Gr.mem = groupsB x ∧ GsAt w' w'.heap.size A N gs ∧ Below w.heap.size w w' :=
 (vgroups_own x w hx).mono fun e w' ⟨A, N, C, gs, he, hm, ho, hb⟩ => ⟨A, N, C, gs, he, hm, ho.gs, hb⟩
end Go.Proofs.YtkfodkbgmpbmfaaGreat
