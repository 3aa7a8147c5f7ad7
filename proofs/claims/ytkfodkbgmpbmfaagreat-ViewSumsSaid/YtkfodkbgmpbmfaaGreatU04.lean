/- Chapter 22, parts on the way: Rgp Rgq -/
import Derived.Test.YtkfodkbgmpbmfaaGreatB01
import Derived.Test.YtkfodkbgmpbmfaaGreatB02
import Derived.Test.YtkfodkbgmpbmfaaGreatB03
import Derived.Test.YtkfodkbgmpbmfaaGreatB04
import Derived.Test.YtkfodkbgmpbmfaaGreatB05
import Derived.Test.YtkfodkbgmpbmfaaGreatB06
import Derived.Test.YtkfodkbgmpbmfaaGreatB07
import Derived.Test.YtkfodkbgmpbmfaaGreatB08
import Derived.Test.YtkfodkbgmpbmfaaGreatB09
import Derived.Test.YtkfodkbgmpbmfaaGreatB10
import Derived.Test.YtkfodkbgmpbmfaaGreatB11
import Derived.Test.YtkfodkbgmpbmfaaGreatB12
import Derived.Test.YtkfodkbgmpbmfaaGreatB13
import Derived.Test.YtkfodkbgmpbmfaaGreatB14
import Derived.Test.YtkfodkbgmpbmfaaGreatB15
import Derived.Test.YtkfodkbgmpbmfaaGreatB16
import Derived.Test.YtkfodkbgmpbmfaaGreatB17
import Derived.Test.YtkfodkbgmpbmfaaGreatB18
import Derived.Test.YtkfodkbgmpbmfaaGreatB19
import Derived.Test.YtkfodkbgmpbmfaaGreatB20
import Derived.Test.YtkfodkbgmpbmfaaGreatB21
import Derived.Test.YtkfodkbgmpbmfaaGreatB22
import Derived.Test.YtkfodkbgmpbmfaaGreatB23
import Derived.Test.YtkfodkbgmpbmfaaGreatB24
import Derived.Test.YtkfodkbgmpbmfaaGreatB25
import Derived.Test.YtkfodkbgmpbmfaaGreatB26
import Derived.Test.YtkfodkbgmpbmfaaGreatB27
import Derived.Test.YtkfodkbgmpbmfaaGreatB28
import Derived.Test.YtkfodkbgmpbmfaaGreatB29
import Derived.Test.YtkfodkbgmpbmfaaGreatB30
import Derived.Test.YtkfodkbgmpbmfaaGreatB31
import Derived.Test.YtkfodkbgmpbmfaaGreatB32
import Derived.Test.YtkfodkbgmpbmfaaGreatB33
import Derived.Test.YtkfodkbgmpbmfaaGreatB34
import Derived.Test.YtkfodkbgmpbmfaaGreatB35
import Derived.Test.YtkfodkbgmpbmfaaGreatB36
import Derived.Test.YtkfodkbgmpbmfaaGreatB37
import Derived.Test.YtkfodkbgmpbmfaaGreatB38
import Derived.Test.YtkfodkbgmpbmfaaGreatB39
import Derived.Test.YtkfodkbgmpbmfaaGreatB40
import Derived.Test.YtkfodkbgmpbmfaaGreatB41
import Derived.Test.YtkfodkbgmpbmfaaGreatB42
import Derived.Test.YtkfodkbgmpbmfaaGreatU01
import Derived.Test.YtkfodkbgmpbmfaaGreatU03
set_option linter.unusedVariables false
set_option linter.unusedSimpArgs false
namespace Go.Proofs.YtkfodkbgmpbmfaaGreat
open Go.RowKit Go.Shelf
set_option linter.unusedVariables false
set_option linter.unusedSimpArgs false
set_option maxRecDepth 100000
theorem memI_app2 (l m : List Nat) : memI (l ++ m) = memI l ++ memI m := by unfold memI; simp
theorem cont_app (l m : List Nat) (j : Nat) : (l ++ m).contains j = (l.contains j || m.contains j) := by
 rw [Bool.eq_iff_iff, Bool.or_eq_true, List.contains_iff_mem, List.contains_iff_mem, List.contains_iff_mem, List.mem_append]
theorem cont_same {l m : List Nat} (h : ∀ j, j ∈ l ↔ j ∈ m) (j : Nat) : l.contains j = m.contains j := by
 rw [Bool.eq_iff_iff, List.contains_iff_mem, List.contains_iff_mem]; exact h j
theorem row_grp {n : Nat} {H : Nat → Nat → Bool} {a : Nat} {l : List Nat} (h : ∀ j, j ∈ l ↔ j ∈ grp n H a) : (List.range n).filter (fun j => l.contains j) = grp n H a := by
 refine rises_ext (List.Pairwise.filter _ List.pairwise_lt_range) (grp_rises n H a) fun x => ?_
 rw [List.mem_filter, List.mem_range]
 constructor
 · rintro ⟨_, h2⟩; exact (h x).1 (List.contains_iff_mem.1 h2)
 · intro h2; exact ⟨(mem_grp.1 h2).1, List.contains_iff_mem.2 ((h x).2 h2)⟩
theorem row_next (l : List Nat) (k : Nat) : (List.range (k + 1)).filter (fun j => l.contains j) = (List.range k).filter (fun j => l.contains j) ++ (if l.contains k = true then [k] else []) := by
 rw [List.range_succ, List.filter_append]
 congr 1
 by_cases h : l.contains k = true
 · rw [if_pos h, List.filter_cons_of_pos (p := fun j => l.contains j) h]; rfl
 · rw [if_neg h, List.filter_cons_of_neg (p := fun j => l.contains j) h]; rfl
theorem row_len (l : List Nat) (k : Nat) : ((List.range k).filter (fun j => l.contains j)).length ≤ k := by
 have := List.length_filter_le (fun j => l.contains j) (List.range k)
 simpa using this
set_option maxHeartbeats 16000000 in
theorem rgroups_any (x : Wd) (w : World) (hx : WdOk w x) :
    Calls Tryz.prog 27 #[WdV x] w fun e w' => ∃ A N C gs, e = .returned (.slice A N C) ∧ gs.map Gr.mem = groupsB x ∧ GsAt w' w'.heap.size A N gs ∧ Below w.heap.size w w' := by
 have HUP := Lib.hid (fun k (hk : k < x.nn) => hx.up hk)
 have HND := Lib.hid (fun k (hk : k < x.nn) => hx.nd hk)
 have HUN : Hid (x.un = x.nn) := Lib.hid hx.len.2
 have CH := Lib.hid (fun (a b : Nat) W (hb : Below w.heap.size w W) => (show Calls Tryz.prog 14 #[WdV x, .int .i64 a, .int .i64 b] W fun e w' => e = .returned (.bool (heldN x a b)) ∧ Below W.heap.size W w' from rheld_any x a b W (hx.below hb)))
 have HL := Lib.hid (show x.nds.length = x.nn ∧ x.nn ≤ 16 from ⟨hx.len.1, by have := hx.len.1; have := hx.fit.n1; omega⟩)
 have HGE : Hid (groupsB x = grps x.nn (heldN x) (upB x) x.nn) := Lib.hid (by unfold groupsB; rw [HL.out.1])
 have HSY := Lib.hid (fun a b => heldN_symm x a b)
 rw [HGE.out]
 clear HGE
 have HUB : Hid (∀ k, k < x.nn → ∃ ad, x.ua = some ad ∧ (ad.add k).block < w.heap.size ∧ w.cell? (ad.add k) = some (.bool (upB x k))) := Lib.hid (fun k hk => by
  obtain ⟨adu, b, hA2, habu, hub, hcu⟩ := HUP.out k hk
  obtain ⟨ad, y, hA, hab, hy, _, _⟩ := HND.out k hk
  have e : upB x k = b := by unfold upB; rw [upN_at (by rw [HL.out.1]; exact hk) hub hy]; cases b <;> rfl
  exact ⟨adu, hA2, habu, by rw [e]; exact hcu⟩)
 clear hx HUP HND
 generalize heldN x = H at CH HSY ⊢
 generalize upB x = up at HUB ⊢
 obtain ⟨na, nn, nc, ua, un, uc, da, dn, dc, nx, la, ll, lc, sa, sl, sc, lost, nds, ups⟩ := x
 simp only [] at HUB HUN CH HL ⊢
 obtain ⟨G, hG⟩ : ∃ G : Nat → List (List Nat), G = grps nn H up := ⟨_, rfl⟩
 have HG0 : Hid (G 0 = []) := Lib.hid (by rw [hG]; rfl)
 have HGN : Hid (∀ k, up k = false ∨ inG (G k) k = true → G (k + 1) = G k) := Lib.hid (fun k h => by rw [hG] at h ⊢; exact grps_next_no h)
 have HGY : Hid (∀ k, up k = true → inG (G k) k = false → G (k + 1) = G k ++ [grp nn H k]) := Lib.hid (fun k h h2 => by rw [hG] at h2 ⊢; exact grps_next_yes h h2)
 have HGL : Hid (∀ k, (G k).length ≤ k) := Lib.hid (fun k => by rw [hG]; exact grps_len nn H up k)
 rw [← hG]
 clear hG HSY
 have HN16 : Hid (nn ≤ 16) := Lib.hid HL.out.2
 go_enter Tryz.func27, Tryz.ntmps27
 go_wp2
 go_loopw [5, 3, 4] (fun i l s w' => ∃ (k : Nat) (A : Option Addr) (N C : Nat) (gs : List Gr) (sA : Option Addr) (sN sC : Nat) (ss : List Nat), k ≤ nn ∧ i = .int .i64 k ∧ l = .slice A N C ∧ s = .slice sA sN sC ∧ Hid (gs.length = N) ∧ Hid (gs.map Gr.mem = G k) ∧ Hid (OutAt w' (w.heap.size + 1) (.slice A N C) (.slice sA sN sC) gs) ∧ Hid (OwnE encI 1 3 w' (w.heap.size + 1) (.slice sA sN sC) (memI ss)) ∧ Hid (ss.length = sN) ∧ Hid (ss.length ≤ k * 16) ∧ Hid (∀ j, ss.contains j = inG (G k) j) ∧ KeptC w [(⟨w.heap.size, 0, none⟩, .slice na nn nc), (⟨w.heap.size, 1, none⟩, .slice ua un uc), (⟨w.heap.size, 2, none⟩, .slice da dn dc), (⟨w.heap.size, 3, none⟩, .int .i64 nx), (⟨w.heap.size, 4, none⟩, .slice la ll lc), (⟨w.heap.size, 5, none⟩, .slice sa sl sc), (⟨w.heap.size, 6, none⟩, .int .i64 lost)] [] w') (fun i _ _ _ => nn - (intOf i).toNat)
 case atStart => exact ⟨0, none, 0, 0, [], none, 0, 0, [], Nat.zero_le _, rfl, rfl, rfl, Lib.hid rfl, Lib.hid (by rw [HG0.out]; rfl), Lib.hid (OutAt.nil _ _), Lib.hid (OwnE.nil _ _ _), Lib.hid rfl, Lib.hid (Nat.zero_le _), Lib.hid (fun j => by rw [HG0.out]; rfl), Qk⟩
 case round =>
  obtain ⟨k, A, N, C, gs, sA, sN, sC, ss, hk, rfl, rfl, rfl, HLn, HMM, HO, HS, HSN, HS16, HSC, hK⟩ := hrel
  simp only [KeptC, List.forall_mem_cons] at hK; obtain ⟨kb1, ⟨kc1_0, kc1_1, kc1_2, kc1_3, kc1_4, kc1_5, kc1_6, _⟩, _⟩ := hK
  have hs1 := kb1.size
  have hz1 : w.heap.size < wr.heap.size := cell_lt kc1_0
  by_cases hlt : k < nn
  rotate_left
  · obtain rfl : k = nn := by omega
    go_wp2
    go_ret
    exact ⟨A, N, C, gs, rfl, HMM.out, HO.out.gs, kb1⟩
  · obtain ⟨w1, h⟩ : ∃ w1, w1 = wr := ⟨_, rfl⟩
    subst h
    have hwk : IntKind.i64.wrap ((k : Int) + 1) = (k : Int) + 1 := by rw [IntKind.wrap_i64]; have := HN16.out; omega
    have hku : k < un := by have := HUN.out; omega
    obtain ⟨adu, hua, habu, hcu⟩ := HUB.out k hlt
    subst hua
    have u0 : w1.cell? (adu.add k) = some (.bool (up k)) := (kb1.cell habu).trans hcu
    have HGN2 := Lib.hid (HGN.out k)
    have HGY2 := Lib.hid (HGY.out k)
    have HS700 : Hid (ss.length ≤ 256) := Lib.hid (by have h1 := HS16.out; have h2 := HN16.out; omega)
    have HRS : Hid (RowsE encI 1 w1 w1.heap.size sA sN (memI ss)) := Lib.hid (by
     obtain ⟨A4, c4, e, h⟩ := OwnE.at_ encI_len HS.out
     injection e with e1 e2 e3
     rw [e1, ← HSN.out, ← memI_len ss]
     exact h)
    have CHS := Lib.hid (rhas_anyB sA sN sC (memI ss) k w1 HRS.out (by have h1 := HSN.out; have h2 := HS700.out; omega))
    rw [memI_cont, HSC.out k] at CHS
    clear hcu habu
    generalize up k = ok at u0 HGN2 HGY2
    cases ok with
    | false =>
     have HNX := Lib.hid (HGN2.out (.inl rfl))
     clear HGN2 HGY2 CHS
     go_wp2
     go_roundw
     case rel => exact ⟨k + 1, A, N, C, gs, sA, sN, sC, ss, by omega, by go_num, rfl, rfl, HLn, Lib.hid (by rw [HNX.out]; exact HMM.out), HO, HS, HSN, Lib.hid (by have := HS16.out; omega), Lib.hid (by rw [HNX.out]; exact HSC.out), (Qk1 kb1)⟩
     case measure => simp [intOf]; omega
    | true =>
     cases hin : inG (G k) k with
     | true =>
      rw [hin] at CHS
      have HNX := Lib.hid (HGN2.out (.inr hin))
      clear HGN2 HGY2 hin
      go_wp2_with (fail)
      refine CHS.out.mono ?_; rintro e w2 ⟨rfl, hb2⟩
      have hk2 : KeptC w [(⟨w.heap.size, 0, none⟩, .slice na nn nc), (⟨w.heap.size, 1, none⟩, .slice (some adu) un uc), (⟨w.heap.size, 2, none⟩, .slice da dn dc), (⟨w.heap.size, 3, none⟩, .int .i64 nx), (⟨w.heap.size, 4, none⟩, .slice la ll lc), (⟨w.heap.size, 5, none⟩, .slice sa sl sc), (⟨w.heap.size, 6, none⟩, .int .i64 lost)] [] w2 := by
       refine KeptC.below ?_ hb2
       exact Qk1 kb1
      simp only [KeptC, List.forall_mem_cons] at hk2; obtain ⟨kb2, ⟨kc2_0, kc2_1, kc2_2, kc2_3, kc2_4, kc2_5, kc2_6, _⟩, _⟩ := hk2
      have HO2 := Lib.hid (HO.out.below hb2)
      have HS2 := Lib.hid (HS.out.below hb2)
      clear hb2 CHS kc1_0 kc1_1 kc1_2 kc1_3 kc1_4 kc1_5 kc1_6 u0 kb1
      go_wp2
      go_roundw
      case rel => exact ⟨k + 1, A, N, C, gs, sA, sN, sC, ss, by omega, by go_num, rfl, rfl, HLn, Lib.hid (by rw [HNX.out]; exact HMM.out), HO2, HS2, HSN, Lib.hid (by have := HS16.out; omega), Lib.hid (by rw [HNX.out]; exact HSC.out), (Qk1 kb2)⟩
      case measure => simp [intOf]; omega
     | false =>
      rw [hin] at CHS
      have HNX := Lib.hid (HGY2.out rfl hin)
      clear HGN2 HGY2 hin
      go_wp2_with (fail)
      refine CHS.out.mono ?_; rintro e w3 ⟨rfl, hb3⟩
      have hk3 : KeptC w [(⟨w.heap.size, 0, none⟩, .slice na nn nc), (⟨w.heap.size, 1, none⟩, .slice (some adu) un uc), (⟨w.heap.size, 2, none⟩, .slice da dn dc), (⟨w.heap.size, 3, none⟩, .int .i64 nx), (⟨w.heap.size, 4, none⟩, .slice la ll lc), (⟨w.heap.size, 5, none⟩, .slice sa sl sc), (⟨w.heap.size, 6, none⟩, .int .i64 lost)] [] w3 := by
       refine KeptC.below ?_ hb3
       exact Qk1 kb1
      simp only [KeptC, List.forall_mem_cons] at hk3; obtain ⟨kb3, ⟨kc3_0, kc3_1, kc3_2, kc3_3, kc3_4, kc3_5, kc3_6, _⟩, _⟩ := hk3
      have hz3 : w.heap.size < w3.heap.size := cell_lt kc3_0
      have HO3 := Lib.hid (HO.out.below hb3)
      have HS3 := Lib.hid (HS.out.below hb3)
      clear hb3 CHS kc1_0 kc1_1 kc1_2 kc1_3 kc1_4 kc1_5 kc1_6 u0 kb1 hs1 hz1 HO HS HRS
      go_upto_region 8 with (fail)
      refine lay1 (fun W => (W.cell? ⟨w.heap.size, 0, none⟩ = some (.slice na nn nc) ∧ W.cell? ⟨w.heap.size, 1, none⟩ = some (.slice (some adu) un uc) ∧ W.cell? ⟨w.heap.size, 2, none⟩ = some (.slice da dn dc) ∧ W.cell? ⟨w.heap.size, 3, none⟩ = some (.int .i64 nx) ∧ W.cell? ⟨w.heap.size, 4, none⟩ = some (.slice la ll lc) ∧ W.cell? ⟨w.heap.size, 5, none⟩ = some (.slice sa sl sc) ∧ W.cell? ⟨w.heap.size, 6, none⟩ = some (.int .i64 lost)) ∧ Below w3.heap.size w3 W ∧ OwnE encI 1 3 W w3.heap.size (.slice (some ⟨w3.heap.size, 0, none⟩) 1 1) (memI [k])) ⟨⟨by go_simp, by go_simp, by go_simp, by go_simp, by go_simp, by go_simp, by go_simp⟩, Qb, ?_⟩ ?_
      · have h := World.ownsRow_lit (base := w3.heap.size) (e := 3) (size := 1) w3 #[.int .i64 k] 1 (Nat.le_refl _) (by decide) rfl
        exact h
      rintro w4 ⟨⟨kc4_0, kc4_1, kc4_2, kc4_3, kc4_4, kc4_5, kc4_6⟩, hA4, hW4⟩
      have HA4 := Lib.hid hA4; have HW4 := Lib.hid hW4
      have kb4 : Below w.heap.size w w4 := kb3.trans (hA4.mono kb3.size)
      have hz4 : w.heap.size < w4.heap.size := cell_lt kc4_0
      have hz3b := hz3
      clear hA4 hW4 kc3_0 kc3_1 kc3_2 kc3_3 kc3_4 kc3_5 kc3_6 kb3 hz3
      go_wp2
      go_loopw [7, 6] (fun i g w' => ∃ (a : Nat) (l : List Nat) (gA : Option Addr) (gN gC : Nat), a ≤ gN ∧ i = .int .i64 a ∧ g = .slice gA gN gC ∧ Hid (l.length = gN ∧ gN ≤ nn) ∧ Hid (Srch nn H k l a) ∧ Hid (OwnE encI 1 3 w' w3.heap.size (.slice gA gN gC) (memI l)) ∧ Hid (Below w3.heap.size w3 w') ∧ KeptC w [(⟨w.heap.size, 0, none⟩, .slice na nn nc), (⟨w.heap.size, 1, none⟩, .slice (some adu) un uc), (⟨w.heap.size, 2, none⟩, .slice da dn dc), (⟨w.heap.size, 3, none⟩, .int .i64 nx), (⟨w.heap.size, 4, none⟩, .slice la ll lc), (⟨w.heap.size, 5, none⟩, .slice sa sl sc), (⟨w.heap.size, 6, none⟩, .int .i64 lost)] [] w') (fun i _ _ => nn - (intOf i).toNat)
      case atStart => exact ⟨0, [k], some ⟨w3.heap.size, 0, none⟩, 1, 1, Nat.zero_le _, rfl, rfl, Lib.hid ⟨rfl, by omega⟩, Lib.hid (Srch.start hlt), HW4, HA4, (Qk1 kb4)⟩
      case round =>
       obtain ⟨a, l, gA, gN, gC, ha, rfl, rfl, HLL, HSR, HW, HA, hK⟩ := hrel
       clear kb4 hz4 kc4_0 kc4_1 kc4_2 kc4_3 kc4_4 kc4_5 kc4_6 HA4 HW4
       simp only [KeptC, List.forall_mem_cons] at hK; obtain ⟨kb5, ⟨kc5_0, kc5_1, kc5_2, kc5_3, kc5_4, kc5_5, kc5_6, _⟩, _⟩ := hK
       have hs5 := kb5.size
       have hz5 : w.heap.size < wr.heap.size := cell_lt kc5_0
       obtain ⟨w5, h⟩ : ∃ w5, w5 = wr := ⟨_, rfl⟩
       subst h
       by_cases hla : a < gN
       rotate_left
       · obtain rfl : a = gN := by omega
         have hg0 : 0 < a := by
          have h1 := HLL.out.1
          have h2 := List.length_pos_of_mem HSR.out.fst
          omega
         obtain ⟨gb, rfl, hgM, hgw, hgr, hgc⟩ := HW.out.gr hg0 HLL.out.1
         have HMG : Hid (∀ j, j ∈ l ↔ j ∈ grp nn H k) := Lib.hid (fun j => HSR.out.end_ (Nat.le_of_eq HLL.out.1) j)
         have HO5 := Lib.hid (HO3.out.below HA.out)
         have HS5 := Lib.hid (HS3.out.below HA.out)
         have HGR := Lib.hid hgr
         have HSL : Hid (∀ b, (Value.slice sA sN sC).ownBlock = some b → b < w3.heap.size) := Lib.hid (fun b hb => (HS3.out.lt hb).2)
         have HOL : Hid (∀ b, (Value.slice A N C).ownBlock = some b → b < w3.heap.size) := Lib.hid (fun b hb => (HO3.out.own.lt hb).2)
         have HGB : Hid (w3.heap.size ≤ gb ∧ gb < w5.heap.size) := Lib.hid ⟨hgM, hgw⟩
         have HB8 : Hid (sN + a ≤ maxLen ∧ (sN + a) * 8 ≤ 140737488355328) := Lib.hid (by
          have h1 := HSN.out; have h2 := HS700.out; have h3 := HLL.out.2; have h4 := HN16.out
          simp only [maxLen]; omega)
         clear hgr hgM
         go_upto_region 17 with (at_builtin; refine wpList_app1K encI_len encI_one (by decide) rfl (.tmp 61) (.tmp 62) 42 3 rfl Tryz.underlying42 int_inf rfl (w.heap.size + 1) (memI ss) sA sN sC (by rw [memI_len]; exact HSN.out) rfl HS5.out (some ⟨gb, 0, none⟩) a gC rfl (memI l) HGR.out HB8.out.1 HB8.out.2 (by omega) ?_; rintro O6 A6 n6 c6 w6 hO6 hn6 hown6 hb6 hkp6; have HO6e := Lib.hid hO6; have HN6 := Lib.hid hn6; have HS6 := Lib.hid hown6; have HKP6 := Lib.hid hkp6; have HB6 := Lib.hid hb6; clear hO6 hn6 hown6 hb6 hkp6)
         have hO6 := HO6e.out
         have e6 : O6 = memI (ss ++ l) := by rw [memI_app2]; exact hO6
         subst e6
         have HO6 := Lib.hid (HO5.out.other HB6.out.size HKP6.out)
         have HG6 : Hid (RowsE encI 1 w6 w6.heap.size (some ⟨gb, 0, none⟩) a (memI l)) := Lib.hid (HGR.out.blk (HKP6.out gb HGB.out.2 (fun e => by have h1 := HSL.out gb e; have h2 := HGB.out.1; omega)).1 (by have h1 := HGB.out.2; have h2 := HB6.out.size; omega))
         have HNW5 : Hid (w5.heap.size ≤ w6.heap.size) := Lib.hid HB6.out.size
         have kb6 : Below w.heap.size w w6 := kb5.trans (HB6.out.mono (by omega))
         have kc6_0 := (HB6.out.cell (p := ⟨w.heap.size, 0, none⟩) (show w.heap.size < w.heap.size + 1 by omega)).trans kc5_0
         have kc6_1 := (HB6.out.cell (p := ⟨w.heap.size, 1, none⟩) (show w.heap.size < w.heap.size + 1 by omega)).trans kc5_1
         have kc6_2 := (HB6.out.cell (p := ⟨w.heap.size, 2, none⟩) (show w.heap.size < w.heap.size + 1 by omega)).trans kc5_2
         have kc6_3 := (HB6.out.cell (p := ⟨w.heap.size, 3, none⟩) (show w.heap.size < w.heap.size + 1 by omega)).trans kc5_3
         have kc6_4 := (HB6.out.cell (p := ⟨w.heap.size, 4, none⟩) (show w.heap.size < w.heap.size + 1 by omega)).trans kc5_4
         have kc6_5 := (HB6.out.cell (p := ⟨w.heap.size, 5, none⟩) (show w.heap.size < w.heap.size + 1 by omega)).trans kc5_5
         have kc6_6 := (HB6.out.cell (p := ⟨w.heap.size, 6, none⟩) (show w.heap.size < w.heap.size + 1 by omega)).trans kc5_6
         have hz6 : w.heap.size < w6.heap.size := cell_lt kc6_0
         have CHL := Lib.hid (fun (j : Nat) W (hb : Below w6.heap.size w6 W) => rhas_anyB (some ⟨gb, 0, none⟩) a gC (memI l) j W ((HG6.out.below hb).more hb.size) (by have h3 := HLL.out.2; have h4 := HN16.out; omega))
         clear kb5 hz5 hs5 kc5_0 kc5_1 kc5_2 kc5_3 kc5_4 kc5_5 kc5_6 HA HW
         go_wp2
         go_loopw [10, 9] (fun i r w' => ∃ (b : Nat) (rA : Option Addr) (rN rC : Nat), b ≤ nn ∧ i = .int .i64 b ∧ r = .slice rA rN rC ∧ Hid (((List.range b).filter fun j => l.contains j).length = rN) ∧ Hid (OwnE encI 1 3 w' w6.heap.size (.slice rA rN rC) (memI ((List.range b).filter fun j => l.contains j))) ∧ Hid (Below w6.heap.size w6 w') ∧ KeptC w [(⟨w.heap.size, 0, none⟩, .slice na nn nc), (⟨w.heap.size, 1, none⟩, .slice (some adu) un uc), (⟨w.heap.size, 2, none⟩, .slice da dn dc), (⟨w.heap.size, 3, none⟩, .int .i64 nx), (⟨w.heap.size, 4, none⟩, .slice la ll lc), (⟨w.heap.size, 5, none⟩, .slice sa sl sc), (⟨w.heap.size, 6, none⟩, .int .i64 lost)] [] w') (fun i _ _ => nn - (intOf i).toNat)
         case atStart => exact ⟨0, none, 0, 0, Nat.zero_le _, rfl, rfl, Lib.hid rfl, Lib.hid (OwnE.nil _ _ _), Lib.hid (Below.refl _ _), (Qk1 kb6)⟩
         case round =>
          obtain ⟨b, rA, rN, rC, hb, rfl, rfl, HRN, HRO, HBR, hK⟩ := hrel
          clear kc6_0 kc6_1 kc6_2 kc6_3 kc6_4 kc6_5 kc6_6
          simp only [KeptC, List.forall_mem_cons] at hK; obtain ⟨kb7, ⟨kc7_0, kc7_1, kc7_2, kc7_3, kc7_4, kc7_5, kc7_6, _⟩, _⟩ := hK
          have hs7 := kb7.size
          have hz7 : w.heap.size < wr.heap.size := cell_lt kc7_0
          obtain ⟨w7, h⟩ : ∃ w7, w7 = wr := ⟨_, rfl⟩
          subst h
          by_cases hlb : b < nn
          rotate_left
          · have hbn : nn = b := by omega
            subst hbn
            have HRG := Lib.hid (row_grp HMG.out)
            rw [HRG.out] at HRN HRO
            have hr0 : 0 < rN := by
             rw [← HRN.out]
             exact List.length_pos_of_mem (mem_grp.2 ⟨hlt, Rch.refl _ _ _⟩)
            obtain ⟨rb, rfl, hrM, hrw, hrr, hrc⟩ := HRO.out.gr hr0 HRN.out
            have HO7 := Lib.hid (HO6.out.below HBR.out)
            have HS7 := Lib.hid (HS6.out.below HBR.out)
            have HR6 := Lib.hid hrM
            have HB9 : Hid (N + 1 ≤ maxLen ∧ (N + 1) * 24 ≤ 140737488355328) := Lib.hid (by
             have h1 := HLn.out
             have h2 := HGL.out k
             rw [← HMM.out, List.length_map, h1] at h2
             have h3 := HN16.out
             simp only [maxLen]; omega)
            clear hrr hrM
            go_wp2_with (at_builtin; refine wpList_app1K encG_len encG_one (by decide) rfl (.tmp 78) (.tmp 80) 50 42 rfl Tryz.underlying50 slint_inf rfl (w.heap.size + 1) gs A N C HLn.out rfl ((HO7.out.below ((Below.refl _ _).alloc (Nat.le_refl _) _)).own) (some ⟨w7.heap.size, 0, none⟩) 1 1 rfl [⟨some ⟨rb, 0, none⟩, rN, rC, grp nn H k⟩] (rows_one (fun i u hu => by have h := ((LocX.fresh (enc := encG) w7 #[.slice (some ⟨rb, 0, none⟩) rN rC] 42 ⟨some ⟨rb, 0, none⟩, rN, rC, grp nn H k⟩ rfl).2 i u hu).1; rw [Addr.add_lit, Nat.zero_add]; exact h) (by simp)) HB9.out.1 HB9.out.2 (by simp; omega) ?_; rintro O8 A8 n8 c8 w8 hO8 hn8 hown8 hb8 hkp8; have HO8e := Lib.hid hO8; have HN8 := Lib.hid hn8; have HW8 := Lib.hid hown8; have HKP8 := Lib.hid hkp8; have HB8b := Lib.hid hb8; have HB8c : Hid (Below (w.heap.size + 1) w7 w8) := Lib.hid ((Qb : Below (w.heap.size + 1) w7 _).trans hb8); clear hO8 hn8 hown8 hb8 hkp8)
            have hO8 := HO8e.out
            subst hO8
            have hal : Below w7.heap.size w7 (w7.alloc (.cells #[.slice (some ⟨rb, 0, none⟩) rN rC] 42)) := (Below.refl _ _).alloc (Nat.le_refl _) _
            have HFO : Hid (∀ b, (Value.slice A N C).ownBlock = some b → b < w6.heap.size) := Lib.hid (fun b hb => (HO6.out.own.lt hb).2)
            have HFS : Hid (∀ b, (Value.slice A6 n6 c6).ownBlock = some b → b < w6.heap.size) := Lib.hid (fun b hb => (HS6.out.lt hb).2)
            have HOK : Hid (OutAt w8 (w.heap.size + 1) (.slice A8 n8 c8) (.slice A6 n6 c6) (gs ++ [⟨some ⟨rb, 0, none⟩, rN, rC, grp nn H k⟩])) := Lib.hid (by
             have ho := HO7.out.below hal
             have hwl := HRO.out.below hal
             obtain ⟨b2, e2, hb1, hb2, hb3, hb4⟩ := hwl.gr hr0 HRN.out
             injection e2 with e2
             injection e2 with e2 _
             subst e2
             refine ho.push (w' := w8) ⟨rb, rfl, ?_, hb2, ?_, ?_, hb3, hb4⟩ HB8b.out.size HW8.out HKP8.out ?_
             · omega
             · intro e
               have h1 := HFO.out _ e
               omega
             · intro e
               have h1 := HFS.out _ e
               omega
             · intro b e
               have h1 := HFS.out _ e
               omega)
            have HS8 : Hid (OwnE encI 1 3 w8 (w.heap.size + 1) (.slice A6 n6 c6) (memI (ss ++ l))) := Lib.hid (by
             refine (HS7.out.below hal).blk fun b hb hv => ?_
             exact (HKP8.out b hb (fun e => HO6.out.far b e hv)).1)
            have kb8 : Below w.heap.size w w8 := kb7.trans (HB8c.out.mono (by omega))
            have kc8_0 := (HB8c.out.cell (p := ⟨w.heap.size, 0, none⟩) (show w.heap.size < w.heap.size + 1 by omega)).trans kc7_0
            have kc8_1 := (HB8c.out.cell (p := ⟨w.heap.size, 1, none⟩) (show w.heap.size < w.heap.size + 1 by omega)).trans kc7_1
            have kc8_2 := (HB8c.out.cell (p := ⟨w.heap.size, 2, none⟩) (show w.heap.size < w.heap.size + 1 by omega)).trans kc7_2
            have kc8_3 := (HB8c.out.cell (p := ⟨w.heap.size, 3, none⟩) (show w.heap.size < w.heap.size + 1 by omega)).trans kc7_3
            have kc8_4 := (HB8c.out.cell (p := ⟨w.heap.size, 4, none⟩) (show w.heap.size < w.heap.size + 1 by omega)).trans kc7_4
            have kc8_5 := (HB8c.out.cell (p := ⟨w.heap.size, 5, none⟩) (show w.heap.size < w.heap.size + 1 by omega)).trans kc7_5
            have kc8_6 := (HB8c.out.cell (p := ⟨w.heap.size, 6, none⟩) (show w.heap.size < w.heap.size + 1 by omega)).trans kc7_6
            have HM8 : Hid ((gs ++ [(⟨some ⟨rb, 0, none⟩, rN, rC, grp nn H k⟩ : Gr)]).map Gr.mem = G (k + 1)) := Lib.hid (by rw [HNX.out, List.map_append, HMM.out]; rfl)
            have HSN8 : Hid ((ss ++ l).length = n6) := Lib.hid (by have := HN6.out; rwa [memI_len] at this)
            have HS168 : Hid ((ss ++ l).length ≤ (k + 1) * 16) := Lib.hid (by have h1 := HS16.out; have h2 := HLL.out; have h3 := HN16.out; rw [List.length_append]; omega)
            have HSC8 : Hid (∀ j, (ss ++ l).contains j = inG (G (k + 1)) j) := Lib.hid (fun j => by rw [HNX.out, inG_app, cont_app, HSC.out j, cont_same HMG.out j])
            go_roundw
            case rel => exact ⟨k + 1, A8, n8, c8, _, A6, n6, c6, ss ++ l, by omega, by go_num, rfl, rfl, HN8, HM8, HOK, HS8, HSN8, HS168, HSC8, (Qk1 kb8)⟩
            case measure => simp [intOf]; omega
          · have hwb : IntKind.i64.wrap ((b : Int) + 1) = (b : Int) + 1 := by rw [IntKind.wrap_i64]; have := HN16.out; omega
            have HRX := Lib.hid (row_next l b)
            have CH8 := Lib.hid (CHL.out b w7 HBR.out)
            rw [memI_cont] at CH8
            have HRL := Lib.hid (row_len l b)
            cases hc : l.contains b with
            | false =>
             rw [hc] at CH8
             have HRE : Hid (((List.range (b + 1)).filter fun j => l.contains j) = ((List.range b).filter fun j => l.contains j)) := Lib.hid (by rw [HRX.out, hc]; simp)
             clear hc
             go_wp2_with (fail)
             refine CH8.out.mono ?_; rintro e w8 ⟨rfl, hb8⟩
             have hk8 : KeptC w [(⟨w.heap.size, 0, none⟩, .slice na nn nc), (⟨w.heap.size, 1, none⟩, .slice (some adu) un uc), (⟨w.heap.size, 2, none⟩, .slice da dn dc), (⟨w.heap.size, 3, none⟩, .int .i64 nx), (⟨w.heap.size, 4, none⟩, .slice la ll lc), (⟨w.heap.size, 5, none⟩, .slice sa sl sc), (⟨w.heap.size, 6, none⟩, .int .i64 lost)] [] w8 := by
              refine KeptC.below ?_ hb8
              exact Qk1 kb7
             simp only [KeptC, List.forall_mem_cons] at hk8; obtain ⟨kb8, ⟨kc8_0, kc8_1, kc8_2, kc8_3, kc8_4, kc8_5, kc8_6, _⟩, _⟩ := hk8
             have HRO8 := Lib.hid (HRO.out.below hb8)
             have HBR8 := Lib.hid (HBR.out.trans (hb8.mono HBR.out.size))
             clear hb8 CH8 kc7_0 kc7_1 kc7_2 kc7_3 kc7_4 kc7_5 kc7_6
             go_wp2
             go_roundw
             case rel => exact ⟨b + 1, rA, rN, rC, by omega, by go_num, rfl, Lib.hid (by rw [HRE.out]; exact HRN.out), Lib.hid (by rw [HRE.out]; exact HRO8.out), HBR8, (Qk1 kb8)⟩
             case measure => simp [intOf]; omega
            | true =>
             rw [hc] at CH8
             have HRE : Hid (((List.range (b + 1)).filter fun j => l.contains j) = ((List.range b).filter fun j => l.contains j) ++ [b]) := Lib.hid (by rw [HRX.out, hc]; simp)
             clear hc
             generalize ((List.range b).filter fun j => l.contains j) = R0 at HRN HRO HRE HRL
             go_wp2_with (fail)
             refine CH8.out.mono ?_; rintro e w8 ⟨rfl, hb8⟩
             have hk8 : KeptC w [(⟨w.heap.size, 0, none⟩, .slice na nn nc), (⟨w.heap.size, 1, none⟩, .slice (some adu) un uc), (⟨w.heap.size, 2, none⟩, .slice da dn dc), (⟨w.heap.size, 3, none⟩, .int .i64 nx), (⟨w.heap.size, 4, none⟩, .slice la ll lc), (⟨w.heap.size, 5, none⟩, .slice sa sl sc), (⟨w.heap.size, 6, none⟩, .int .i64 lost)] [] w8 := by
              refine KeptC.below ?_ hb8
              exact Qk1 kb7
             simp only [KeptC, List.forall_mem_cons] at hk8; obtain ⟨kb8, ⟨kc8_0, kc8_1, kc8_2, kc8_3, kc8_4, kc8_5, kc8_6, _⟩, _⟩ := hk8
             have hz8 : w.heap.size < w8.heap.size := cell_lt kc8_0
             have HRO8 := Lib.hid (HRO.out.below hb8)
             have HBR8 := Lib.hid (HBR.out.trans (hb8.mono HBR.out.size))
             have HSZ8 : Hid (w6.heap.size ≤ w8.heap.size) := Lib.hid HBR8.out.size
             have hsz8 := HSZ8.out
             clear hb8 CH8 kc7_0 kc7_1 kc7_2 kc7_3 kc7_4 kc7_5 kc7_6
             have HB9 : Hid (rN + 1 ≤ maxLen ∧ (rN + 1) * 8 ≤ 140737488355328) := Lib.hid (by have h1 := HRN.out; have h2 := HRL.out; have h3 := HN16.out; simp only [maxLen]; omega)
             go_wp2_with (at_builtin; refine wpList_app1K encI_len encI_one (by decide) rfl (.tmp 74) (.tmp 76) 42 3 rfl Tryz.underlying42 int_inf rfl w6.heap.size (memI R0) rA rN rC (by rw [memI_len]; exact HRN.out) rfl (HRO8.out.below ((Below.refl _ _).alloc (Nat.le_refl _) _)) (some ⟨w8.heap.size, 0, none⟩) 1 1 rfl [(b : Int)] (rows_one (fun i u hu => by have h := ((LocX.fresh (enc := encI) w8 #[.int .i64 b] 3 (b : Int) rfl).2 i u hu).1; rw [Addr.add_lit, Nat.zero_add]; exact h) (by simp)) HB9.out.1 HB9.out.2 (by have := HSZ8.out; simp; omega) ?_; rintro O9 A9 n9 c9 w9 hO9 hn9 hown9 hb9 _; have HO9 := Lib.hid hO9; have HN9 := Lib.hid hn9; have HW9 := Lib.hid hown9; have HB9b : Hid (Below w6.heap.size w8 w9) := Lib.hid ((Qb : Below w6.heap.size w8 _).trans hb9); clear hO9 hn9 hown9 hb9)
             have hO9 := HO9.out
             have e9 : O9 = memI (R0 ++ [b]) := by rw [memI_app]; exact hO9
             subst e9
             have HBR9 := Lib.hid (HBR8.out.trans HB9b.out)
             have kb9 : Below w.heap.size w w9 := kb8.trans (HB9b.out.mono (by have := HNW5.out; omega))
             have kc9_0 := (HB9b.out.cell (p := ⟨w.heap.size, 0, none⟩) (show w.heap.size < w6.heap.size by have := HNW5.out; omega)).trans kc8_0
             have kc9_1 := (HB9b.out.cell (p := ⟨w.heap.size, 1, none⟩) (show w.heap.size < w6.heap.size by have := HNW5.out; omega)).trans kc8_1
             have kc9_2 := (HB9b.out.cell (p := ⟨w.heap.size, 2, none⟩) (show w.heap.size < w6.heap.size by have := HNW5.out; omega)).trans kc8_2
             have kc9_3 := (HB9b.out.cell (p := ⟨w.heap.size, 3, none⟩) (show w.heap.size < w6.heap.size by have := HNW5.out; omega)).trans kc8_3
             have kc9_4 := (HB9b.out.cell (p := ⟨w.heap.size, 4, none⟩) (show w.heap.size < w6.heap.size by have := HNW5.out; omega)).trans kc8_4
             have kc9_5 := (HB9b.out.cell (p := ⟨w.heap.size, 5, none⟩) (show w.heap.size < w6.heap.size by have := HNW5.out; omega)).trans kc8_5
             have kc9_6 := (HB9b.out.cell (p := ⟨w.heap.size, 6, none⟩) (show w.heap.size < w6.heap.size by have := HNW5.out; omega)).trans kc8_6
             go_roundw
             case rel => exact ⟨b + 1, A9, n9, c9, by omega, by go_num, rfl, Lib.hid (by rw [HRE.out]; have h1 := HN9.out; rwa [memI_len] at h1), Lib.hid (by rw [HRE.out]; exact HW9.out), HBR9, (Qk1 kb9)⟩
             case measure => simp [intOf]; omega
       · obtain ⟨x, hxa⟩ : ∃ x, l[a]? = some x := ⟨_, List.getElem?_eq_getElem (by rw [HLL.out.1]; exact hla)⟩
         have hwa : IntKind.i64.wrap ((a : Int) + 1) = (a : Int) + 1 := by rw [IntKind.wrap_i64]; have := HLL.out.2; have := HN16.out; omega
         have HAK : Hid (Ask nn H k l a x 0) := Lib.hid (HSR.out.ask hxa)
         clear hxa HSR
         go_wp2
         go_loopw [8, 6] (fun j g w' => ∃ (b : Nat) (l : List Nat) (gA : Option Addr) (gN gC : Nat), b ≤ nn ∧ j = .int .i64 b ∧ g = .slice gA gN gC ∧ a < gN ∧ Hid (l.length = gN ∧ gN ≤ nn) ∧ Hid (Ask nn H k l a x b) ∧ Hid (OwnE encI 1 3 w' w3.heap.size (.slice gA gN gC) (memI l)) ∧ Hid (Below w3.heap.size w3 w') ∧ KeptC w [(⟨w.heap.size, 0, none⟩, .slice na nn nc), (⟨w.heap.size, 1, none⟩, .slice (some adu) un uc), (⟨w.heap.size, 2, none⟩, .slice da dn dc), (⟨w.heap.size, 3, none⟩, .int .i64 nx), (⟨w.heap.size, 4, none⟩, .slice la ll lc), (⟨w.heap.size, 5, none⟩, .slice sa sl sc), (⟨w.heap.size, 6, none⟩, .int .i64 lost)] [] w') (fun j _ _ => nn - (intOf j).toNat)
         case atStart => exact ⟨0, l, gA, gN, gC, Nat.zero_le _, rfl, rfl, hla, HLL, HAK, HW, HA, (Qk1 kb5)⟩
         case round =>
          clear kb5 hz5 hs5 kc5_0 kc5_1 kc5_2 kc5_3 kc5_4 kc5_5 kc5_6 HA HW HLL HAK hla ha
          obtain ⟨b, l, gA, gN, gC, hb, rfl, rfl, hla, HLL, HAK, HW, HA, hK⟩ := hrel
          simp only [KeptC, List.forall_mem_cons] at hK; obtain ⟨kb6, ⟨kc6_0, kc6_1, kc6_2, kc6_3, kc6_4, kc6_5, kc6_6, _⟩, _⟩ := hK
          have hs6 := kb6.size
          have hz6 : w.heap.size < wr.heap.size := cell_lt kc6_0
          obtain ⟨w6, h⟩ : ∃ w6, w6 = wr := ⟨_, rfl⟩
          subst h
          by_cases hlb : b < nn
          rotate_left
          · obtain rfl : b = nn := by omega
            go_wp2
            go_roundw
            case rel => exact ⟨a + 1, l, gA, gN, gC, by omega, by go_num, rfl, HLL, Lib.hid HAK.out.done, HW, HA, (Qk1 kb6)⟩
            case measure => have := HLL.out.2; simp [intOf]; omega
          · have hwb : IntKind.i64.wrap ((b : Int) + 1) = (b : Int) + 1 := by rw [IntKind.wrap_i64]; have := HN16.out; omega
            have hai : (a : Int) < (gN : Int) := by omega
            obtain ⟨gb, rfl, hgM, hgw, hgr, hgc⟩ := HW.out.gr (show 0 < gN by omega) HLL.out.1
            obtain ⟨ad2, y2, e2, hab2, hy2, h6⟩ := hgr.at hla
            obtain rfl := Option.some.inj e2
            obtain ⟨x2, hx2, rfl⟩ := memI_get hy2
            have hex : x = x2 := (Option.some.inj (hx2.symm.trans HAK.out.at_)).symm
            subst hex
            rw [Nat.mul_one] at h6
            have q0 : w6.cell? ⟨gb, a, none⟩ = some (.int .i64 x) := by have := h6 0 _ rfl; rw [Addr.add_lit, Addr.add_lit] at this; simpa using this
            have HGMM := Lib.hid hgM
            have HGR := Lib.hid hgr
            have CH2 := Lib.hid (fun W (hb : Below w6.heap.size w6 W) => CH.out x b W (kb6.trans (hb.mono kb6.size)))
            have CL2 := Lib.hid (fun W (hb : Below w6.heap.size w6 W) => rhas_anyB (some ⟨gb, 0, none⟩) gN gC (memI l) b W ((HGR.out.below hb).more hb.size) (by have h3 := HLL.out.2; have h4 := HN16.out; omega))
            rw [memI_cont] at CL2
            have HPU := Lib.hid (fun (h : H x b = true) (h2 : l.contains b = false) => HAK.out.push hlb h (fun hm => by rw [List.contains_iff_mem.2 hm] at h2; cases h2))
            have HSK := Lib.hid (fun (h : H x b = false ∨ l.contains b = true) => HAK.out.skip (b := b) (fun h2 => by rcases h with h | h; (· rw [h] at h2; cases h2); exact List.contains_iff_mem.1 h))
            clear hgr hgc hab2 hy2 h6 e2 hgM hx2
            generalize H x b = hb2 at CH2 HPU HSK
            generalize l.contains b = lb at CL2 HPU HSK
            cases hb2 with
            | false =>
             have HSK2 := Lib.hid (HSK.out (.inl rfl))
             go_wp2_with (fail)
             refine wp_region_quietC_lit (KeptC w6 [(⟨w.heap.size, 0, none⟩, .slice na nn nc), (⟨w.heap.size, 1, none⟩, .slice (some adu) un uc), (⟨w.heap.size, 2, none⟩, .slice da dn dc), (⟨w.heap.size, 3, none⟩, .int .i64 nx), (⟨w.heap.size, 4, none⟩, .slice la ll lc), (⟨w.heap.size, 5, none⟩, .slice sa sl sc), (⟨w.heap.size, 6, none⟩, .int .i64 lost), (⟨gb, a, none⟩, .int .i64 x)] []) (by kernel_rfl) (by kernel_rfl) ?_ ?_
             · refine KeptC.drewn ?_
               exact Qk
             repeat (first
              | go_big_quiet_skip
              | (go_big_quiet_want; (apply quietC_run); (· intro w' hw'; (have hk' := hw'; simp only [KeptC, List.forall_mem_cons] at hk'; go_split_ands); go_simp; first | done | rfl); (simp only [Act.put, List.setIfInBounds_toArray, List.set_cons_zero, List.set_cons_succ]; go_big_quiet_on))
              | (go_big_quiet_want; (apply quietC_call); (· intro w' hw'; go_simp; first | done | exact ⟨rfl, rfl⟩ | rfl); (· intro w' hw'; first | ((with_reducible refine (CH2.out _ hw'.lowV).mono ?_); rintro e w2 ⟨rfl, hb⟩; exact ⟨rfl, hw'.below hb⟩)); (simp only [Act.put, List.setIfInBounds_toArray, List.set_cons_zero, List.set_cons_succ]; go_big_quiet_on)))
             refine wpQuiet_nil ?_
             intro w9 hk9
             (have hk' := hk9; simp only [KeptC, List.forall_mem_cons] at hk'; go_split_ands); have hkB9 := hk9.1
             have kb9 : Below w.heap.size w w9 := kb6.trans (hkB9.mono kb6.size)
             have HW9 := Lib.hid (HW.out.below hkB9)
             have HA9 := Lib.hid (HA.out.trans (hkB9.mono HA.out.size))
             clear kc6_0 kc6_1 kc6_2 kc6_3 kc6_4 kc6_5 kc6_6 q0 hk9
             go_wp2
             go_roundw
             case rel => exact ⟨b + 1, l, _, gN, gC, by omega, by go_num, rfl, hla, HLL, HSK2, HW9, HA9, (Qk1 kb9)⟩
             case measure => simp [intOf]; omega
            | true =>
             cases lb with
             | true =>
              have HSK2 := Lib.hid (HSK.out (.inr rfl))
              go_wp2_with (fail)
              refine wp_region_quietC_lit (KeptC w6 [(⟨w.heap.size, 0, none⟩, .slice na nn nc), (⟨w.heap.size, 1, none⟩, .slice (some adu) un uc), (⟨w.heap.size, 2, none⟩, .slice da dn dc), (⟨w.heap.size, 3, none⟩, .int .i64 nx), (⟨w.heap.size, 4, none⟩, .slice la ll lc), (⟨w.heap.size, 5, none⟩, .slice sa sl sc), (⟨w.heap.size, 6, none⟩, .int .i64 lost), (⟨gb, a, none⟩, .int .i64 x)] []) (by kernel_rfl) (by kernel_rfl) ?_ ?_
              · refine KeptC.drewn ?_
                exact Qk
              repeat (first
               | go_big_quiet_skip
               | (go_big_quiet_want; (apply quietC_run); (· intro w' hw'; (have hk' := hw'; simp only [KeptC, List.forall_mem_cons] at hk'; go_split_ands); go_simp; first | done | rfl); (simp only [Act.put, List.setIfInBounds_toArray, List.set_cons_zero, List.set_cons_succ]; go_big_quiet_on))
               | (go_big_quiet_want; (apply quietC_call); (· intro w' hw'; go_simp; first | done | exact ⟨rfl, rfl⟩ | rfl); (· intro w' hw'; first | ((with_reducible refine (CH2.out _ hw'.lowV).mono ?_); rintro e w2 ⟨rfl, hb⟩; exact ⟨rfl, hw'.below hb⟩) | ((with_reducible refine (CL2.out _ hw'.lowV).mono ?_); rintro e w2 ⟨rfl, hb⟩; exact ⟨rfl, hw'.below hb⟩)); (simp only [Act.put, List.setIfInBounds_toArray, List.set_cons_zero, List.set_cons_succ]; go_big_quiet_on)))
              refine wpQuiet_nil ?_
              intro w9 hk9
              (have hk' := hk9; simp only [KeptC, List.forall_mem_cons] at hk'; go_split_ands); have hkB9 := hk9.1
              have kb9 : Below w.heap.size w w9 := kb6.trans (hkB9.mono kb6.size)
              have HW9 := Lib.hid (HW.out.below hkB9)
              have HA9 := Lib.hid (HA.out.trans (hkB9.mono HA.out.size))
              clear kc6_0 kc6_1 kc6_2 kc6_3 kc6_4 kc6_5 kc6_6 q0 hk9
              go_wp2
              go_roundw
              case rel => exact ⟨b + 1, l, _, gN, gC, by omega, by go_num, rfl, hla, HLL, HSK2, HW9, HA9, (Qk1 kb9)⟩
              case measure => simp [intOf]; omega
             | false =>
              have HPU2 := Lib.hid (HPU.out rfl rfl)
              go_wp2_with (fail)
              refine wp_region_quietC_lit (KeptC w6 [(⟨w.heap.size, 0, none⟩, .slice na nn nc), (⟨w.heap.size, 1, none⟩, .slice (some adu) un uc), (⟨w.heap.size, 2, none⟩, .slice da dn dc), (⟨w.heap.size, 3, none⟩, .int .i64 nx), (⟨w.heap.size, 4, none⟩, .slice la ll lc), (⟨w.heap.size, 5, none⟩, .slice sa sl sc), (⟨w.heap.size, 6, none⟩, .int .i64 lost), (⟨gb, a, none⟩, .int .i64 x)] []) (by kernel_rfl) (by kernel_rfl) ?_ ?_
              · refine KeptC.drewn ?_
                exact Qk
              repeat (first
               | go_big_quiet_skip
               | (go_big_quiet_want; (apply quietC_run); (· intro w' hw'; (have hk' := hw'; simp only [KeptC, List.forall_mem_cons] at hk'; go_split_ands); go_simp; first | done | rfl); (simp only [Act.put, List.setIfInBounds_toArray, List.set_cons_zero, List.set_cons_succ]; go_big_quiet_on))
               | (go_big_quiet_want; (apply quietC_call); (· intro w' hw'; go_simp; first | done | exact ⟨rfl, rfl⟩ | rfl); (· intro w' hw'; first | ((with_reducible refine (CH2.out _ hw'.lowV).mono ?_); rintro e w2 ⟨rfl, hb⟩; exact ⟨rfl, hw'.below hb⟩) | ((with_reducible refine (CL2.out _ hw'.lowV).mono ?_); rintro e w2 ⟨rfl, hb⟩; exact ⟨rfl, hw'.below hb⟩)); (simp only [Act.put, List.setIfInBounds_toArray, List.set_cons_zero, List.set_cons_succ]; go_big_quiet_on)))
              refine wpQuiet_nil ?_
              intro w9 hk9
              (have hk' := hk9; simp only [KeptC, List.forall_mem_cons] at hk'; go_split_ands); have hkB9 := hk9.1
              have kb9 : Below w.heap.size w w9 := kb6.trans (hkB9.mono kb6.size)
              have HW9 := Lib.hid (HW.out.below hkB9)
              have HA9 := Lib.hid (HA.out.trans (hkB9.mono HA.out.size))
              have hz9 : w.heap.size < w9.heap.size := by have := hkB9.size; omega
              have HS93 : Hid (w3.heap.size ≤ w9.heap.size) := Lib.hid HA9.out.size
              have hS93 := HS93.out
              have HB9 : Hid (gN + 1 ≤ maxLen ∧ (gN + 1) * 8 ≤ 140737488355328) := Lib.hid (by have h1 := HLL.out.2; have h2 := HN16.out; simp only [maxLen]; omega)
              clear q0
              simp only [KeptC, List.forall_mem_cons] at hk9
              obtain ⟨_, ⟨kd_0, kd_1, kd_2, kd_3, kd_4, kd_5, kd_6, _⟩, _⟩ := hk9
              clear kc6_0 kc6_1 kc6_2 kc6_3 kc6_4 kc6_5 kc6_6
              go_wp2_with (at_builtin; refine wpList_app1K encI_len encI_one (by decide) rfl (.tmp 57) (.tmp 59) 42 3 rfl Tryz.underlying42 int_inf rfl w3.heap.size (memI l) (some ⟨gb, 0, none⟩) gN gC (by rw [memI_len]; exact HLL.out.1) rfl (HW9.out.below ((Below.refl _ _).alloc (Nat.le_refl _) _)) (some ⟨w9.heap.size, 0, none⟩) 1 1 rfl [(b : Int)] (rows_one (fun i u hu => by have h := ((LocX.fresh (enc := encI) w9 #[.int .i64 b] 3 (b : Int) rfl).2 i u hu).1; rw [Addr.add_lit, Nat.zero_add]; exact h) (by simp)) HB9.out.1 HB9.out.2 (by simp; omega) ?_; rintro O7 A7 n7 c7 w7 hO7 hn7 hown7 hb7 _; have HO7 := Lib.hid hO7; have HN7 := Lib.hid hn7; have HW7 := Lib.hid hown7; have HB7 : Hid (Below w3.heap.size w9 w7) := Lib.hid ((Qb : Below w3.heap.size w9 _).trans hb7); clear hO7 hn7 hown7 hb7)
              have hO7 := HO7.out
              have e8 : O7 = memI (l ++ [b]) := by rw [memI_app]; exact hO7
              subst e8
              have kb7 : Below w.heap.size w w7 := kb9.trans (HB7.out.mono (by omega))
              have kc7_0 := (HB7.out.cell (p := ⟨w.heap.size, 0, none⟩) (show w.heap.size < w3.heap.size by omega)).trans kd_0
              have kc7_1 := (HB7.out.cell (p := ⟨w.heap.size, 1, none⟩) (show w.heap.size < w3.heap.size by omega)).trans kd_1
              have kc7_2 := (HB7.out.cell (p := ⟨w.heap.size, 2, none⟩) (show w.heap.size < w3.heap.size by omega)).trans kd_2
              have kc7_3 := (HB7.out.cell (p := ⟨w.heap.size, 3, none⟩) (show w.heap.size < w3.heap.size by omega)).trans kd_3
              have kc7_4 := (HB7.out.cell (p := ⟨w.heap.size, 4, none⟩) (show w.heap.size < w3.heap.size by omega)).trans kd_4
              have kc7_5 := (HB7.out.cell (p := ⟨w.heap.size, 5, none⟩) (show w.heap.size < w3.heap.size by omega)).trans kd_5
              have kc7_6 := (HB7.out.cell (p := ⟨w.heap.size, 6, none⟩) (show w.heap.size < w3.heap.size by omega)).trans kd_6
              have HA7 := Lib.hid (HA9.out.trans HB7.out)
              have HL7 : Hid ((l ++ [b]).length = n7 ∧ n7 ≤ nn) := Lib.hid (by
               have h1 := HN7.out
               rw [memI_len] at h1
               have h2 := HPU2.out.s.len
               exact ⟨h1, by omega⟩)
              have hla7 : a < n7 := by have h1 := HL7.out.1; have h2 := HLL.out.1; rw [List.length_append] at h1; omega
              go_roundw
              case rel => exact ⟨b + 1, l ++ [b], A7, n7, c7, by omega, by go_num, rfl, hla7, HL7, HPU2, HW7, HA7, (Qk1 kb7)⟩
              case measure => simp [intOf]; omega
end Go.Proofs.YtkfodkbgmpbmfaaGreat
namespace Go.Proofs.YtkfodkbgmpbmfaaGreat
open Go.RowKit Go.Shelf
set_option linter.unusedVariables false
set_option linter.unusedSimpArgs false
set_option maxRecDepth 100000
set_option maxHeartbeats 8000000 in
theorem lgroups_any (A1 A2 : Option Addr) (N c1 c2 : Nat) (gs1 gs2 : List Gr) (w : World) (h1 : GsAt w w.heap.size A1 N gs1) (h2 : GsAt w w.heap.size A2 N gs2) (hm : gs1.map Gr.mem = gs2.map Gr.mem) (hN : N ≤ 1000) (hl : ∀ g ∈ gs1, g.mem.length ≤ 1000) :
    Calls Tryz.prog 25 #[.slice A1 N c1, .slice A2 N c2] w fun e w' => e = .returned (.bool true) ∧ Below w.heap.size w w' := by
 have H1 := Lib.hid h1.1
 have H2 := Lib.hid h2.1
 have HG1 := Lib.hid h1.2
 have HG2 := Lib.hid h2.2
 have HM : Hid (∀ (k : Nat) g g', gs1[k]? = some g → gs2[k]? = some g' → g.mem = g'.mem) := Lib.hid (fun k g g' e1 e2 => by
  have h3 : (gs1.map Gr.mem)[k]? = (gs2.map Gr.mem)[k]? := by rw [hm]
  rw [List.getElem?_map, List.getElem?_map, e1, e2] at h3
  exact Option.some.inj h3)
 have HL := Lib.hid hl
 clear h1 h2 hm hl
 go_enter Tryz.func25, Tryz.ntmps25
 go_wp2
 go_loopw [5] (fun i w' => ∃ (k : Nat), k ≤ N ∧ i = .int .i64 k ∧ KeptC w [] [] w') (fun i _ => N - (intOf i).toNat)
 case atStart => exact ⟨0, Nat.zero_le _, rfl, Qk⟩
 case round =>
  obtain ⟨k, hk, rfl, hK⟩ := hrel
  have kb0 := hK.1
  clear hK
  have hs0 := kb0.size
  by_cases hlt : k < N
  rotate_left
  · obtain rfl : k = N := by omega
    go_wp2
    go_ret
    exact ⟨rfl, (Qb1 kb0)⟩
  · obtain ⟨ad, g1, rfl, hab, hx, g2⟩ := H1.out.at hlt
    obtain ⟨ad2, g2', rfl, hab2, hx2, g3⟩ := H2.out.at hlt
    have hmm := HM.out k g1 g2' hx hx2
    have hr1 := HG1.out g1 (List.mem_of_getElem? hx)
    have hr2 := HG2.out g2' (List.mem_of_getElem? hx2)
    have hl1 := HL.out g1 (List.mem_of_getElem? hx)
    obtain ⟨a1, n1, d1, m1⟩ := g1
    obtain ⟨a2, n2, d2, m2⟩ := g2'
    simp only [] at hmm hr1 hr2 hl1
    subst hmm
    have hn1 : n1 = m1.length := by have := hr1.1.1; rw [memI_len] at this; exact this.symm
    have hn2 : n2 = m1.length := by have := hr2.1.1; rw [memI_len] at this; exact this.symm
    obtain ⟨P, hP⟩ : ∃ P, ad.add (k * 1) = P := ⟨_, rfl⟩
    rw [hP] at g2 hab
    obtain ⟨Q, hQ⟩ : ∃ Q, ad2.add (k * 1) = Q := ⟨_, rfl⟩
    rw [hQ] at g3 hab2
    rw [Nat.mul_one] at hP hQ
    have hnn : n2 = n1 := by omega
    subst hnn
    have hn1000 : n2 ≤ 1000 := by omega
    have e0 : wr.cell? P = some (.slice a1 n2 d1) := (kb0.cell (p := P) hab).trans (by have := g2 0 _ rfl; rwa [Bg.add_z P] at this)
    have f0 : wr.cell? Q = some (.slice a2 n2 d2) := (kb0.cell (p := Q) hab2).trans (by have := g3 0 _ rfl; rwa [Bg.add_z Q] at this)
    have hPw : P.block < wr.heap.size := by omega
    have hQw : Q.block < wr.heap.size := by omega
    have hwk : IntKind.i64.wrap ((k : Int) + 1) = (k : Int) + 1 := by rw [IntKind.wrap_i64]; omega
    have HR1 := Lib.hid hr1.1
    have HR2 := Lib.hid hr2.1
    clear g2 g3 hx hx2 hr1 hr2 hn1 hn2 hl1
    go_wp2_with (fail)
    refine wp_region_quietC_lit (KeptC w [(P, .slice a1 n2 d1), (Q, .slice a2 n2 d2)] []) (by kernel_rfl) (by kernel_rfl) ?_ ?_
    · refine KeptC.drewn ?_
      exact Qk1 kb0
    repeat (first
     | go_big_quiet_skip
     | (go_big_quiet_want; (apply quietC_run); (· intro w' hw'; (have hk' := hw'; simp only [KeptC, List.forall_mem_cons] at hk'; go_split_ands); go_simp; first | done | rfl); (simp only [Act.put, List.setIfInBounds_toArray, List.set_cons_zero, List.set_cons_succ]; go_big_quiet_on))
     | (go_big_quiet_want; (apply quietC_call); (· intro w' hw'; go_simp; first | done | exact ⟨rfl, rfl⟩ | rfl); (· intro w' hw'; first | ((with_reducible refine (fail).mono ?_); rintro e w2 ⟨rfl, hb⟩; exact ⟨rfl, hw'.below hb⟩)); (simp only [Act.put, List.setIfInBounds_toArray, List.set_cons_zero, List.set_cons_succ]; go_big_quiet_on)))
    refine wpQuiet_nil ?_
    intro w9 hk9
    (have hk' := hk9; simp only [KeptC, List.forall_mem_cons] at hk'; go_split_ands); have hkB9 := hk9.1
    have kp9 := (hk9.2.1 (P, .slice a1 n2 d1) (by simp))
    have kq9 := (hk9.2.1 (Q, .slice a2 n2 d2) (by simp))
    simp only [] at kp9 kq9
    clear e0 f0 hk9
    go_wp2
    go_loopw [6] (fun i w' => ∃ (j : Nat), j ≤ n2 ∧ i = .int .i64 j ∧ KeptC w [(P, .slice a1 n2 d1), (Q, .slice a2 n2 d2)] [] w') (fun i _ => n2 - (intOf i).toNat)
    case atStart => exact ⟨0, Nat.zero_le _, rfl, (Qk1 hkB9)⟩
    case round =>
     obtain ⟨j, hj, rfl, hK⟩ := hrel
     clear kp9 kq9 kb0 hs0 hPw hQw
     simp only [KeptC, List.forall_mem_cons] at hK; obtain ⟨kb1, ⟨kc1_0, kc1_1, _⟩, _⟩ := hK
     have hs1 := kb1.size
     have hPw : P.block < wr.heap.size := by omega
     have hQw : Q.block < wr.heap.size := by omega
     by_cases hlj : j < n2
     rotate_left
     · obtain rfl : j = n2 := by omega
       go_wp2
       go_roundw
       case rel => exact ⟨k + 1, by omega, by go_num, (Qk1 kb1)⟩
       case measure => simp [intOf]; omega
     · obtain ⟨b1, y1, rfl, hb1, hy1, q1⟩ := HR1.out.at hlj
       obtain ⟨b2, y2, rfl, hb2, hy2, q2⟩ := HR2.out.at hlj
       obtain rfl := Option.some.inj (hy1.symm.trans hy2)
       rw [Nat.mul_one] at q1 q2 hb1 hb2
       have u0 : wr.cell? (b1.add j) = some (.int .i64 y1) := (kb1.cell hb1).trans (by have := q1 0 _ rfl; rwa [Bg.add_z] at this)
       have v0 : wr.cell? (b2.add j) = some (.int .i64 y1) := (kb1.cell hb2).trans (by have := q2 0 _ rfl; rwa [Bg.add_z] at this)
       have hwj : IntKind.i64.wrap ((j : Int) + 1) = (j : Int) + 1 := by rw [IntKind.wrap_i64]; omega
       clear q1 q2 hy1 hy2
       go_wp2_with (fail)
       refine wp_region_quietC_lit (KeptC w [(P, .slice (some b1) n2 d1), (Q, .slice (some b2) n2 d2), (b1.add j, .int .i64 y1), (b2.add j, .int .i64 y1)] []) (by kernel_rfl) (by kernel_rfl) ?_ ?_
       · refine KeptC.drewn ?_
         exact Qk1 kb1
       repeat (first
        | go_big_quiet_skip
        | (go_big_quiet_want; (apply quietC_run); (· intro w' hw'; (have hk' := hw'; simp only [KeptC, List.forall_mem_cons] at hk'; go_split_ands); go_simp; first | done | rfl); (simp only [Act.put, List.setIfInBounds_toArray, List.set_cons_zero, List.set_cons_succ]; go_big_quiet_on))
        | (go_big_quiet_want; (apply quietC_call); (· intro w' hw'; go_simp; first | done | exact ⟨rfl, rfl⟩ | rfl); (· intro w' hw'; first | ((with_reducible refine (fail).mono ?_); rintro e w2 ⟨rfl, hb⟩; exact ⟨rfl, hw'.below hb⟩)); (simp only [Act.put, List.setIfInBounds_toArray, List.set_cons_zero, List.set_cons_succ]; go_big_quiet_on)))
       refine wpQuiet_nil ?_
       intro w8 hk8
       (have hk' := hk8; simp only [KeptC, List.forall_mem_cons] at hk'; go_split_ands); have hkB8 := hk8.1
       clear u0 v0 kc1_0 kc1_1
       go_wp2
       go_roundw
       case rel => exact ⟨j + 1, by omega, by go_num, (Qk1 hkB8)⟩
       case measure => simp [intOf]; omega
end Go.Proofs.YtkfodkbgmpbmfaaGreat
