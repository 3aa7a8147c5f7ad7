/- Chapter 22, parts on the way: RfF -/
import Derived.Test.YtkfodkbgmpbmfaaGreatB01
import Derived.Test.YtkfodkbgmpbmfaaGreatB07
set_option linter.unusedVariables false
set_option linter.unusedSimpArgs false
namespace Go.Proofs.YtkfodkbgmpbmfaaGreat.Bg
open Go.RowKit Go.Shelf
set_option linter.unusedVariables false
set_option linter.unusedSimpArgs false
set_option maxRecDepth 100000
set_option maxHeartbeats 4000000 in
theorem mfit_any (nx : Int) (A B : Option Addr) (n c m d : Nat) (ls : List Dg) (sv : List LK) (w : World) (h1 : RowsE encD 4 w w.heap.size A n ls) (h2 : RowsE encL 2 w w.heap.size B m sv) (hn : n ≤ 70368744177664) (hm : m ≤ 70368744177664) :
    Calls Tryz.prog 39 #[mAgg nx (.slice A n c) (.slice B m d)] w fun e w' => e = .returned (.bool (fitB ⟨nx, ls, sv⟩)) ∧ Below w.heap.size w w' := by
 have H1 := Lib.hid h1
 have H2 := Lib.hid h2
 have HNN := Lib.hid h1.1
 have HMM := Lib.hid h2.1
 clear h1 h2
 by_cases hx0 : nx < 0
 · go_enter Tryz.func39, Tryz.ntmps39
   go_wp2
   go_ret
   exact ⟨by rw [fit_head (.inl hx0)]; rfl, Qb⟩
 by_cases hx1 : 4611686018427387904 < nx
 · go_enter Tryz.func39, Tryz.ntmps39
   go_wp2
   go_ret
   exact ⟨by rw [fit_head (.inr (.inl hx1))]; rfl, Qb⟩
 by_cases hn5 : 65536 < n
 · have hn6 : (65536 : Int) < (n : Int) := by omega
   go_enter Tryz.func39, Tryz.ntmps39
   go_wp2
   go_ret
   exact ⟨by rw [fit_head (.inr (.inr (by have := HNN.out; simp only []; omega)))]; rfl, Qb⟩
 have hn6 : decide ((65536 : Int) < (n : Int)) = false := decide_eq_false (by omega)
 have d0 : decide (nx < 0) = false := decide_eq_false hx0
 have d1 : decide (4611686018427387904 < nx) = false := decide_eq_false hx1
 have HX0 := Lib.hid hx0
 have HX1 := Lib.hid hx1
 clear hx0 hx1
 go_enter Tryz.func39, Tryz.ntmps39
 go_wp2
 clear d0 d1 hn6
 go_loopw [3] (fun i w' => ∃ (k : Nat), k ≤ n ∧ i = .int .i64 k ∧ Hid ((List.range k).all (okD nx ls) = true) ∧ KeptC w [(⟨w.heap.size, 0, none⟩, .int .i64 nx), (⟨w.heap.size, 1, none⟩, .slice A n c), (⟨w.heap.size, 2, none⟩, .slice B m d)] [] w') (fun i _ => n - (intOf i).toNat)
 case atStart => exact ⟨0, Nat.zero_le _, rfl, Lib.hid rfl, Qk⟩
 case round =>
  obtain ⟨k, hk, rfl, HA, hK⟩ := hrel
  have HK := Lib.hid hK
  simp only [KeptC, List.forall_mem_cons] at hK; obtain ⟨kb0, ⟨kc0_0, kc0_1, kc0_2, _⟩, _⟩ := hK
  have hs0 := kb0.size
  have hz0 : w.heap.size < wr.heap.size := cell_lt kc0_0
  by_cases hlt : k < n
  rotate_left
  · obtain rfl : k = n := by omega
    obtain ⟨wo, hwo⟩ : ∃ wo, wo = wr := ⟨_, rfl⟩
    subst hwo
    go_wp2
    clear kc0_0 kc0_1 kc0_2 hz0 hs0
    go_loopw [4] (fun i w' => ∃ (q : Nat), q ≤ m ∧ i = .int .i64 q ∧ Hid ((List.range q).all (okK sv) = true) ∧ KeptC w [(⟨w.heap.size, 0, none⟩, .int .i64 nx), (⟨w.heap.size, 1, none⟩, .slice A k c), (⟨w.heap.size, 2, none⟩, .slice B m d)] [] w') (fun i _ => m - (intOf i).toNat)
    case atStart => exact ⟨0, Nat.zero_le _, rfl, Lib.hid rfl, HK.out⟩
    case round =>
     obtain ⟨q, hq, rfl, HA2, hK⟩ := hrel
     clear kb0 HK
     simp only [KeptC, List.forall_mem_cons] at hK; obtain ⟨kb0, ⟨kc0_0, kc0_1, kc0_2, _⟩, _⟩ := hK
     have hs0 := kb0.size
     have hz0 : w.heap.size < wr.heap.size := cell_lt kc0_0
     by_cases hlt : q < m
     rotate_left
     · obtain rfl : q = m := by omega
       have HE : Hid (fitB ⟨nx, ls, sv⟩ = true) := Lib.hid (fit_all (by have := HX0.out; simp only []; omega) (by have := HX1.out; simp only []; omega) (by have := HNN.out; simp only []; omega) (by simp only []; rw [HNN.out]; exact HA.out) (by simp only []; rw [HMM.out]; exact HA2.out))
       go_wp2
       go_ret
       exact ⟨by rw [HE.out]; rfl, kb0⟩
     · cases q with
       | zero =>
        obtain ⟨ad, x, rfl, hab, hx, h4⟩ := H2.out.get hlt
        obtain ⟨P, hP⟩ : ∃ P, ad.add (0 * 2) = P := ⟨_, rfl⟩
        have hPb : P.block < w.heap.size := by rw [← hP, block_of_add]; exact hab
        rw [hP] at h4
        have e0 : wr.cell? P = some (.int .i64 x.1) := (kb0.cell (p := P) hPb).trans (by have := h4 0 _ rfl; rwa [add_z P] at this)
        have e0' : wr.cell? ⟨P.block, P.off + 1, none⟩ = some (.int .i64 x.2) := (kb0.cell (p := ⟨P.block, P.off + 1, none⟩) hPb).trans (by have := h4 1 _ rfl; rwa [add_next P 0] at this)
        have hPw : P.block < wr.heap.size := by omega
        have ho := okK_zero hx
        clear h4 hx
        cases h1 : decide (x.2 ≤ x.1) with
        | true =>
         rw [h1] at ho
         have HO := Lib.hid ho
         clear ho
         go_wp2_with (fail)
         refine wp_region_quietC_lit (KeptC w [(⟨w.heap.size, 0, none⟩, .int .i64 nx), (⟨w.heap.size, 1, none⟩, .slice A k c), (⟨w.heap.size, 2, none⟩, .slice (some ad) m d), (⟨wr.heap.size, 0, none⟩, .int .i64 x.1), (⟨wr.heap.size, 1, none⟩, .int .i64 x.2)] []) (by kernel_rfl) (by kernel_rfl) ?_ ?_
         · refine KeptC.drewn ?_
           exact Qk1 kb0
         repeat (first
          | go_big_quiet_skip
          | (go_big_quiet_want; (apply quietC_run); (· intro w' hw'; (have hk' := hw'; simp only [KeptC, List.forall_mem_cons] at hk'; go_split_ands); go_simp; first | done | rfl); (simp only [Act.put, List.setIfInBounds_toArray, List.set_cons_zero, List.set_cons_succ]; go_big_quiet_on))
          | (go_big_quiet_want; (apply quietC_call); (· intro w' hw'; go_simp; first | done | exact ⟨rfl, rfl⟩ | rfl); (· intro w' hw'; first | ((with_reducible refine (fail).mono ?_); rintro e w2 ⟨rfl, hb⟩; exact ⟨rfl, hw'.below hb⟩)); (simp only [Act.put, List.setIfInBounds_toArray, List.set_cons_zero, List.set_cons_succ]; go_big_quiet_on)))
         refine wpQuiet_nil ?_
         intro w9 hk9
         (have hk' := hk9; simp only [KeptC, List.forall_mem_cons] at hk'; go_split_ands); have hkB9 := hk9.1
         go_wp2
         go_ret
         exact ⟨by rw [fit_stopK (k := 0) (by have := HMM.out; simp only []; omega) HO.out]; rfl, hkB9⟩
        | false =>
         rw [h1] at ho
         have HO := Lib.hid ho
         clear ho
         go_wp2_with (fail)
         refine wp_region_quietC_lit (KeptC w [(⟨w.heap.size, 0, none⟩, .int .i64 nx), (⟨w.heap.size, 1, none⟩, .slice A k c), (⟨w.heap.size, 2, none⟩, .slice (some ad) m d), (⟨wr.heap.size, 0, none⟩, .int .i64 x.1), (⟨wr.heap.size, 1, none⟩, .int .i64 x.2)] []) (by kernel_rfl) (by kernel_rfl) ?_ ?_
         · refine KeptC.drewn ?_
           exact Qk1 kb0
         repeat (first
          | go_big_quiet_skip
          | (go_big_quiet_want; (apply quietC_run); (· intro w' hw'; (have hk' := hw'; simp only [KeptC, List.forall_mem_cons] at hk'; go_split_ands); go_simp; first | done | rfl); (simp only [Act.put, List.setIfInBounds_toArray, List.set_cons_zero, List.set_cons_succ]; go_big_quiet_on))
          | (go_big_quiet_want; (apply quietC_call); (· intro w' hw'; go_simp; first | done | exact ⟨rfl, rfl⟩ | rfl); (· intro w' hw'; first | ((with_reducible refine (fail).mono ?_); rintro e w2 ⟨rfl, hb⟩; exact ⟨rfl, hw'.below hb⟩)); (simp only [Act.put, List.setIfInBounds_toArray, List.set_cons_zero, List.set_cons_succ]; go_big_quiet_on)))
         refine wpQuiet_nil ?_
         intro w9 hk9
         (have hk' := hk9; simp only [KeptC, List.forall_mem_cons] at hk'; go_split_ands); have hkB9 := hk9.1
         go_wp2
         go_roundw
         case rel => exact ⟨0 + 1, by omega, by go_num, Lib.hid (all_next HA2.out HO.out), (Qk1 hkB9)⟩
         case measure => simp [intOf]; omega
       | succ q =>
        obtain ⟨ad, x, rfl, hab, hx, h4⟩ := H2.out.get hlt
        obtain ⟨P, hP⟩ : ∃ P, ad.add ((q + 1) * 2) = P := ⟨_, rfl⟩
        have hPb : P.block < w.heap.size := by rw [← hP, block_of_add]; exact hab
        rw [hP] at h4
        have e0 : wr.cell? P = some (.int .i64 x.1) := (kb0.cell (p := P) hPb).trans (by have := h4 0 _ rfl; rwa [add_z P] at this)
        have e0' : wr.cell? ⟨P.block, P.off + 1, none⟩ = some (.int .i64 x.2) := (kb0.cell (p := ⟨P.block, P.off + 1, none⟩) hPb).trans (by have := h4 1 _ rfl; rwa [add_next P 0] at this)
        have hPw : P.block < wr.heap.size := by omega
        obtain ⟨ad2, y, hA2, _, hy, g4⟩ := H2.out.get (j := q) (by omega)
        obtain rfl : ad = ad2 := Option.some.inj hA2
        obtain ⟨Q, hQ⟩ : ∃ Q, ad.add (q * 2) = Q := ⟨_, rfl⟩
        have hQb : Q.block < w.heap.size := by rw [← hQ, block_of_add]; exact hab
        rw [hQ] at g4
        have e1 : wr.cell? Q = some (.int .i64 y.1) := (kb0.cell (p := Q) hQb).trans (by have := g4 0 _ rfl; rwa [add_z Q] at this)
        have e1' : wr.cell? ⟨Q.block, Q.off + 1, none⟩ = some (.int .i64 y.2) := (kb0.cell (p := ⟨Q.block, Q.off + 1, none⟩) hQb).trans (by have := g4 1 _ rfl; rwa [add_next Q 0] at this)
        have hwk : IntKind.i64.wrap (q : Int) = q := by rw [IntKind.wrap_i64]; omega
        have hkn : q < m := by omega
        have hQw : Q.block < wr.heap.size := by omega
        have ho := okK_succ hx hy
        clear h4 hx g4 hy hA2
        have CL : Hid (∀ W, Calls Tryz.prog 70 #[lAgg y, lAgg x] W fun e w' => e = .returned (.bool (ltL y x)) ∧ Below W.heap.size W w') := Lib.hid (less_any y x)
        cases h1 : decide (x.2 ≤ x.1) with
        | true =>
         rw [h1] at ho
         have HO := Lib.hid ho
         clear ho
         go_wp2_with (fail)
         refine wp_region_quietC_lit (KeptC w [(⟨w.heap.size, 0, none⟩, .int .i64 nx), (⟨w.heap.size, 1, none⟩, .slice A k c), (⟨w.heap.size, 2, none⟩, .slice (some ad) m d), (⟨wr.heap.size, 0, none⟩, .int .i64 x.1), (⟨wr.heap.size, 1, none⟩, .int .i64 x.2), (Q, .int .i64 y.1), (⟨Q.block, Q.off + 1, none⟩, .int .i64 y.2)] []) (by kernel_rfl) (by kernel_rfl) ?_ ?_
         · refine KeptC.drewn ?_
           exact Qk1 kb0
         repeat (first
          | go_big_quiet_skip
          | (go_big_quiet_want; (apply quietC_run); (· intro w' hw'; (have hk' := hw'; simp only [KeptC, List.forall_mem_cons] at hk'; go_split_ands); go_simp; first | done | rfl); (simp only [Act.put, List.setIfInBounds_toArray, List.set_cons_zero, List.set_cons_succ]; go_big_quiet_on))
          | (go_big_quiet_want; (apply quietC_call); (· intro w' hw'; go_simp; first | done | exact ⟨rfl, rfl⟩ | rfl); (· intro w' hw'; first | ((with_reducible refine (fail).mono ?_); rintro e w2 ⟨rfl, hb⟩; exact ⟨rfl, hw'.below hb⟩)); (simp only [Act.put, List.setIfInBounds_toArray, List.set_cons_zero, List.set_cons_succ]; go_big_quiet_on)))
         refine wpQuiet_nil ?_
         intro w9 hk9
         (have hk' := hk9; simp only [KeptC, List.forall_mem_cons] at hk'; go_split_ands); have hkB9 := hk9.1
         go_wp2
         go_ret
         exact ⟨by rw [fit_stopK (k := q + 1) (by have := HMM.out; simp only []; omega) HO.out]; rfl, hkB9⟩
        | false =>
         cases h2 : ltL y x with
         | false =>
          rw [h1, h2] at ho
          rw [h2] at CL
          have HO := Lib.hid ho
          clear ho h2
          go_wp2_with (fail)
          refine wp_region_quietC_lit (KeptC w [(⟨w.heap.size, 0, none⟩, .int .i64 nx), (⟨w.heap.size, 1, none⟩, .slice A k c), (⟨w.heap.size, 2, none⟩, .slice (some ad) m d), (⟨wr.heap.size, 0, none⟩, .int .i64 x.1), (⟨wr.heap.size, 1, none⟩, .int .i64 x.2), (Q, .int .i64 y.1), (⟨Q.block, Q.off + 1, none⟩, .int .i64 y.2)] []) (by kernel_rfl) (by kernel_rfl) ?_ ?_
          · refine KeptC.drewn ?_
            exact Qk1 kb0
          repeat (first
           | go_big_quiet_skip
           | (go_big_quiet_want; (apply quietC_run); (· intro w' hw'; (have hk' := hw'; simp only [KeptC, List.forall_mem_cons] at hk'; go_split_ands); go_simp; first | done | rfl); (simp only [Act.put, List.setIfInBounds_toArray, List.set_cons_zero, List.set_cons_succ]; go_big_quiet_on))
           | (go_big_quiet_want; (apply quietC_call); (· intro w' hw'; go_simp; first | done | exact ⟨rfl, rfl⟩ | rfl); (· intro w' hw'; first | ((with_reducible refine (CL.out _).mono ?_); rintro e w2 ⟨rfl, hb⟩; exact ⟨rfl, hw'.below hb⟩)); (simp only [Act.put, List.setIfInBounds_toArray, List.set_cons_zero, List.set_cons_succ]; go_big_quiet_on)))
          refine wpQuiet_nil ?_
          intro w9 hk9
          (have hk' := hk9; simp only [KeptC, List.forall_mem_cons] at hk'; go_split_ands); have hkB9 := hk9.1
          go_wp2
          go_ret
          exact ⟨by rw [fit_stopK (k := q + 1) (by have := HMM.out; simp only []; omega) HO.out]; rfl, hkB9⟩
         | true =>
          rw [h1, h2] at ho
          rw [h2] at CL
          have HO := Lib.hid ho
          clear ho h2
          go_wp2_with (fail)
          refine wp_region_quietC_lit (KeptC w [(⟨w.heap.size, 0, none⟩, .int .i64 nx), (⟨w.heap.size, 1, none⟩, .slice A k c), (⟨w.heap.size, 2, none⟩, .slice (some ad) m d), (⟨wr.heap.size, 0, none⟩, .int .i64 x.1), (⟨wr.heap.size, 1, none⟩, .int .i64 x.2), (Q, .int .i64 y.1), (⟨Q.block, Q.off + 1, none⟩, .int .i64 y.2)] []) (by kernel_rfl) (by kernel_rfl) ?_ ?_
          · refine KeptC.drewn ?_
            exact Qk1 kb0
          repeat (first
           | go_big_quiet_skip
           | (go_big_quiet_want; (apply quietC_run); (· intro w' hw'; (have hk' := hw'; simp only [KeptC, List.forall_mem_cons] at hk'; go_split_ands); go_simp; first | done | rfl); (simp only [Act.put, List.setIfInBounds_toArray, List.set_cons_zero, List.set_cons_succ]; go_big_quiet_on))
           | (go_big_quiet_want; (apply quietC_call); (· intro w' hw'; go_simp; first | done | exact ⟨rfl, rfl⟩ | rfl); (· intro w' hw'; first | ((with_reducible refine (CL.out _).mono ?_); rintro e w2 ⟨rfl, hb⟩; exact ⟨rfl, hw'.below hb⟩)); (simp only [Act.put, List.setIfInBounds_toArray, List.set_cons_zero, List.set_cons_succ]; go_big_quiet_on)))
          refine wpQuiet_nil ?_
          intro w9 hk9
          (have hk' := hk9; simp only [KeptC, List.forall_mem_cons] at hk'; go_split_ands); have hkB9 := hk9.1
          go_wp2
          go_roundw
          case rel => exact ⟨q + 1 + 1, by omega, by go_num, Lib.hid (all_next HA2.out HO.out), (Qk1 hkB9)⟩
          case measure => simp [intOf]; omega
  · cases k with
    | zero =>
     obtain ⟨ad, x, rfl, hab, hx, h4⟩ := H1.out.get hlt
     obtain ⟨P, hP⟩ : ∃ P, ad.add (0 * 4) = P := ⟨_, rfl⟩
     have hPb : P.block < w.heap.size := by rw [← hP, block_of_add]; exact hab
     rw [hP] at h4
     have e0 : wr.cell? P = some (.int .i64 x.num) := (kb0.cell (p := P) hPb).trans (by have := h4 0 _ rfl; rwa [add_z P] at this)
     have hPw : P.block < wr.heap.size := by omega
     have ho := okD_zero (nx := nx) hx
     clear h4 hx
     cases h1 : decide (x.num < 1) with
     | true =>
      rw [h1] at ho
      have HO := Lib.hid ho
      clear ho
      go_wp2_with (fail)
      refine wp_region_quietC_lit (KeptC w [(⟨w.heap.size, 0, none⟩, .int .i64 nx), (⟨w.heap.size, 1, none⟩, .slice (some ad) n c), (⟨w.heap.size, 2, none⟩, .slice B m d), (P, .int .i64 x.num)] []) (by kernel_rfl) (by kernel_rfl) ?_ ?_
      · refine KeptC.drewn ?_
        exact Qk1 kb0
      repeat (first
       | go_big_quiet_skip
       | (go_big_quiet_want; (apply quietC_run); (· intro w' hw'; (have hk' := hw'; simp only [KeptC, List.forall_mem_cons] at hk'; go_split_ands); go_simp; first | done | rfl); (simp only [Act.put, List.setIfInBounds_toArray, List.set_cons_zero, List.set_cons_succ]; go_big_quiet_on))
       | (go_big_quiet_want; (apply quietC_call); (· intro w' hw'; go_simp; first | done | exact ⟨rfl, rfl⟩ | rfl); (· intro w' hw'; first | ((with_reducible refine (fail).mono ?_); rintro e w2 ⟨rfl, hb⟩; exact ⟨rfl, hw'.below hb⟩)); (simp only [Act.put, List.setIfInBounds_toArray, List.set_cons_zero, List.set_cons_succ]; go_big_quiet_on)))
      refine wpQuiet_nil ?_
      intro w9 hk9
      (have hk' := hk9; simp only [KeptC, List.forall_mem_cons] at hk'; go_split_ands); have hkB9 := hk9.1
      go_wp2
      go_ret
      exact ⟨by rw [fit_stopD (k := 0) (by have := HNN.out; simp only []; omega) HO.out]; rfl, hkB9⟩
     | false =>
      cases h2 : decide (nx < x.num) with
      | true =>
       rw [h1, h2] at ho
       have HO := Lib.hid ho
       clear ho
       go_wp2_with (fail)
       refine wp_region_quietC_lit (KeptC w [(⟨w.heap.size, 0, none⟩, .int .i64 nx), (⟨w.heap.size, 1, none⟩, .slice (some ad) n c), (⟨w.heap.size, 2, none⟩, .slice B m d), (P, .int .i64 x.num)] []) (by kernel_rfl) (by kernel_rfl) ?_ ?_
       · refine KeptC.drewn ?_
         exact Qk1 kb0
       repeat (first
        | go_big_quiet_skip
        | (go_big_quiet_want; (apply quietC_run); (· intro w' hw'; (have hk' := hw'; simp only [KeptC, List.forall_mem_cons] at hk'; go_split_ands); go_simp; first | done | rfl); (simp only [Act.put, List.setIfInBounds_toArray, List.set_cons_zero, List.set_cons_succ]; go_big_quiet_on))
        | (go_big_quiet_want; (apply quietC_call); (· intro w' hw'; go_simp; first | done | exact ⟨rfl, rfl⟩ | rfl); (· intro w' hw'; first | ((with_reducible refine (fail).mono ?_); rintro e w2 ⟨rfl, hb⟩; exact ⟨rfl, hw'.below hb⟩)); (simp only [Act.put, List.setIfInBounds_toArray, List.set_cons_zero, List.set_cons_succ]; go_big_quiet_on)))
       refine wpQuiet_nil ?_
       intro w9 hk9
       (have hk' := hk9; simp only [KeptC, List.forall_mem_cons] at hk'; go_split_ands); have hkB9 := hk9.1
       go_wp2
       go_ret
       exact ⟨by rw [fit_stopD (k := 0) (by have := HNN.out; simp only []; omega) HO.out]; rfl, hkB9⟩
      | false =>
       rw [h1, h2] at ho
       have HO := Lib.hid ho
       clear ho
       go_wp2_with (fail)
       refine wp_region_quietC_lit (KeptC w [(⟨w.heap.size, 0, none⟩, .int .i64 nx), (⟨w.heap.size, 1, none⟩, .slice (some ad) n c), (⟨w.heap.size, 2, none⟩, .slice B m d), (P, .int .i64 x.num)] []) (by kernel_rfl) (by kernel_rfl) ?_ ?_
       · refine KeptC.drewn ?_
         exact Qk1 kb0
       repeat (first
        | go_big_quiet_skip
        | (go_big_quiet_want; (apply quietC_run); (· intro w' hw'; (have hk' := hw'; simp only [KeptC, List.forall_mem_cons] at hk'; go_split_ands); go_simp; first | done | rfl); (simp only [Act.put, List.setIfInBounds_toArray, List.set_cons_zero, List.set_cons_succ]; go_big_quiet_on))
        | (go_big_quiet_want; (apply quietC_call); (· intro w' hw'; go_simp; first | done | exact ⟨rfl, rfl⟩ | rfl); (· intro w' hw'; first | ((with_reducible refine (fail).mono ?_); rintro e w2 ⟨rfl, hb⟩; exact ⟨rfl, hw'.below hb⟩)); (simp only [Act.put, List.setIfInBounds_toArray, List.set_cons_zero, List.set_cons_succ]; go_big_quiet_on)))
       refine wpQuiet_nil ?_
       intro w9 hk9
       (have hk' := hk9; simp only [KeptC, List.forall_mem_cons] at hk'; go_split_ands); have hkB9 := hk9.1
       go_wp2
       go_roundw
       case rel => exact ⟨0 + 1, by omega, by go_num, Lib.hid (all_next HA.out HO.out), (Qk1 hkB9)⟩
       case measure => simp [intOf]; omega
    | succ k =>
     obtain ⟨ad, x, rfl, hab, hx, h4⟩ := H1.out.get hlt
     obtain ⟨P, hP⟩ : ∃ P, ad.add ((k + 1) * 4) = P := ⟨_, rfl⟩
     have hPb : P.block < w.heap.size := by rw [← hP, block_of_add]; exact hab
     rw [hP] at h4
     have e0 : wr.cell? P = some (.int .i64 x.num) := (kb0.cell (p := P) hPb).trans (by have := h4 0 _ rfl; rwa [add_z P] at this)
     have hPw : P.block < wr.heap.size := by omega
     obtain ⟨ad2, y, hA2, _, hy, g4⟩ := H1.out.get (j := k) (by omega)
     obtain rfl : ad = ad2 := Option.some.inj hA2
     obtain ⟨Q, hQ⟩ : ∃ Q, ad.add (k * 4) = Q := ⟨_, rfl⟩
     have hQb : Q.block < w.heap.size := by rw [← hQ, block_of_add]; exact hab
     rw [hQ] at g4
     have e1 : wr.cell? Q = some (.int .i64 y.num) := (kb0.cell (p := Q) hQb).trans (by have := g4 0 _ rfl; rwa [add_z Q] at this)
     have hwk : IntKind.i64.wrap (k : Int) = k := by rw [IntKind.wrap_i64]; omega
     have hkn : k < n := by omega
     have hQw : Q.block < wr.heap.size := by omega
     have ho := okD_succ (nx := nx) hx hy
     clear h4 hx g4 hy hA2
     cases h1 : decide (x.num < 1) with
     | true =>
      rw [h1] at ho
      have HO := Lib.hid ho
      clear ho
      go_wp2_with (fail)
      refine wp_region_quietC_lit (KeptC w [(⟨w.heap.size, 0, none⟩, .int .i64 nx), (⟨w.heap.size, 1, none⟩, .slice (some ad) n c), (⟨w.heap.size, 2, none⟩, .slice B m d), (P, .int .i64 x.num), (Q, .int .i64 y.num)] []) (by kernel_rfl) (by kernel_rfl) ?_ ?_
      · refine KeptC.drewn ?_
        exact Qk1 kb0
      repeat (first
       | go_big_quiet_skip
       | (go_big_quiet_want; (apply quietC_run); (· intro w' hw'; (have hk' := hw'; simp only [KeptC, List.forall_mem_cons] at hk'; go_split_ands); go_simp; first | done | rfl); (simp only [Act.put, List.setIfInBounds_toArray, List.set_cons_zero, List.set_cons_succ]; go_big_quiet_on))
       | (go_big_quiet_want; (apply quietC_call); (· intro w' hw'; go_simp; first | done | exact ⟨rfl, rfl⟩ | rfl); (· intro w' hw'; first | ((with_reducible refine (fail).mono ?_); rintro e w2 ⟨rfl, hb⟩; exact ⟨rfl, hw'.below hb⟩)); (simp only [Act.put, List.setIfInBounds_toArray, List.set_cons_zero, List.set_cons_succ]; go_big_quiet_on)))
      refine wpQuiet_nil ?_
      intro w9 hk9
      (have hk' := hk9; simp only [KeptC, List.forall_mem_cons] at hk'; go_split_ands); have hkB9 := hk9.1
      go_wp2
      go_ret
      exact ⟨by rw [fit_stopD (k := k + 1) (by have := HNN.out; simp only []; omega) HO.out]; rfl, hkB9⟩
     | false =>
      cases h2 : decide (nx < x.num) with
      | true =>
       rw [h1, h2] at ho
       have HO := Lib.hid ho
       clear ho
       go_wp2_with (fail)
       refine wp_region_quietC_lit (KeptC w [(⟨w.heap.size, 0, none⟩, .int .i64 nx), (⟨w.heap.size, 1, none⟩, .slice (some ad) n c), (⟨w.heap.size, 2, none⟩, .slice B m d), (P, .int .i64 x.num), (Q, .int .i64 y.num)] []) (by kernel_rfl) (by kernel_rfl) ?_ ?_
       · refine KeptC.drewn ?_
         exact Qk1 kb0
       repeat (first
        | go_big_quiet_skip
        | (go_big_quiet_want; (apply quietC_run); (· intro w' hw'; (have hk' := hw'; simp only [KeptC, List.forall_mem_cons] at hk'; go_split_ands); go_simp; first | done | rfl); (simp only [Act.put, List.setIfInBounds_toArray, List.set_cons_zero, List.set_cons_succ]; go_big_quiet_on))
        | (go_big_quiet_want; (apply quietC_call); (· intro w' hw'; go_simp; first | done | exact ⟨rfl, rfl⟩ | rfl); (· intro w' hw'; first | ((with_reducible refine (fail).mono ?_); rintro e w2 ⟨rfl, hb⟩; exact ⟨rfl, hw'.below hb⟩)); (simp only [Act.put, List.setIfInBounds_toArray, List.set_cons_zero, List.set_cons_succ]; go_big_quiet_on)))
       refine wpQuiet_nil ?_
       intro w9 hk9
       (have hk' := hk9; simp only [KeptC, List.forall_mem_cons] at hk'; go_split_ands); have hkB9 := hk9.1
       go_wp2
       go_ret
       exact ⟨by rw [fit_stopD (k := k + 1) (by have := HNN.out; simp only []; omega) HO.out]; rfl, hkB9⟩
      | false =>
       cases h3 : decide (x.num ≤ y.num) with
       | true =>
        rw [h1, h2, h3] at ho
        have HO := Lib.hid ho
        clear ho
        go_wp2_with (fail)
        refine wp_region_quietC_lit (KeptC w [(⟨w.heap.size, 0, none⟩, .int .i64 nx), (⟨w.heap.size, 1, none⟩, .slice (some ad) n c), (⟨w.heap.size, 2, none⟩, .slice B m d), (P, .int .i64 x.num), (Q, .int .i64 y.num)] []) (by kernel_rfl) (by kernel_rfl) ?_ ?_
        · refine KeptC.drewn ?_
          exact Qk1 kb0
        repeat (first
         | go_big_quiet_skip
         | (go_big_quiet_want; (apply quietC_run); (· intro w' hw'; (have hk' := hw'; simp only [KeptC, List.forall_mem_cons] at hk'; go_split_ands); go_simp; first | done | rfl); (simp only [Act.put, List.setIfInBounds_toArray, List.set_cons_zero, List.set_cons_succ]; go_big_quiet_on))
         | (go_big_quiet_want; (apply quietC_call); (· intro w' hw'; go_simp; first | done | exact ⟨rfl, rfl⟩ | rfl); (· intro w' hw'; first | ((with_reducible refine (fail).mono ?_); rintro e w2 ⟨rfl, hb⟩; exact ⟨rfl, hw'.below hb⟩)); (simp only [Act.put, List.setIfInBounds_toArray, List.set_cons_zero, List.set_cons_succ]; go_big_quiet_on)))
        refine wpQuiet_nil ?_
        intro w9 hk9
        (have hk' := hk9; simp only [KeptC, List.forall_mem_cons] at hk'; go_split_ands); have hkB9 := hk9.1
        go_wp2
        go_ret
        exact ⟨by rw [fit_stopD (k := k + 1) (by have := HNN.out; simp only []; omega) HO.out]; rfl, hkB9⟩
       | false =>
        rw [h1, h2, h3] at ho
        have HO := Lib.hid ho
        clear ho
        go_wp2_with (fail)
        refine wp_region_quietC_lit (KeptC w [(⟨w.heap.size, 0, none⟩, .int .i64 nx), (⟨w.heap.size, 1, none⟩, .slice (some ad) n c), (⟨w.heap.size, 2, none⟩, .slice B m d), (P, .int .i64 x.num), (Q, .int .i64 y.num)] []) (by kernel_rfl) (by kernel_rfl) ?_ ?_
        · refine KeptC.drewn ?_
          exact Qk1 kb0
        repeat (first
         | go_big_quiet_skip
         | (go_big_quiet_want; (apply quietC_run); (· intro w' hw'; (have hk' := hw'; simp only [KeptC, List.forall_mem_cons] at hk'; go_split_ands); go_simp; first | done | rfl); (simp only [Act.put, List.setIfInBounds_toArray, List.set_cons_zero, List.set_cons_succ]; go_big_quiet_on))
         | (go_big_quiet_want; (apply quietC_call); (· intro w' hw'; go_simp; first | done | exact ⟨rfl, rfl⟩ | rfl); (· intro w' hw'; first | ((with_reducible refine (fail).mono ?_); rintro e w2 ⟨rfl, hb⟩; exact ⟨rfl, hw'.below hb⟩)); (simp only [Act.put, List.setIfInBounds_toArray, List.set_cons_zero, List.set_cons_succ]; go_big_quiet_on)))
        refine wpQuiet_nil ?_
        intro w9 hk9
        (have hk' := hk9; simp only [KeptC, List.forall_mem_cons] at hk'; go_split_ands); have hkB9 := hk9.1
        go_wp2
        go_roundw
        case rel => exact ⟨k + 1 + 1, by omega, by go_num, Lib.hid (all_next HA.out HO.out), (Qk1 hkB9)⟩
        case measure => simp [intOf]; omega
end Go.Proofs.YtkfodkbgmpbmfaaGreat.Bg
