/- The reference's Fit and Copy of a mail: what each call computes. -/
import Derived.Test.YtdaobbffhfbceaaRfD
import Derived.Test.YtdaobbffhfbceaaBgN
import Derived.Test.YtdaobbffhfbceaaFtL
namespace Go.Proofs.Ytdaobbffhfbceaa
open Go.RowKit Go.Shelf
set_option linter.unusedVariables false
set_option linter.unusedSimpArgs false
set_option maxRecDepth 100000
set_option maxHeartbeats 4000000 in
theorem mfit_any (nx : Int) (A B : Option Addr) (n c m d : Nat) (ls : List Dg) (sv : List LK) (w : World) (h1 : RowsE encD 4 w w.heap.size A n ls) (h2 : RowsE encL 2 w w.heap.size B m sv) (hn : n ≤ 70368744177664) (hm : m ≤ 70368744177664) :
    Calls Try.prog 21 #[mAgg nx (.slice A n c) (.slice B m d)] w fun e w' => e = .returned (.bool (fitB ⟨nx, ls, sv⟩)) ∧ Below w.heap.size w w' := by
  have H1 := Lib.hid h1
  have H2 := Lib.hid h2
  have HNN := Lib.hid h1.1
  have HMM := Lib.hid h2.1
  clear h1 h2
  by_cases hx0 : nx < 0
  · go_enter Try.func21, Try.ntmps21
    go_wp2
    go_ret
    exact ⟨by rw [fit_head (.inl hx0)]; rfl, (by repeat (first | with_reducible refine Below.setCell ?_ (by first | (simp; done) | (simp; omega) | omega) _ | with_reducible refine Below.alloc ?_ (by first | (simp; done) | (simp; omega) | omega) _ | with_reducible refine Below.drew ?_ | with_reducible refine below_drewN ?_ _ | with_reducible exact Below.refl _ _))⟩
  by_cases hx1 : 4611686018427387904 < nx
  · go_enter Try.func21, Try.ntmps21
    go_wp2
    go_ret
    exact ⟨by rw [fit_head (.inr (.inl hx1))]; rfl, (by repeat (first | with_reducible refine Below.setCell ?_ (by first | (simp; done) | (simp; omega) | omega) _ | with_reducible refine Below.alloc ?_ (by first | (simp; done) | (simp; omega) | omega) _ | with_reducible refine Below.drew ?_ | with_reducible refine below_drewN ?_ _ | with_reducible exact Below.refl _ _))⟩
  by_cases hn5 : 65536 < n
  · have hn6 : (65536 : Int) < (n : Int) := by omega
    go_enter Try.func21, Try.ntmps21
    go_wp2
    go_ret
    exact ⟨by rw [fit_head (.inr (.inr (by have := HNN.out; simp only []; omega)))]; rfl, (by repeat (first | with_reducible refine Below.setCell ?_ (by first | (simp; done) | (simp; omega) | omega) _ | with_reducible refine Below.alloc ?_ (by first | (simp; done) | (simp; omega) | omega) _ | with_reducible refine Below.drew ?_ | with_reducible refine below_drewN ?_ _ | with_reducible exact Below.refl _ _))⟩
  have hn6 : decide ((65536 : Int) < (n : Int)) = false := decide_eq_false (by omega)
  have d0 : decide (nx < 0) = false := decide_eq_false hx0
  have d1 : decide (4611686018427387904 < nx) = false := decide_eq_false hx1
  have HX0 := Lib.hid hx0
  have HX1 := Lib.hid hx1
  clear hx0 hx1
  go_enter Try.func21, Try.ntmps21
  go_wp2
  clear d0 d1 hn6
  go_loopw [3] (fun i w' => ∃ (k : Nat), k ≤ n ∧ i = .int .i64 k ∧ Hid ((List.range k).all (okD nx ls) = true) ∧ KeptC w [(⟨w.heap.size, 0, none⟩, .int .i64 nx), (⟨w.heap.size, 1, none⟩, .slice A n c), (⟨w.heap.size, 2, none⟩, .slice B m d)] [] w') (fun i _ => n - (intOf i).toNat)
  case atStart => exact ⟨0, Nat.zero_le _, rfl, Lib.hid rfl, (by (repeat' (first | refine KeptC.cons ?_ ?_ | refine KeptC.consF ?_ ?_ ?_ | refine KeptC.mk0 ?_)); all_goals (first | with_reducible assumption | (go_simp; done) | (simp; omega) | exact (by repeat (first | with_reducible refine Below.setCell ?_ (by first | (simp; done) | (simp; omega) | omega) _ | with_reducible refine Below.alloc ?_ (by first | (simp; done) | (simp; omega) | omega) _ | with_reducible refine Below.drew ?_ | with_reducible refine below_drewN ?_ _ | with_reducible exact Below.refl _ _))))⟩
  case round =>
    obtain ⟨k, hk, rfl, HA, hK⟩ := hrel
    have HK := Lib.hid hK
    simp only [KeptC, List.forall_mem_cons] at hK; obtain ⟨kb0, ⟨kc0_0, kc0_1, kc0_2, _⟩, _⟩ := hK
    have hs0 := kb0.size
    have hz0 : w.heap.size < wr.heap.size := cell_lt kc0_0
    by_cases hlt : k < n
    rotate_left
    · obtain rfl : k = n := by omega
      obtain ⟨wo, hwo⟩ : ∃ wo, wo = wr := ⟨_, rfl⟩
      subst hwo
      go_wp2
      clear kc0_0 kc0_1 kc0_2 hz0 hs0
      go_loopw [4] (fun i w' => ∃ (q : Nat), q ≤ m ∧ i = .int .i64 q ∧ Hid ((List.range q).all (okK sv) = true) ∧ KeptC w [(⟨w.heap.size, 0, none⟩, .int .i64 nx), (⟨w.heap.size, 1, none⟩, .slice A k c), (⟨w.heap.size, 2, none⟩, .slice B m d)] [] w') (fun i _ => m - (intOf i).toNat)
      case atStart => exact ⟨0, Nat.zero_le _, rfl, Lib.hid rfl, HK.out⟩
      case round =>
        obtain ⟨q, hq, rfl, HA2, hK⟩ := hrel
        clear kb0 HK
        simp only [KeptC, List.forall_mem_cons] at hK; obtain ⟨kb0, ⟨kc0_0, kc0_1, kc0_2, _⟩, _⟩ := hK
        have hs0 := kb0.size
        have hz0 : w.heap.size < wr.heap.size := cell_lt kc0_0
        by_cases hlt : q < m
        rotate_left
        · obtain rfl : q = m := by omega
          have HE : Hid (fitB ⟨nx, ls, sv⟩ = true) := Lib.hid (fit_all (by have := HX0.out; simp only []; omega) (by have := HX1.out; simp only []; omega) (by have := HNN.out; simp only []; omega) (by simp only []; rw [HNN.out]; exact HA.out) (by simp only []; rw [HMM.out]; exact HA2.out))
          go_wp2
          go_ret
          exact ⟨by rw [HE.out]; rfl, kb0⟩
        · cases q with
          | zero =>
            obtain ⟨ad, x, rfl, hab, hx, h4⟩ := H2.out.get hlt
            obtain ⟨P, hP⟩ : ∃ P, ad.add (0 * 2) = P := ⟨_, rfl⟩
            have hPb : P.block < w.heap.size := by rw [← hP, block_of_add]; exact hab
            rw [hP] at h4
            have e0 : wr.cell? P = some (.int .i64 x.1) := (kb0.cell (p := P) hPb).trans (by have := h4 0 _ rfl; rwa [add_z P] at this)
            have e0' : wr.cell? ⟨P.block, P.off + 1, none⟩ = some (.int .i64 x.2) := (kb0.cell (p := ⟨P.block, P.off + 1, none⟩) hPb).trans (by have := h4 1 _ rfl; rwa [add_next P 0] at this)
            have hPw : P.block < wr.heap.size := by omega
            have ho := okK_zero hx
            clear h4 hx
            cases h1 : decide (x.2 ≤ x.1) with
            | true =>
              rw [h1] at ho
              have HO := Lib.hid ho
              clear ho
              go_wp2_with (fail)
              refine wp_region_quietC_lit (KeptC w [(⟨w.heap.size, 0, none⟩, .int .i64 nx), (⟨w.heap.size, 1, none⟩, .slice A k c), (⟨w.heap.size, 2, none⟩, .slice (some ad) m d), (⟨wr.heap.size, 0, none⟩, .int .i64 x.1), (⟨wr.heap.size, 1, none⟩, .int .i64 x.2)] []) (by kernel_rfl) (by kernel_rfl) ?_ ?_
              · refine KeptC.drewn ?_
                repeat' (first | refine KeptC.cons ?_ ?_ | refine KeptC.consF ?_ ?_ ?_ | refine KeptC.mk0 ?_)
                all_goals (first | with_reducible assumption | (go_simp; done) | (simp; omega) | exact (by repeat (first | with_reducible refine Below.setCell ?_ (by first | (simp; done) | (simp; omega) | omega) _ | with_reducible refine Below.alloc ?_ (by first | (simp; done) | (simp; omega) | omega) _ | with_reducible refine Below.drew ?_ | with_reducible refine below_drewN ?_ _ | with_reducible exact Below.refl _ _ | with_reducible refine Below.trans ?_ (Below.mono kb0 (by first | (simp; done) | (simp; omega) | omega)))))
              repeat (first
                | go_big_quiet_skip
                | (go_big_quiet_want; (apply quietC_run); (· intro w' hw'; (have hk' := hw'; simp only [KeptC, List.forall_mem_cons] at hk'; go_split_ands); go_simp; first | done | rfl); (simp only [Act.put, List.setIfInBounds_toArray, List.set_cons_zero, List.set_cons_succ]; go_big_quiet_on))
                | (go_big_quiet_want; (apply quietC_call); (· intro w' hw'; go_simp; first | done | exact ⟨rfl, rfl⟩ | rfl); (· intro w' hw'; first | ((with_reducible refine (fail).mono ?_); rintro e w2 ⟨rfl, hb⟩; exact ⟨rfl, hw'.below hb⟩)); (simp only [Act.put, List.setIfInBounds_toArray, List.set_cons_zero, List.set_cons_succ]; go_big_quiet_on)))
              refine wpQuiet_nil ?_
              intro w9 hk9
              (have hk' := hk9; simp only [KeptC, List.forall_mem_cons] at hk'; go_split_ands); have hkB9 := hk9.1
              go_wp2
              go_ret
              exact ⟨by rw [fit_stopK (k := 0) (by have := HMM.out; simp only []; omega) HO.out]; rfl, hkB9⟩
            | false =>
              rw [h1] at ho
              have HO := Lib.hid ho
              clear ho
              go_wp2_with (fail)
              refine wp_region_quietC_lit (KeptC w [(⟨w.heap.size, 0, none⟩, .int .i64 nx), (⟨w.heap.size, 1, none⟩, .slice A k c), (⟨w.heap.size, 2, none⟩, .slice (some ad) m d), (⟨wr.heap.size, 0, none⟩, .int .i64 x.1), (⟨wr.heap.size, 1, none⟩, .int .i64 x.2)] []) (by kernel_rfl) (by kernel_rfl) ?_ ?_
              · refine KeptC.drewn ?_
                repeat' (first | refine KeptC.cons ?_ ?_ | refine KeptC.consF ?_ ?_ ?_ | refine KeptC.mk0 ?_)
                all_goals (first | with_reducible assumption | (go_simp; done) | (simp; omega) | exact (by repeat (first | with_reducible refine Below.setCell ?_ (by first | (simp; done) | (simp; omega) | omega) _ | with_reducible refine Below.alloc ?_ (by first | (simp; done) | (simp; omega) | omega) _ | with_reducible refine Below.drew ?_ | with_reducible refine below_drewN ?_ _ | with_reducible exact Below.refl _ _ | with_reducible refine Below.trans ?_ (Below.mono kb0 (by first | (simp; done) | (simp; omega) | omega)))))
              repeat (first
                | go_big_quiet_skip
                | (go_big_quiet_want; (apply quietC_run); (· intro w' hw'; (have hk' := hw'; simp only [KeptC, List.forall_mem_cons] at hk'; go_split_ands); go_simp; first | done | rfl); (simp only [Act.put, List.setIfInBounds_toArray, List.set_cons_zero, List.set_cons_succ]; go_big_quiet_on))
                | (go_big_quiet_want; (apply quietC_call); (· intro w' hw'; go_simp; first | done | exact ⟨rfl, rfl⟩ | rfl); (· intro w' hw'; first | ((with_reducible refine (fail).mono ?_); rintro e w2 ⟨rfl, hb⟩; exact ⟨rfl, hw'.below hb⟩)); (simp only [Act.put, List.setIfInBounds_toArray, List.set_cons_zero, List.set_cons_succ]; go_big_quiet_on)))
              refine wpQuiet_nil ?_
              intro w9 hk9
              (have hk' := hk9; simp only [KeptC, List.forall_mem_cons] at hk'; go_split_ands); have hkB9 := hk9.1
              go_wp2
              go_roundw
              case rel => exact ⟨0 + 1, by omega, by go_num, Lib.hid (all_next HA2.out HO.out), (by (repeat' (first | refine KeptC.cons ?_ ?_ | refine KeptC.consF ?_ ?_ ?_ | refine KeptC.mk0 ?_)); all_goals (first | with_reducible assumption | (go_simp; done) | (simp; omega) | exact (by repeat (first | with_reducible refine Below.setCell ?_ (by first | (simp; done) | (simp; omega) | omega) _ | with_reducible refine Below.alloc ?_ (by first | (simp; done) | (simp; omega) | omega) _ | with_reducible refine Below.drew ?_ | with_reducible refine below_drewN ?_ _ | with_reducible exact Below.refl _ _ | with_reducible refine Below.trans ?_ (Below.mono hkB9 (by first | (simp; done) | (simp; omega) | omega))))))⟩
              case measure => simp [intOf]; omega
          | succ q =>
            obtain ⟨ad, x, rfl, hab, hx, h4⟩ := H2.out.get hlt
            obtain ⟨P, hP⟩ : ∃ P, ad.add ((q + 1) * 2) = P := ⟨_, rfl⟩
            have hPb : P.block < w.heap.size := by rw [← hP, block_of_add]; exact hab
            rw [hP] at h4
            have e0 : wr.cell? P = some (.int .i64 x.1) := (kb0.cell (p := P) hPb).trans (by have := h4 0 _ rfl; rwa [add_z P] at this)
            have e0' : wr.cell? ⟨P.block, P.off + 1, none⟩ = some (.int .i64 x.2) := (kb0.cell (p := ⟨P.block, P.off + 1, none⟩) hPb).trans (by have := h4 1 _ rfl; rwa [add_next P 0] at this)
            have hPw : P.block < wr.heap.size := by omega
            obtain ⟨ad2, y, hA2, _, hy, g4⟩ := H2.out.get (j := q) (by omega)
            obtain rfl : ad = ad2 := Option.some.inj hA2
            obtain ⟨Q, hQ⟩ : ∃ Q, ad.add (q * 2) = Q := ⟨_, rfl⟩
            have hQb : Q.block < w.heap.size := by rw [← hQ, block_of_add]; exact hab
            rw [hQ] at g4
            have e1 : wr.cell? Q = some (.int .i64 y.1) := (kb0.cell (p := Q) hQb).trans (by have := g4 0 _ rfl; rwa [add_z Q] at this)
            have e1' : wr.cell? ⟨Q.block, Q.off + 1, none⟩ = some (.int .i64 y.2) := (kb0.cell (p := ⟨Q.block, Q.off + 1, none⟩) hQb).trans (by have := g4 1 _ rfl; rwa [add_next Q 0] at this)
            have hwk : IntKind.i64.wrap (q : Int) = q := by rw [IntKind.wrap_i64]; omega
            have hkn : q < m := by omega
            have hQw : Q.block < wr.heap.size := by omega
            have ho := okK_succ hx hy
            clear h4 hx g4 hy hA2
            have CL : Hid (∀ W, Calls Try.prog 35 #[lAgg y, lAgg x] W fun e w' => e = .returned (.bool (ltL y x)) ∧ Below W.heap.size W w') := Lib.hid (less_any y x)
            cases h1 : decide (x.2 ≤ x.1) with
            | true =>
              rw [h1] at ho
              have HO := Lib.hid ho
              clear ho
              go_wp2_with (fail)
              refine wp_region_quietC_lit (KeptC w [(⟨w.heap.size, 0, none⟩, .int .i64 nx), (⟨w.heap.size, 1, none⟩, .slice A k c), (⟨w.heap.size, 2, none⟩, .slice (some ad) m d), (⟨wr.heap.size, 0, none⟩, .int .i64 x.1), (⟨wr.heap.size, 1, none⟩, .int .i64 x.2), (Q, .int .i64 y.1), (⟨Q.block, Q.off + 1, none⟩, .int .i64 y.2)] []) (by kernel_rfl) (by kernel_rfl) ?_ ?_
              · refine KeptC.drewn ?_
                repeat' (first | refine KeptC.cons ?_ ?_ | refine KeptC.consF ?_ ?_ ?_ | refine KeptC.mk0 ?_)
                all_goals (first | with_reducible assumption | (go_simp; done) | (simp; omega) | exact (by repeat (first | with_reducible refine Below.setCell ?_ (by first | (simp; done) | (simp; omega) | omega) _ | with_reducible refine Below.alloc ?_ (by first | (simp; done) | (simp; omega) | omega) _ | with_reducible refine Below.drew ?_ | with_reducible refine below_drewN ?_ _ | with_reducible exact Below.refl _ _ | with_reducible refine Below.trans ?_ (Below.mono kb0 (by first | (simp; done) | (simp; omega) | omega)))))
              repeat (first
                | go_big_quiet_skip
                | (go_big_quiet_want; (apply quietC_run); (· intro w' hw'; (have hk' := hw'; simp only [KeptC, List.forall_mem_cons] at hk'; go_split_ands); go_simp; first | done | rfl); (simp only [Act.put, List.setIfInBounds_toArray, List.set_cons_zero, List.set_cons_succ]; go_big_quiet_on))
                | (go_big_quiet_want; (apply quietC_call); (· intro w' hw'; go_simp; first | done | exact ⟨rfl, rfl⟩ | rfl); (· intro w' hw'; first | ((with_reducible refine (fail).mono ?_); rintro e w2 ⟨rfl, hb⟩; exact ⟨rfl, hw'.below hb⟩)); (simp only [Act.put, List.setIfInBounds_toArray, List.set_cons_zero, List.set_cons_succ]; go_big_quiet_on)))
              refine wpQuiet_nil ?_
              intro w9 hk9
              (have hk' := hk9; simp only [KeptC, List.forall_mem_cons] at hk'; go_split_ands); have hkB9 := hk9.1
              go_wp2
              go_ret
              exact ⟨by rw [fit_stopK (k := q + 1) (by have := HMM.out; simp only []; omega) HO.out]; rfl, hkB9⟩
            | false =>
              cases h2 : ltL y x with
              | false =>
                rw [h1, h2] at ho
                rw [h2] at CL
                have HO := Lib.hid ho
                clear ho h2
                go_wp2_with (fail)
                refine wp_region_quietC_lit (KeptC w [(⟨w.heap.size, 0, none⟩, .int .i64 nx), (⟨w.heap.size, 1, none⟩, .slice A k c), (⟨w.heap.size, 2, none⟩, .slice (some ad) m d), (⟨wr.heap.size, 0, none⟩, .int .i64 x.1), (⟨wr.heap.size, 1, none⟩, .int .i64 x.2), (Q, .int .i64 y.1), (⟨Q.block, Q.off + 1, none⟩, .int .i64 y.2)] []) (by kernel_rfl) (by kernel_rfl) ?_ ?_
                · refine KeptC.drewn ?_
                  repeat' (first | refine KeptC.cons ?_ ?_ | refine KeptC.consF ?_ ?_ ?_ | refine KeptC.mk0 ?_)
                  all_goals (first | with_reducible assumption | (go_simp; done) | (simp; omega) | exact (by repeat (first | with_reducible refine Below.setCell ?_ (by first | (simp; done) | (simp; omega) | omega) _ | with_reducible refine Below.alloc ?_ (by first | (simp; done) | (simp; omega) | omega) _ | with_reducible refine Below.drew ?_ | with_reducible refine below_drewN ?_ _ | with_reducible exact Below.refl _ _ | with_reducible refine Below.trans ?_ (Below.mono kb0 (by first | (simp; done) | (simp; omega) | omega)))))
                repeat (first
                  | go_big_quiet_skip
                  | (go_big_quiet_want; (apply quietC_run); (· intro w' hw'; (have hk' := hw'; simp only [KeptC, List.forall_mem_cons] at hk'; go_split_ands); go_simp; first | done | rfl); (simp only [Act.put, List.setIfInBounds_toArray, List.set_cons_zero, List.set_cons_succ]; go_big_quiet_on))
                  | (go_big_quiet_want; (apply quietC_call); (· intro w' hw'; go_simp; first | done | exact ⟨rfl, rfl⟩ | rfl); (· intro w' hw'; first | ((with_reducible refine (CL.out _).mono ?_); rintro e w2 ⟨rfl, hb⟩; exact ⟨rfl, hw'.below hb⟩)); (simp only [Act.put, List.setIfInBounds_toArray, List.set_cons_zero, List.set_cons_succ]; go_big_quiet_on)))
                refine wpQuiet_nil ?_
                intro w9 hk9
                (have hk' := hk9; simp only [KeptC, List.forall_mem_cons] at hk'; go_split_ands); have hkB9 := hk9.1
                go_wp2
                go_ret
                exact ⟨by rw [fit_stopK (k := q + 1) (by have := HMM.out; simp only []; omega) HO.out]; rfl, hkB9⟩
              | true =>
                rw [h1, h2] at ho
                rw [h2] at CL
                have HO := Lib.hid ho
                clear ho h2
                go_wp2_with (fail)
                refine wp_region_quietC_lit (KeptC w [(⟨w.heap.size, 0, none⟩, .int .i64 nx), (⟨w.heap.size, 1, none⟩, .slice A k c), (⟨w.heap.size, 2, none⟩, .slice (some ad) m d), (⟨wr.heap.size, 0, none⟩, .int .i64 x.1), (⟨wr.heap.size, 1, none⟩, .int .i64 x.2), (Q, .int .i64 y.1), (⟨Q.block, Q.off + 1, none⟩, .int .i64 y.2)] []) (by kernel_rfl) (by kernel_rfl) ?_ ?_
                · refine KeptC.drewn ?_
                  repeat' (first | refine KeptC.cons ?_ ?_ | refine KeptC.consF ?_ ?_ ?_ | refine KeptC.mk0 ?_)
                  all_goals (first | with_reducible assumption | (go_simp; done) | (simp; omega) | exact (by repeat (first | with_reducible refine Below.setCell ?_ (by first | (simp; done) | (simp; omega) | omega) _ | with_reducible refine Below.alloc ?_ (by first | (simp; done) | (simp; omega) | omega) _ | with_reducible refine Below.drew ?_ | with_reducible refine below_drewN ?_ _ | with_reducible exact Below.refl _ _ | with_reducible refine Below.trans ?_ (Below.mono kb0 (by first | (simp; done) | (simp; omega) | omega)))))
                repeat (first
                  | go_big_quiet_skip
                  | (go_big_quiet_want; (apply quietC_run); (· intro w' hw'; (have hk' := hw'; simp only [KeptC, List.forall_mem_cons] at hk'; go_split_ands); go_simp; first | done | rfl); (simp only [Act.put, List.setIfInBounds_toArray, List.set_cons_zero, List.set_cons_succ]; go_big_quiet_on))
                  | (go_big_quiet_want; (apply quietC_call); (· intro w' hw'; go_simp; first | done | exact ⟨rfl, rfl⟩ | rfl); (· intro w' hw'; first | ((with_reducible refine (CL.out _).mono ?_); rintro e w2 ⟨rfl, hb⟩; exact ⟨rfl, hw'.below hb⟩)); (simp only [Act.put, List.setIfInBounds_toArray, List.set_cons_zero, List.set_cons_succ]; go_big_quiet_on)))
                refine wpQuiet_nil ?_
                intro w9 hk9
                (have hk' := hk9; simp only [KeptC, List.forall_mem_cons] at hk'; go_split_ands); have hkB9 := hk9.1
                go_wp2
                go_roundw
                case rel => exact ⟨q + 1 + 1, by omega, by go_num, Lib.hid (all_next HA2.out HO.out), (by (repeat' (first | refine KeptC.cons ?_ ?_ | refine KeptC.consF ?_ ?_ ?_ | refine KeptC.mk0 ?_)); all_goals (first | with_reducible assumption | (go_simp; done) | (simp; omega) | exact (by repeat (first | with_reducible refine Below.setCell ?_ (by first | (simp; done) | (simp; omega) | omega) _ | with_reducible refine Below.alloc ?_ (by first | (simp; done) | (simp; omega) | omega) _ | with_reducible refine Below.drew ?_ | with_reducible refine below_drewN ?_ _ | with_reducible exact Below.refl _ _ | with_reducible refine Below.trans ?_ (Below.mono hkB9 (by first | (simp; done) | (simp; omega) | omega))))))⟩
                case measure => simp [intOf]; omega
    · cases k with
      | zero =>
        obtain ⟨ad, x, rfl, hab, hx, h4⟩ := H1.out.get hlt
        obtain ⟨P, hP⟩ : ∃ P, ad.add (0 * 4) = P := ⟨_, rfl⟩
        have hPb : P.block < w.heap.size := by rw [← hP, block_of_add]; exact hab
        rw [hP] at h4
        have e0 : wr.cell? P = some (.int .i64 x.num) := (kb0.cell (p := P) hPb).trans (by have := h4 0 _ rfl; rwa [add_z P] at this)
        have hPw : P.block < wr.heap.size := by omega
        have ho := okD_zero (nx := nx) hx
        clear h4 hx
        cases h1 : decide (x.num < 1) with
        | true =>
          rw [h1] at ho
          have HO := Lib.hid ho
          clear ho
          go_wp2_with (fail)
          refine wp_region_quietC_lit (KeptC w [(⟨w.heap.size, 0, none⟩, .int .i64 nx), (⟨w.heap.size, 1, none⟩, .slice (some ad) n c), (⟨w.heap.size, 2, none⟩, .slice B m d), (P, .int .i64 x.num)] []) (by kernel_rfl) (by kernel_rfl) ?_ ?_
          · refine KeptC.drewn ?_
            repeat' (first | refine KeptC.cons ?_ ?_ | refine KeptC.consF ?_ ?_ ?_ | refine KeptC.mk0 ?_)
            all_goals (first | with_reducible assumption | (go_simp; done) | (simp; omega) | exact (by repeat (first | with_reducible refine Below.setCell ?_ (by first | (simp; done) | (simp; omega) | omega) _ | with_reducible refine Below.alloc ?_ (by first | (simp; done) | (simp; omega) | omega) _ | with_reducible refine Below.drew ?_ | with_reducible refine below_drewN ?_ _ | with_reducible exact Below.refl _ _ | with_reducible refine Below.trans ?_ (Below.mono kb0 (by first | (simp; done) | (simp; omega) | omega)))))
          repeat (first
            | go_big_quiet_skip
            | (go_big_quiet_want; (apply quietC_run); (· intro w' hw'; (have hk' := hw'; simp only [KeptC, List.forall_mem_cons] at hk'; go_split_ands); go_simp; first | done | rfl); (simp only [Act.put, List.setIfInBounds_toArray, List.set_cons_zero, List.set_cons_succ]; go_big_quiet_on))
            | (go_big_quiet_want; (apply quietC_call); (· intro w' hw'; go_simp; first | done | exact ⟨rfl, rfl⟩ | rfl); (· intro w' hw'; first | ((with_reducible refine (fail).mono ?_); rintro e w2 ⟨rfl, hb⟩; exact ⟨rfl, hw'.below hb⟩)); (simp only [Act.put, List.setIfInBounds_toArray, List.set_cons_zero, List.set_cons_succ]; go_big_quiet_on)))
          refine wpQuiet_nil ?_
          intro w9 hk9
          (have hk' := hk9; simp only [KeptC, List.forall_mem_cons] at hk'; go_split_ands); have hkB9 := hk9.1
          go_wp2
          go_ret
          exact ⟨by rw [fit_stopD (k := 0) (by have := HNN.out; simp only []; omega) HO.out]; rfl, hkB9⟩
        | false =>
          cases h2 : decide (nx < x.num) with
          | true =>
            rw [h1, h2] at ho
            have HO := Lib.hid ho
            clear ho
            go_wp2_with (fail)
            refine wp_region_quietC_lit (KeptC w [(⟨w.heap.size, 0, none⟩, .int .i64 nx), (⟨w.heap.size, 1, none⟩, .slice (some ad) n c), (⟨w.heap.size, 2, none⟩, .slice B m d), (P, .int .i64 x.num)] []) (by kernel_rfl) (by kernel_rfl) ?_ ?_
            · refine KeptC.drewn ?_
              repeat' (first | refine KeptC.cons ?_ ?_ | refine KeptC.consF ?_ ?_ ?_ | refine KeptC.mk0 ?_)
              all_goals (first | with_reducible assumption | (go_simp; done) | (simp; omega) | exact (by repeat (first | with_reducible refine Below.setCell ?_ (by first | (simp; done) | (simp; omega) | omega) _ | with_reducible refine Below.alloc ?_ (by first | (simp; done) | (simp; omega) | omega) _ | with_reducible refine Below.drew ?_ | with_reducible refine below_drewN ?_ _ | with_reducible exact Below.refl _ _ | with_reducible refine Below.trans ?_ (Below.mono kb0 (by first | (simp; done) | (simp; omega) | omega)))))
            repeat (first
              | go_big_quiet_skip
              | (go_big_quiet_want; (apply quietC_run); (· intro w' hw'; (have hk' := hw'; simp only [KeptC, List.forall_mem_cons] at hk'; go_split_ands); go_simp; first | done | rfl); (simp only [Act.put, List.setIfInBounds_toArray, List.set_cons_zero, List.set_cons_succ]; go_big_quiet_on))
              | (go_big_quiet_want; (apply quietC_call); (· intro w' hw'; go_simp; first | done | exact ⟨rfl, rfl⟩ | rfl); (· intro w' hw'; first | ((with_reducible refine (fail).mono ?_); rintro e w2 ⟨rfl, hb⟩; exact ⟨rfl, hw'.below hb⟩)); (simp only [Act.put, List.setIfInBounds_toArray, List.set_cons_zero, List.set_cons_succ]; go_big_quiet_on)))
            refine wpQuiet_nil ?_
            intro w9 hk9
            (have hk' := hk9; simp only [KeptC, List.forall_mem_cons] at hk'; go_split_ands); have hkB9 := hk9.1
            go_wp2
            go_ret
            exact ⟨by rw [fit_stopD (k := 0) (by have := HNN.out; simp only []; omega) HO.out]; rfl, hkB9⟩
          | false =>
            rw [h1, h2] at ho
            have HO := Lib.hid ho
            clear ho
            go_wp2_with (fail)
            refine wp_region_quietC_lit (KeptC w [(⟨w.heap.size, 0, none⟩, .int .i64 nx), (⟨w.heap.size, 1, none⟩, .slice (some ad) n c), (⟨w.heap.size, 2, none⟩, .slice B m d), (P, .int .i64 x.num)] []) (by kernel_rfl) (by kernel_rfl) ?_ ?_
            · refine KeptC.drewn ?_
              repeat' (first | refine KeptC.cons ?_ ?_ | refine KeptC.consF ?_ ?_ ?_ | refine KeptC.mk0 ?_)
              all_goals (first | with_reducible assumption | (go_simp; done) | (simp; omega) | exact (by repeat (first | with_reducible refine Below.setCell ?_ (by first | (simp; done) | (simp; omega) | omega) _ | with_reducible refine Below.alloc ?_ (by first | (simp; done) | (simp; omega) | omega) _ | with_reducible refine Below.drew ?_ | with_reducible refine below_drewN ?_ _ | with_reducible exact Below.refl _ _ | with_reducible refine Below.trans ?_ (Below.mono kb0 (by first | (simp; done) | (simp; omega) | omega)))))
            repeat (first
              | go_big_quiet_skip
              | (go_big_quiet_want; (apply quietC_run); (· intro w' hw'; (have hk' := hw'; simp only [KeptC, List.forall_mem_cons] at hk'; go_split_ands); go_simp; first | done | rfl); (simp only [Act.put, List.setIfInBounds_toArray, List.set_cons_zero, List.set_cons_succ]; go_big_quiet_on))
              | (go_big_quiet_want; (apply quietC_call); (· intro w' hw'; go_simp; first | done | exact ⟨rfl, rfl⟩ | rfl); (· intro w' hw'; first | ((with_reducible refine (fail).mono ?_); rintro e w2 ⟨rfl, hb⟩; exact ⟨rfl, hw'.below hb⟩)); (simp only [Act.put, List.setIfInBounds_toArray, List.set_cons_zero, List.set_cons_succ]; go_big_quiet_on)))
            refine wpQuiet_nil ?_
            intro w9 hk9
            (have hk' := hk9; simp only [KeptC, List.forall_mem_cons] at hk'; go_split_ands); have hkB9 := hk9.1
            go_wp2
            go_roundw
            case rel => exact ⟨0 + 1, by omega, by go_num, Lib.hid (all_next HA.out HO.out), (by (repeat' (first | refine KeptC.cons ?_ ?_ | refine KeptC.consF ?_ ?_ ?_ | refine KeptC.mk0 ?_)); all_goals (first | with_reducible assumption | (go_simp; done) | (simp; omega) | exact (by repeat (first | with_reducible refine Below.setCell ?_ (by first | (simp; done) | (simp; omega) | omega) _ | with_reducible refine Below.alloc ?_ (by first | (simp; done) | (simp; omega) | omega) _ | with_reducible refine Below.drew ?_ | with_reducible refine below_drewN ?_ _ | with_reducible exact Below.refl _ _ | with_reducible refine Below.trans ?_ (Below.mono hkB9 (by first | (simp; done) | (simp; omega) | omega))))))⟩
            case measure => simp [intOf]; omega
      | succ k =>
        obtain ⟨ad, x, rfl, hab, hx, h4⟩ := H1.out.get hlt
        obtain ⟨P, hP⟩ : ∃ P, ad.add ((k + 1) * 4) = P := ⟨_, rfl⟩
        have hPb : P.block < w.heap.size := by rw [← hP, block_of_add]; exact hab
        rw [hP] at h4
        have e0 : wr.cell? P = some (.int .i64 x.num) := (kb0.cell (p := P) hPb).trans (by have := h4 0 _ rfl; rwa [add_z P] at this)
        have hPw : P.block < wr.heap.size := by omega
        obtain ⟨ad2, y, hA2, _, hy, g4⟩ := H1.out.get (j := k) (by omega)
        obtain rfl : ad = ad2 := Option.some.inj hA2
        obtain ⟨Q, hQ⟩ : ∃ Q, ad.add (k * 4) = Q := ⟨_, rfl⟩
        have hQb : Q.block < w.heap.size := by rw [← hQ, block_of_add]; exact hab
        rw [hQ] at g4
        have e1 : wr.cell? Q = some (.int .i64 y.num) := (kb0.cell (p := Q) hQb).trans (by have := g4 0 _ rfl; rwa [add_z Q] at this)
        have hwk : IntKind.i64.wrap (k : Int) = k := by rw [IntKind.wrap_i64]; omega
        have hkn : k < n := by omega
        have hQw : Q.block < wr.heap.size := by omega
        have ho := okD_succ (nx := nx) hx hy
        clear h4 hx g4 hy hA2
        cases h1 : decide (x.num < 1) with
        | true =>
          rw [h1] at ho
          have HO := Lib.hid ho
          clear ho
          go_wp2_with (fail)
          refine wp_region_quietC_lit (KeptC w [(⟨w.heap.size, 0, none⟩, .int .i64 nx), (⟨w.heap.size, 1, none⟩, .slice (some ad) n c), (⟨w.heap.size, 2, none⟩, .slice B m d), (P, .int .i64 x.num), (Q, .int .i64 y.num)] []) (by kernel_rfl) (by kernel_rfl) ?_ ?_
          · refine KeptC.drewn ?_
            repeat' (first | refine KeptC.cons ?_ ?_ | refine KeptC.consF ?_ ?_ ?_ | refine KeptC.mk0 ?_)
            all_goals (first | with_reducible assumption | (go_simp; done) | (simp; omega) | exact (by repeat (first | with_reducible refine Below.setCell ?_ (by first | (simp; done) | (simp; omega) | omega) _ | with_reducible refine Below.alloc ?_ (by first | (simp; done) | (simp; omega) | omega) _ | with_reducible refine Below.drew ?_ | with_reducible refine below_drewN ?_ _ | with_reducible exact Below.refl _ _ | with_reducible refine Below.trans ?_ (Below.mono kb0 (by first | (simp; done) | (simp; omega) | omega)))))
          repeat (first
            | go_big_quiet_skip
            | (go_big_quiet_want; (apply quietC_run); (· intro w' hw'; (have hk' := hw'; simp only [KeptC, List.forall_mem_cons] at hk'; go_split_ands); go_simp; first | done | rfl); (simp only [Act.put, List.setIfInBounds_toArray, List.set_cons_zero, List.set_cons_succ]; go_big_quiet_on))
            | (go_big_quiet_want; (apply quietC_call); (· intro w' hw'; go_simp; first | done | exact ⟨rfl, rfl⟩ | rfl); (· intro w' hw'; first | ((with_reducible refine (fail).mono ?_); rintro e w2 ⟨rfl, hb⟩; exact ⟨rfl, hw'.below hb⟩)); (simp only [Act.put, List.setIfInBounds_toArray, List.set_cons_zero, List.set_cons_succ]; go_big_quiet_on)))
          refine wpQuiet_nil ?_
          intro w9 hk9
          (have hk' := hk9; simp only [KeptC, List.forall_mem_cons] at hk'; go_split_ands); have hkB9 := hk9.1
          go_wp2
          go_ret
          exact ⟨by rw [fit_stopD (k := k + 1) (by have := HNN.out; simp only []; omega) HO.out]; rfl, hkB9⟩
        | false =>
          cases h2 : decide (nx < x.num) with
          | true =>
            rw [h1, h2] at ho
            have HO := Lib.hid ho
            clear ho
            go_wp2_with (fail)
            refine wp_region_quietC_lit (KeptC w [(⟨w.heap.size, 0, none⟩, .int .i64 nx), (⟨w.heap.size, 1, none⟩, .slice (some ad) n c), (⟨w.heap.size, 2, none⟩, .slice B m d), (P, .int .i64 x.num), (Q, .int .i64 y.num)] []) (by kernel_rfl) (by kernel_rfl) ?_ ?_
            · refine KeptC.drewn ?_
              repeat' (first | refine KeptC.cons ?_ ?_ | refine KeptC.consF ?_ ?_ ?_ | refine KeptC.mk0 ?_)
              all_goals (first | with_reducible assumption | (go_simp; done) | (simp; omega) | exact (by repeat (first | with_reducible refine Below.setCell ?_ (by first | (simp; done) | (simp; omega) | omega) _ | with_reducible refine Below.alloc ?_ (by first | (simp; done) | (simp; omega) | omega) _ | with_reducible refine Below.drew ?_ | with_reducible refine below_drewN ?_ _ | with_reducible exact Below.refl _ _ | with_reducible refine Below.trans ?_ (Below.mono kb0 (by first | (simp; done) | (simp; omega) | omega)))))
            repeat (first
              | go_big_quiet_skip
              | (go_big_quiet_want; (apply quietC_run); (· intro w' hw'; (have hk' := hw'; simp only [KeptC, List.forall_mem_cons] at hk'; go_split_ands); go_simp; first | done | rfl); (simp only [Act.put, List.setIfInBounds_toArray, List.set_cons_zero, List.set_cons_succ]; go_big_quiet_on))
              | (go_big_quiet_want; (apply quietC_call); (· intro w' hw'; go_simp; first | done | exact ⟨rfl, rfl⟩ | rfl); (· intro w' hw'; first | ((with_reducible refine (fail).mono ?_); rintro e w2 ⟨rfl, hb⟩; exact ⟨rfl, hw'.below hb⟩)); (simp only [Act.put, List.setIfInBounds_toArray, List.set_cons_zero, List.set_cons_succ]; go_big_quiet_on)))
            refine wpQuiet_nil ?_
            intro w9 hk9
            (have hk' := hk9; simp only [KeptC, List.forall_mem_cons] at hk'; go_split_ands); have hkB9 := hk9.1
            go_wp2
            go_ret
            exact ⟨by rw [fit_stopD (k := k + 1) (by have := HNN.out; simp only []; omega) HO.out]; rfl, hkB9⟩
          | false =>
            cases h3 : decide (x.num ≤ y.num) with
            | true =>
              rw [h1, h2, h3] at ho
              have HO := Lib.hid ho
              clear ho
              go_wp2_with (fail)
              refine wp_region_quietC_lit (KeptC w [(⟨w.heap.size, 0, none⟩, .int .i64 nx), (⟨w.heap.size, 1, none⟩, .slice (some ad) n c), (⟨w.heap.size, 2, none⟩, .slice B m d), (P, .int .i64 x.num), (Q, .int .i64 y.num)] []) (by kernel_rfl) (by kernel_rfl) ?_ ?_
              · refine KeptC.drewn ?_
                repeat' (first | refine KeptC.cons ?_ ?_ | refine KeptC.consF ?_ ?_ ?_ | refine KeptC.mk0 ?_)
                all_goals (first | with_reducible assumption | (go_simp; done) | (simp; omega) | exact (by repeat (first | with_reducible refine Below.setCell ?_ (by first | (simp; done) | (simp; omega) | omega) _ | with_reducible refine Below.alloc ?_ (by first | (simp; done) | (simp; omega) | omega) _ | with_reducible refine Below.drew ?_ | with_reducible refine below_drewN ?_ _ | with_reducible exact Below.refl _ _ | with_reducible refine Below.trans ?_ (Below.mono kb0 (by first | (simp; done) | (simp; omega) | omega)))))
              repeat (first
                | go_big_quiet_skip
                | (go_big_quiet_want; (apply quietC_run); (· intro w' hw'; (have hk' := hw'; simp only [KeptC, List.forall_mem_cons] at hk'; go_split_ands); go_simp; first | done | rfl); (simp only [Act.put, List.setIfInBounds_toArray, List.set_cons_zero, List.set_cons_succ]; go_big_quiet_on))
                | (go_big_quiet_want; (apply quietC_call); (· intro w' hw'; go_simp; first | done | exact ⟨rfl, rfl⟩ | rfl); (· intro w' hw'; first | ((with_reducible refine (fail).mono ?_); rintro e w2 ⟨rfl, hb⟩; exact ⟨rfl, hw'.below hb⟩)); (simp only [Act.put, List.setIfInBounds_toArray, List.set_cons_zero, List.set_cons_succ]; go_big_quiet_on)))
              refine wpQuiet_nil ?_
              intro w9 hk9
              (have hk' := hk9; simp only [KeptC, List.forall_mem_cons] at hk'; go_split_ands); have hkB9 := hk9.1
              go_wp2
              go_ret
              exact ⟨by rw [fit_stopD (k := k + 1) (by have := HNN.out; simp only []; omega) HO.out]; rfl, hkB9⟩
            | false =>
              rw [h1, h2, h3] at ho
              have HO := Lib.hid ho
              clear ho
              go_wp2_with (fail)
              refine wp_region_quietC_lit (KeptC w [(⟨w.heap.size, 0, none⟩, .int .i64 nx), (⟨w.heap.size, 1, none⟩, .slice (some ad) n c), (⟨w.heap.size, 2, none⟩, .slice B m d), (P, .int .i64 x.num), (Q, .int .i64 y.num)] []) (by kernel_rfl) (by kernel_rfl) ?_ ?_
              · refine KeptC.drewn ?_
                repeat' (first | refine KeptC.cons ?_ ?_ | refine KeptC.consF ?_ ?_ ?_ | refine KeptC.mk0 ?_)
                all_goals (first | with_reducible assumption | (go_simp; done) | (simp; omega) | exact (by repeat (first | with_reducible refine Below.setCell ?_ (by first | (simp; done) | (simp; omega) | omega) _ | with_reducible refine Below.alloc ?_ (by first | (simp; done) | (simp; omega) | omega) _ | with_reducible refine Below.drew ?_ | with_reducible refine below_drewN ?_ _ | with_reducible exact Below.refl _ _ | with_reducible refine Below.trans ?_ (Below.mono kb0 (by first | (simp; done) | (simp; omega) | omega)))))
              repeat (first
                | go_big_quiet_skip
                | (go_big_quiet_want; (apply quietC_run); (· intro w' hw'; (have hk' := hw'; simp only [KeptC, List.forall_mem_cons] at hk'; go_split_ands); go_simp; first | done | rfl); (simp only [Act.put, List.setIfInBounds_toArray, List.set_cons_zero, List.set_cons_succ]; go_big_quiet_on))
                | (go_big_quiet_want; (apply quietC_call); (· intro w' hw'; go_simp; first | done | exact ⟨rfl, rfl⟩ | rfl); (· intro w' hw'; first | ((with_reducible refine (fail).mono ?_); rintro e w2 ⟨rfl, hb⟩; exact ⟨rfl, hw'.below hb⟩)); (simp only [Act.put, List.setIfInBounds_toArray, List.set_cons_zero, List.set_cons_succ]; go_big_quiet_on)))
              refine wpQuiet_nil ?_
              intro w9 hk9
              (have hk' := hk9; simp only [KeptC, List.forall_mem_cons] at hk'; go_split_ands); have hkB9 := hk9.1
              go_wp2
              go_roundw
              case rel => exact ⟨k + 1 + 1, by omega, by go_num, Lib.hid (all_next HA.out HO.out), (by (repeat' (first | refine KeptC.cons ?_ ?_ | refine KeptC.consF ?_ ?_ ?_ | refine KeptC.mk0 ?_)); all_goals (first | with_reducible assumption | (go_simp; done) | (simp; omega) | exact (by repeat (first | with_reducible refine Below.setCell ?_ (by first | (simp; done) | (simp; omega) | omega) _ | with_reducible refine Below.alloc ?_ (by first | (simp; done) | (simp; omega) | omega) _ | with_reducible refine Below.drew ?_ | with_reducible refine below_drewN ?_ _ | with_reducible exact Below.refl _ _ | with_reducible refine Below.trans ?_ (Below.mono hkB9 (by first | (simp; done) | (simp; omega) | omega))))))⟩
              case measure => simp [intOf]; omega
theorem OwnE.setc {α : Type} {enc : α → List Value} {k : Nat} {e : TypeId} {w : World} {base : Nat} {v : Value} {rs : List α} (h : OwnE enc k e w base v rs) {p : Addr} (hp : p.block < base) (u : Value) : OwnE enc k e (w.setCell p u) base v rs := by
  refine ⟨h.1, ?_⟩
  rcases h.2 with hn | ⟨g, cap, cur, rfl, hg, hc, rest⟩
  · exact .inl hn
  · exact .inr ⟨g, cap, cur, rfl, hg, (Below.heap_setCell _ _ _ _ (fun e => by omega)).trans hc, rest⟩
theorem own_lt {α : Type} {enc : α → List Value} {k : Nat} {e : TypeId} {w : World} {base : Nat} {v : Value} {rs : List α} (h : OwnE enc k e w base v rs) : ∀ b, v.ownBlock = some b → b < w.heap.size := by
  intro b hb
  rcases h.2 with ⟨rfl, _⟩ | ⟨g, cap, cur, rfl, h1, h2, h3⟩
  · simp [Value.ownBlock] at hb
  · obtain rfl : g = b := by simpa [Value.ownBlock] using hb
    exact (Array.getElem?_eq_some_iff.1 h2).1
set_option maxHeartbeats 4000000 in
theorem mcopy_any (nx : Int) (A B : Option Addr) (n c m d : Nat) (ls : List Dg) (sv : List LK) (w : World) (h1 : RowsE encD 4 w w.heap.size A n ls) (h2 : RowsE encL 2 w w.heap.size B m sv) (hn : n * 40 ≤ 140737488351232) (hm : m * 16 ≤ 140737488351232) :
    Calls Try.prog 19 #[mAgg nx (.slice A n c) (.slice B m d)] w fun e w' => ∃ lv kv, e = .returned (mAgg nx lv kv) ∧ OwnE encD 4 33 w' w.heap.size lv ls ∧ OwnE encL 2 64 w' w.heap.size kv sv ∧ (∀ b, lv.ownBlock = some b → kv.ownBlock ≠ some b) ∧ Below w.heap.size w w' := by
  obtain ⟨i0, hi0, hj0, hj1, hj2⟩ := info_parts dg_inf
  obtain ⟨k0, hk0, hl0, hl1, hl2⟩ := info_parts lk_inf
  have H1 := Lib.hid (h1.reads encD_len)
  have H2 := Lib.hid (h2.reads encL_len)
  have HN1 := Lib.hid h1.1
  have HN2 := Lib.hid h2.1
  clear h1 h2
  go_enter Try.func19, Try.ntmps19
  go_wp2_with (first
    | (at_builtin; refine wpList_append_any _ rfl (.tmp 8) (.tmp 10) _ rfl _ 33 i0 _ 4 40 Try.underlying43 hi0 hj0 hj1 hj2 rfl (by omega) (.slice none 0 0) 0 [] rfl ⟨by simp, .inl ⟨rfl, rfl⟩⟩ w.heap.size A n c (flatE encD ls) rfl (by exact H1.out.below (by repeat (first | with_reducible refine Below.setCell ?_ (by first | (simp; done) | (simp; omega) | omega) _ | with_reducible refine Below.alloc ?_ (by first | (simp; done) | (simp; omega) | omega) _ | with_reducible refine Below.drew ?_ | with_reducible refine below_drewN ?_ _ | with_reducible exact Below.refl _ _))) (flatE_one encD_one _) (by simp only [maxLen]; omega) (by omega) (Nat.le_refl _) ?_; intro v4 w4 hown4 hg4 hat4; rw [Nat.zero_add, List.nil_append] at hown4; obtain ⟨A4, c4, hv4⟩ := row_slice' hown4; subst hv4; have hb4 := row_grown (e := 33) (size := 4) (n := 0) (xs := []) (v := .slice none 0 0) ⟨by simp, .inl ⟨rfl, rfl⟩⟩ hg4 (Nat.le_refl _); obtain ⟨hc4, hf4⟩ := bcell hb4; have hz4 := hb4.size; (try simp at hz4); have hlt4 : w.heap.size + 1 + 1 < w4.heap.size := (by omega); have hlu4 : w.heap.size + 1 < w4.heap.size := (by omega); have hlv4 : w.heap.size < w4.heap.size := (by omega); have HO4 := Lib.hid hown4; have HB4 := Lib.hid hb4; clear hown4 hg4 hat4 hb4)
    | (at_builtin; refine wpList_append_any _ rfl (.tmp 14) (.tmp 16) _ rfl _ 64 k0 _ 2 16 Try.underlying48 hk0 hl0 hl1 hl2 rfl (by omega) (.slice none 0 0) 0 [] rfl ⟨by simp, .inl ⟨rfl, rfl⟩⟩ w.heap.size B m d (flatE encL sv) rfl (by exact H2.out.below (by repeat (first | with_reducible refine Below.setCell ?_ (by first | (simp; done) | (simp; omega) | omega) _ | with_reducible refine Below.alloc ?_ (by first | (simp; done) | (simp; omega) | omega) _ | with_reducible refine Below.drew ?_ | with_reducible refine below_drewN ?_ _ | with_reducible exact Below.refl _ _ | with_reducible refine Below.trans ?_ (Below.mono HB4.out (by first | (simp; done) | (simp; omega) | omega))))) (flatE_one encL_one _) (by simp only [maxLen]; omega) (by omega) (Nat.le_refl _) ?_; intro v6 w6 hown6 hg6 hat6; rw [Nat.zero_add, List.nil_append] at hown6; obtain ⟨A6, c6, hv6⟩ := row_slice' hown6; subst hv6; have hb6 := row_grown (e := 64) (size := 2) (n := 0) (xs := []) (v := .slice none 0 0) ⟨by simp, .inl ⟨rfl, rfl⟩⟩ hg6 (Nat.le_refl _); obtain ⟨hc6, hf6⟩ := bcell hb6; have hz6 := hb6.size; (try simp at hz6); have hlt6 : w.heap.size + 1 + 1 < w6.heap.size := (by omega); have hlu6 : w.heap.size + 1 < w6.heap.size := (by omega); have hlv6 : w.heap.size < w6.heap.size := (by omega); have HO6 := Lib.hid hown6; have HB6 := Lib.hid hb6; clear hown6 hg6 hat6 hb6))
  obtain ⟨B4, hB4, ho4⟩ : ∃ B4, w.heap.size + 1 + 1 < B4 ∧ OwnE encD 4 33 w4 B4 (.slice A4 n c4) ls := by
    refine ⟨_, ?_, by unfold OwnE; rw [HN1.out]; exact HO4.out⟩
    simp
  obtain ⟨B6, hB6, ho6⟩ : ∃ B6, w4.heap.size ≤ B6 ∧ OwnE encL 2 64 w6 B6 (.slice A6 m c6) sv := by
    refine ⟨_, ?_, by unfold OwnE; rw [HN2.out]; exact HO6.out⟩
    simp
  have l4 := own_lt ho4
  have f6 := own_fresh ho6
  refine bodyPost_ret (v := mAgg nx (.slice A4 n c4) (.slice A6 m c6)) (by simp [results, Try.results19, go_sem, *]) rfl ⟨_, _, rfl, ?_, ?_, fun b e1 e2 => ?_, (by repeat (first | with_reducible refine Below.setCell ?_ (by first | (simp; done) | (simp; omega) | omega) _ | with_reducible refine Below.alloc ?_ (by first | (simp; done) | (simp; omega) | omega) _ | with_reducible refine Below.drew ?_ | with_reducible refine below_drewN ?_ _ | with_reducible exact Below.refl _ _ | with_reducible refine Below.trans ?_ (Below.mono HB4.out (by first | (simp; done) | (simp; omega) | omega)) | with_reducible refine Below.trans ?_ (Below.mono HB6.out (by first | (simp; done) | (simp; omega) | omega))))⟩
  · refine OwnE.less (base := B4) ?_ (by omega)
    repeat refine OwnE.setc ?_ (by first | (simp; done) | (simp; omega) | omega) _
    refine OwnE.below ?_ HB6.out
    repeat refine OwnE.setc ?_ (by first | (simp; done) | (simp; omega) | omega) _
    exact ho4
  · refine OwnE.less (base := B6) ?_ (by omega)
    repeat refine OwnE.setc ?_ (by first | (simp; done) | (simp; omega) | omega) _
    exact ho6
  · have := l4 b e1
    have := f6 b e2
    omega
end Go.Proofs.Ytdaobbffhfbceaa
