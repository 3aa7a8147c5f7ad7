/- The bag of a state: what the call computes. -/
import Derived.Test.YtdaobbffhfbceaaBgU
namespace Go.Proofs.Ytdaobbffhfbceaa
open Go.RowKit Go.Shelf Go.Maps
set_option linter.unusedVariables false
set_option linter.unusedSimpArgs false
set_option maxRecDepth 100000
theorem grow_below (w : World) (q : Nat) (os : Array Obj) : Below w.heap.size w (Go.Sort.grow (w.drewN q) os) := by
  refine ⟨rfl, rfl, rfl, ?_, fun b hb => ?_⟩
  · simp [Go.Sort.grow]
  · exact Go.Sort.heap_grow_old _ _ hb
theorem order_b (x y : LK) (w : World) : Calls Try.prog 34 #[lAgg x, lAgg y] w fun e w' => e = .returned (.int .i64 (ordI x y)) ∧ Below w.heap.size w w' :=
  (order_any x y w).mono fun _ _ ⟨he, q, os, hw⟩ => ⟨he, by rw [hw]; exact grow_below w q os⟩
theorem ord_ge (x y : LK) : decide (0 ≤ ordI x y) = !ltL x y := by
  rw [← ord_lt]
  unfold ltOf
  by_cases h : ordI x y < 0
  · simp [h]
  · simp [h]; omega
theorem ord_rng (x y : LK) : -1 ≤ ordI x y ∧ ordI x y ≤ 1 := by
  unfold ordI Lib.compareInt
  split <;> (repeat' split) <;> omega
theorem set_some {w : World} {q : Addr} (h : (w.cell? q).isSome = true) (p : Addr) (u : Value) : ((w.setCell p u).cell? q).isSome = true := by
  obtain ⟨v, hv⟩ := Option.isSome_iff_exists.1 h
  obtain ⟨v', hv'⟩ := cell?_setCell_some (w := w) (p := p) (x := u) (q := q) (v := v) hv
  rw [hv']
  rfl
def OfPost (w : World) (s : BS) (e : Ending) (w' : World) : Prop := Below w.heap.size w w' ∧ ((fitB s = true ∧ ∃ Bb bm lv, e = .returned (.tuple #[.pointer (some ⟨Bb, 0, none⟩), .bool true]) ∧ BagAt w' Bb bm lv s ∧ ∀ b ∈ foot Bb bm lv, w.heap.size ≤ b) ∨ (fitB s = false ∧ e = .returned (.tuple #[.pointer none, .bool false])))
theorem okK_rise {sv : List LK} {q : Nat} (h : (List.range q).all (okK sv) = true) : RiseL (sv.take q) := by
  refine pw_adj (R := fun x y => ltL x y = true) (fun a b c hab hbc => ltL_trans hab hbc) _ (fun t x y hx hy => ?_)
  have ht : t + 1 < q := by
    have := (List.getElem?_eq_some_iff.1 hy).1
    rw [List.length_take] at this
    omega
  rw [List.getElem?_take_of_lt (by omega)] at hx
  rw [List.getElem?_take_of_lt (by omega)] at hy
  have := (List.all_eq_true.1 h) (t + 1) (List.mem_range.2 ht)
  rw [okK_succ hy hx] at this
  simp only [Bool.and_eq_true] at this
  exact this.2
set_option maxHeartbeats 4000000 in
theorem of_any (nx : Int) (A B : Option Addr) (n c m d : Nat) (ls : List Dg) (sv : List LK) (w : World) (h1 : RowsE encD 4 w w.heap.size A n ls) (h2 : RowsE encL 2 w w.heap.size B m sv) (hn : n ≤ 70368744177664) (hm : m ≤ 70368744177664) (hd : ∀ d ∈ ls, i64B d.num ∧ i64B d.frm ∧ i64B d.dst) (hk : ∀ x ∈ sv, i64B x.1 ∧ i64B x.2) :
    Calls Try.prog 20 #[mAgg nx (.slice A n c) (.slice B m d)] w (OfPost w ⟨nx, ls, sv⟩) := by
  have H1 := Lib.hid h1
  have H2 := Lib.hid h2
  have HNN := Lib.hid h1.1
  have HMM := Lib.hid h2.1
  have HD := Lib.hid hd
  have HKK := Lib.hid hk
  clear h1 h2 hd hk
  by_cases hx0 : nx < 0
  · go_enter Try.func20, Try.ntmps20
    go_wp2
    go_ret2
    exact ⟨(by repeat (first | with_reducible refine Below.setCell ?_ (by first | (simp; done) | (simp; omega) | omega) _ | with_reducible refine Below.alloc ?_ (by first | (simp; done) | (simp; omega) | omega) _ | with_reducible refine Below.drew ?_ | with_reducible refine below_drewN ?_ _ | with_reducible exact Below.refl _ _)), .inr ⟨fit_head (.inl hx0), rfl⟩⟩
  by_cases hx1 : 4611686018427387904 < nx
  · go_enter Try.func20, Try.ntmps20
    go_wp2
    go_ret2
    exact ⟨(by repeat (first | with_reducible refine Below.setCell ?_ (by first | (simp; done) | (simp; omega) | omega) _ | with_reducible refine Below.alloc ?_ (by first | (simp; done) | (simp; omega) | omega) _ | with_reducible refine Below.drew ?_ | with_reducible refine below_drewN ?_ _ | with_reducible exact Below.refl _ _)), .inr ⟨fit_head (.inr (.inl hx1)), rfl⟩⟩
  by_cases hn5 : 65536 < n
  · have hn6 : (65536 : Int) < (n : Int) := by omega
    go_enter Try.func20, Try.ntmps20
    go_wp2
    go_ret2
    exact ⟨(by repeat (first | with_reducible refine Below.setCell ?_ (by first | (simp; done) | (simp; omega) | omega) _ | with_reducible refine Below.alloc ?_ (by first | (simp; done) | (simp; omega) | omega) _ | with_reducible refine Below.drew ?_ | with_reducible refine below_drewN ?_ _ | with_reducible exact Below.refl _ _)), .inr ⟨fit_head (.inr (.inr (by have := HNN.out; simp only []; omega))), rfl⟩⟩
  have hn6 : decide ((65536 : Int) < (n : Int)) = false := decide_eq_false (by omega)
  have d0 : decide (nx < 0) = false := decide_eq_false hx0
  have d1 : decide (4611686018427387904 < nx) = false := decide_eq_false hx1
  have HX0 := Lib.hid hx0
  have HX1 := Lib.hid hx1
  clear hx0 hx1
  go_enter Try.func20, Try.ntmps20
  go_wp2
  clear d0 d1 hn6
  go_loopw [4, 27] (fun a i w' => ∃ (k : Nat) (wz : Int), k ≤ n ∧ i = .int .i64 k ∧ a = .int .i64 wz ∧ Hid ((List.range k).all (okD nx ls) = true) ∧ Hid ((k = 0 ∧ wz = 0) ∨ ∃ u e, k = u + 1 ∧ ls[u]? = some e ∧ wz = e.num) ∧ KeptC w [(⟨w.heap.size, 0, none⟩, .int .i64 nx), (⟨w.heap.size, 1, none⟩, .slice A n c), (⟨w.heap.size, 2, none⟩, .slice B m d)] [] w') (fun _ i _ => n - (intOf i).toNat)
  case atStart => exact ⟨0, 0, Nat.zero_le _, rfl, rfl, Lib.hid rfl, Lib.hid (.inl ⟨rfl, rfl⟩), (by (repeat' (first | refine KeptC.cons ?_ ?_ | refine KeptC.consF ?_ ?_ ?_ | refine KeptC.mk0 ?_)); all_goals (first | with_reducible assumption | (go_simp; done) | (simp; omega) | exact (by repeat (first | with_reducible refine Below.setCell ?_ (by first | (simp; done) | (simp; omega) | omega) _ | with_reducible refine Below.alloc ?_ (by first | (simp; done) | (simp; omega) | omega) _ | with_reducible refine Below.drew ?_ | with_reducible refine below_drewN ?_ _ | with_reducible exact Below.refl _ _))))⟩
  case round =>
    obtain ⟨k, wz, hk, rfl, rfl, HA, HWZ, hK⟩ := hrel
    have HK := Lib.hid hK
    simp only [KeptC, List.forall_mem_cons] at hK; obtain ⟨kb0, ⟨kc0_0, kc0_1, kc0_2, _⟩, _⟩ := hK
    have hs0 := kb0.size
    have hz0 : w.heap.size < wr.heap.size := cell_lt kc0_0
    by_cases hlt : k < n
    · obtain ⟨ad, x, rfl, hab, hx, h4⟩ := H1.out.get hlt
      obtain ⟨P, hP⟩ : ∃ P, ad.add (k * 4) = P := ⟨_, rfl⟩
      have hPb : P.block < w.heap.size := by rw [← hP, block_of_add]; exact hab
      rw [hP] at h4
      have e0 : wr.cell? P = some (.int .i64 x.num) := (kb0.cell (p := P) hPb).trans (by have := h4 0 _ rfl; rwa [add_z P] at this)
      have e1 : wr.cell? ⟨P.block, P.off + 1, none⟩ = some (.int .i64 x.frm) := (kb0.cell (p := ⟨P.block, P.off + 1, none⟩) hPb).trans (by have := h4 1 _ rfl; rwa [add_next P 0] at this)
      have e2 : wr.cell? ⟨P.block, P.off + 2, none⟩ = some (.int .i64 x.dst) := (kb0.cell (p := ⟨P.block, P.off + 2, none⟩) hPb).trans (by have := h4 2 _ rfl; rwa [add_next P 1] at this)
      have e3 : wr.cell? ⟨P.block, P.off + 3, none⟩ = some (.string x.body) := (kb0.cell (p := ⟨P.block, P.off + 3, none⟩) hPb).trans (by have := h4 3 _ rfl; rwa [add_next P 2] at this)
      have hPw : P.block < wr.heap.size := by omega
      have ho := okD_was (nx := nx) hx HA.out HWZ.out
      have HX := Lib.hid hx
      clear h4 hx
      cases h1 : decide (x.num ≤ wz) with
      | true =>
        rw [h1] at ho
        have HO := Lib.hid ho
        clear ho
        go_wp2
        go_ret2
        exact ⟨(by repeat (first | with_reducible refine Below.setCell ?_ (by first | (simp; done) | (simp; omega) | omega) _ | with_reducible refine Below.alloc ?_ (by first | (simp; done) | (simp; omega) | omega) _ | with_reducible refine Below.drew ?_ | with_reducible refine below_drewN ?_ _ | with_reducible exact Below.refl _ _ | with_reducible refine Below.trans ?_ (Below.mono kb0 (by first | (simp; done) | (simp; omega) | omega)))), .inr ⟨fit_stopD (k := k) (by have := HNN.out; simp only []; omega) HO.out, rfl⟩⟩
      | false =>
        cases h2 : decide (nx < x.num) with
        | true =>
          rw [h1, h2] at ho
          have HO := Lib.hid ho
          clear ho
          go_wp2
          go_ret2
          exact ⟨(by repeat (first | with_reducible refine Below.setCell ?_ (by first | (simp; done) | (simp; omega) | omega) _ | with_reducible refine Below.alloc ?_ (by first | (simp; done) | (simp; omega) | omega) _ | with_reducible refine Below.drew ?_ | with_reducible refine below_drewN ?_ _ | with_reducible exact Below.refl _ _ | with_reducible refine Below.trans ?_ (Below.mono kb0 (by first | (simp; done) | (simp; omega) | omega)))), .inr ⟨fit_stopD (k := k) (by have := HNN.out; simp only []; omega) HO.out, rfl⟩⟩
        | false =>
          rw [h1, h2] at ho
          have HO := Lib.hid ho
          clear ho
          go_wp2
          go_roundw
          case rel => exact ⟨k + 1, x.num, by omega, by go_num, rfl, Lib.hid (all_next HA.out HO.out), Lib.hid (.inr ⟨k, x, rfl, HX.out, rfl⟩), (by (repeat' (first | refine KeptC.cons ?_ ?_ | refine KeptC.consF ?_ ?_ ?_ | refine KeptC.mk0 ?_)); all_goals (first | with_reducible assumption | (go_simp; done) | (simp; omega) | exact (by repeat (first | with_reducible refine Below.setCell ?_ (by first | (simp; done) | (simp; omega) | omega) _ | with_reducible refine Below.alloc ?_ (by first | (simp; done) | (simp; omega) | omega) _ | with_reducible refine Below.drew ?_ | with_reducible refine below_drewN ?_ _ | with_reducible exact Below.refl _ _ | with_reducible refine Below.trans ?_ (Below.mono kb0 (by first | (simp; done) | (simp; omega) | omega))))))⟩
          case measure => simp [intOf]; omega
    · obtain rfl : k = n := by omega
      obtain ⟨wo, hwo⟩ : ∃ wo, wo = wr := ⟨_, rfl⟩
      subst hwo
      go_wp2_with (fail)
      refine (new_any _).mono ?_; rintro e w2 ⟨rfl, hbag, hb2⟩
      obtain ⟨bm, hbm⟩ : ∃ bm, bm = wo.heap.size := ⟨_, rfl⟩
      have hbmw : w.heap.size < bm := by omega
      rw [← hbm] at hbag hb2 ⊢
      have K2 : KeptC w [(⟨w.heap.size, 0, none⟩, .int .i64 nx), (⟨w.heap.size, 1, none⟩, .slice A k c), (⟨w.heap.size, 2, none⟩, .slice B m d)] [] w2 := HK.out.below (by rw [← hbm]; exact hb2)
      have HB0 := Lib.hid hbag
      have HK2 := Lib.hid K2
      have hk2 := HK2.out
      simp only [KeptC, List.forall_mem_cons] at hk2; obtain ⟨kb2, ⟨kc2_0, kc2_1, kc2_2, _⟩, _⟩ := hk2
      have hzz2 : w.heap.size < w2.heap.size := cell_lt kc2_0
      clear hbag hb2 K2 kb0 kc0_0 kc0_1 kc0_2 HK hs0 hz0 hbm kb2
      go_wp2
      clear kc2_0 kc2_1 kc2_2 hzz2
      go_loopw [49] (fun i w' => ∃ (q : Nat), q ≤ m ∧ i = .int .i64 q ∧ Hid ((List.range q).all (okK sv) = true) ∧ Hid (BagAt w' (bm + 1) bm (.slice none 0 0) ⟨0, [], sv.take q⟩) ∧ KeptC w [(⟨w.heap.size, 0, none⟩, .int .i64 nx), (⟨w.heap.size, 1, none⟩, .slice A k c), (⟨w.heap.size, 2, none⟩, .slice B m d)] [] w') (fun i _ => m - (intOf i).toNat)
      case atStart => exact ⟨0, Nat.zero_le _, rfl, Lib.hid rfl, Lib.hid (by rw [List.take_zero]; exact HB0.out), HK2.out⟩
      case round =>
        obtain ⟨q, hq, rfl, HA2, HBAG, hK⟩ := hrel
        simp only [KeptC, List.forall_mem_cons] at hK; obtain ⟨kb0, ⟨kc0_0, kc0_1, kc0_2, _⟩, _⟩ := hK
        have hs0 := kb0.size
        have hz0 : w.heap.size < wr.heap.size := cell_lt kc0_0
        have hbc3 := HBAG.out.c3
        have hbb : bm + 1 < wr.heap.size := cell_lt hbc3
        by_cases hlt : q < m
        · cases q with
          | zero =>
            obtain ⟨ad, x, rfl, hab, hx, h4⟩ := H2.out.get hlt
            obtain ⟨P, hP⟩ : ∃ P, ad.add (0 * 2) = P := ⟨_, rfl⟩
            have hPb : P.block < w.heap.size := by rw [← hP, block_of_add]; exact hab
            rw [hP] at h4
            have e0 : wr.cell? P = some (.int .i64 x.1) := (kb0.cell (p := P) hPb).trans (by have := h4 0 _ rfl; rwa [add_z P] at this)
            have e0' : wr.cell? ⟨P.block, P.off + 1, none⟩ = some (.int .i64 x.2) := (kb0.cell (p := ⟨P.block, P.off + 1, none⟩) hPb).trans (by have := h4 1 _ rfl; rwa [add_next P 0] at this)
            have hPw : P.block < wr.heap.size := by omega
            have HX := Lib.hid hx
            have HB := HBAG
            have HX64 := Lib.hid (HKK.out x (List.mem_of_getElem? hx))
            have ho := okK_zero hx
            clear h4 hx
            cases h1 : decide (x.2 ≤ x.1) with
            | true =>
              rw [h1] at ho
              have HO := Lib.hid ho
              clear ho
              go_wp2_with (fail)
              refine wp_region_quietC_lit (KeptC wr [(⟨w.heap.size, 0, none⟩, .int .i64 nx), (⟨w.heap.size, 1, none⟩, .slice A k c), (⟨w.heap.size, 2, none⟩, .slice (some ad) m d), (⟨wr.heap.size, 0, none⟩, .int .i64 x.1), (⟨wr.heap.size, 1, none⟩, .int .i64 x.2)] []) (by kernel_rfl) (by kernel_rfl) ?_ ?_
              · refine KeptC.drewn ?_
                repeat' (first | refine KeptC.cons ?_ ?_ | refine KeptC.consF ?_ ?_ ?_ | refine KeptC.mk0 ?_)
                all_goals (first | with_reducible assumption | (go_simp; done) | (simp; omega) | exact (by repeat (first | with_reducible refine Below.setCell ?_ (by first | (simp; done) | (simp; omega) | omega) _ | with_reducible refine Below.alloc ?_ (by first | (simp; done) | (simp; omega) | omega) _ | with_reducible refine Below.drew ?_ | with_reducible refine below_drewN ?_ _ | with_reducible exact Below.refl _ _)))
              repeat (first
                | go_big_quiet_skip
                | (go_big_quiet_want; (apply quietC_run); (· intro w' hw'; (have hk' := hw'; simp only [KeptC, List.forall_mem_cons] at hk'; go_split_ands); go_simp; first | done | rfl); (simp only [Act.put, List.setIfInBounds_toArray, List.set_cons_zero, List.set_cons_succ]; go_big_quiet_on))
                | (go_big_quiet_want; (apply quietC_call); (· intro w' hw'; go_simp; first | done | exact ⟨rfl, rfl⟩ | rfl); (· intro w' hw'; first | ((with_reducible refine (fail).mono ?_); rintro e w2 ⟨rfl, hb⟩; exact ⟨rfl, hw'.below hb⟩)); (simp only [Act.put, List.setIfInBounds_toArray, List.set_cons_zero, List.set_cons_succ]; go_big_quiet_on)))
              refine wpQuiet_nil ?_
              intro w9 hk9
              (have hk' := hk9; simp only [KeptC, List.forall_mem_cons] at hk'; go_split_ands); have hkB9 := hk9.1
              go_wp2
              go_ret2
              exact ⟨kb0.trans (hkB9.mono hs0), .inr ⟨fit_stopK (k := 0) (by have := HMM.out; simp only []; omega) HO.out, rfl⟩⟩
            | false =>
              rw [h1] at ho
              have HO := Lib.hid ho
              clear ho
              go_wp2_with (fail)
              refine wp_region_quietC_lit (KeptC wr [(⟨w.heap.size, 0, none⟩, .int .i64 nx), (⟨w.heap.size, 1, none⟩, .slice A k c), (⟨w.heap.size, 2, none⟩, .slice (some ad) m d), (⟨wr.heap.size, 0, none⟩, .int .i64 x.1), (⟨wr.heap.size, 1, none⟩, .int .i64 x.2), (⟨bm + 1, 3, none⟩, .map (some bm))] []) (by kernel_rfl) (by kernel_rfl) ?_ ?_
              · refine KeptC.drewn ?_
                repeat' (first | refine KeptC.cons ?_ ?_ | refine KeptC.consF ?_ ?_ ?_ | refine KeptC.mk0 ?_)
                all_goals (first | with_reducible assumption | (go_simp; done) | (simp; omega) | exact (by repeat (first | with_reducible refine Below.setCell ?_ (by first | (simp; done) | (simp; omega) | omega) _ | with_reducible refine Below.alloc ?_ (by first | (simp; done) | (simp; omega) | omega) _ | with_reducible refine Below.drew ?_ | with_reducible refine below_drewN ?_ _ | with_reducible exact Below.refl _ _)))
              repeat (first
                | go_big_quiet_skip
                | (go_big_quiet_want; (apply quietC_run); (· intro w' hw'; (have hk' := hw'; simp only [KeptC, List.forall_mem_cons] at hk'; go_split_ands); go_simp; first | done | rfl); (simp only [Act.put, List.setIfInBounds_toArray, List.set_cons_zero, List.set_cons_succ]; go_big_quiet_on))
                | (go_big_quiet_want; (apply quietC_call); (· intro w' hw'; go_simp; first | done | exact ⟨rfl, rfl⟩ | rfl); (· intro w' hw'; first | ((with_reducible refine (fail).mono ?_); rintro e w2 ⟨rfl, hb⟩; exact ⟨rfl, hw'.below hb⟩)); (simp only [Act.put, List.setIfInBounds_toArray, List.set_cons_zero, List.set_cons_succ]; go_big_quiet_on)))
              refine wpQuiet_nil ?_
              intro w9 hk9
              (have hk' := hk9; simp only [KeptC, List.forall_mem_cons] at hk'; go_split_ands); have hkB9 := hk9.1
              go_wp2
              refine wp_region_quietC_tail (KeptC wr [(⟨w.heap.size, 0, none⟩, .int .i64 nx), (⟨w.heap.size, 1, none⟩, .slice A k c), (⟨w.heap.size, 2, none⟩, .slice (some ad) m d), (⟨wr.heap.size, 0, none⟩, .int .i64 x.1), (⟨wr.heap.size, 1, none⟩, .int .i64 x.2), (⟨bm + 1, 3, none⟩, .map (some bm))] []) 5 (by kernel_rfl) (by kernel_rfl) ?_ ?_
              · refine KeptC.drewn ?_
                repeat' (first | refine KeptC.cons ?_ ?_ | refine KeptC.consF ?_ ?_ ?_ | refine KeptC.mk0 ?_)
                all_goals (first | with_reducible assumption | (go_simp; done) | (simp; omega) | exact (by repeat (first | with_reducible refine Below.setCell ?_ (by first | (simp; done) | (simp; omega) | omega) _ | with_reducible refine Below.alloc ?_ (by first | (simp; done) | (simp; omega) | omega) _ | with_reducible refine Below.drew ?_ | with_reducible refine below_drewN ?_ _ | with_reducible exact Below.refl _ _ | with_reducible refine Below.trans ?_ (Below.mono hkB9 (by first | (simp; done) | (simp; omega) | omega)))))
              simp only [List.take_succ_cons, List.take_zero, List.drop_succ_cons, List.drop_zero]
              repeat (first
                | go_big_quiet_skip
                | (go_big_quiet_want; (apply quietC_run); (· intro w' hw'; (have hk' := hw'; simp only [KeptC, List.forall_mem_cons] at hk'; go_split_ands); go_simp; first | done | rfl); (simp only [Act.put, List.setIfInBounds_toArray, List.set_cons_zero, List.set_cons_succ]; go_big_quiet_on))
                | (go_big_quiet_want; (apply quietC_call); (· intro w' hw'; go_simp; first | done | exact ⟨rfl, rfl⟩ | rfl); (· intro w' hw'; first | ((with_reducible refine (fail).mono ?_); rintro e w2 ⟨rfl, hb⟩; exact ⟨rfl, hw'.below hb⟩)); (simp only [Act.put, List.setIfInBounds_toArray, List.set_cons_zero, List.set_cons_succ]; go_big_quiet_on)))
              refine wpQuiet_nil ?_
              intro w8 hk8
              (have hk' := hk8; simp only [KeptC, List.forall_mem_cons] at hk'; go_split_ands); have hkB8 := hk8.1
              have hA2 := all_next HA2.out HO.out
              have hmem : ∀ y, y ∈ sv.take (0 + 1) ↔ y = x ∨ y ∈ sv.take 0 := fun y => by rw [List.take_add_one, HX.out]; simp [or_comm]
              have cst := (HB.out.map.same (hkB8.block bm HB.out.map.lt)).store (sv' := sv.take (0 + 1)) HB.out.ok.i64 HX64.out (by have := List.length_take_le 0 sv; simp only [maxLen]; omega) hmem (okK_rise hA2).nodup
              obtain ⟨w10, hrun, hm10, hg10⟩ := cst
              have hb10 := Lib.hid ((HB.out.below hkB8).remap hg10 hm10 ⟨by simp, by simp, by simp, okK_rise hA2, fun y hy => ((hmem y).1 hy).elim (fun e => by rw [e]; exact HX64.out) (HB.out.ok.i64 y), fun d hd => by cases hd⟩)
              have HM2 := Lib.hid hA2
              have kb10 : Below w.heap.size w w10 := (kb0.trans (hkB8.mono hs0)).grown hg10 (by have := hkB8.size; omega) (fun j e => by cases e; omega)
              have kA0 : w10.cell? ⟨w.heap.size, 0, none⟩ = some (.int .i64 nx) := (World.cell?_of_block (a := ⟨w.heap.size, 0, none⟩) (hg10.block _ (by have := hkB8.size; simp only []; omega) (fun e => by have := Option.some.inj e; simp only [] at this; omega))).trans (by assumption)
              have kA1 : w10.cell? ⟨w.heap.size, 1, none⟩ = some (.slice A k c) := (World.cell?_of_block (a := ⟨w.heap.size, 1, none⟩) (hg10.block _ (by have := hkB8.size; simp only []; omega) (fun e => by have := Option.some.inj e; simp only [] at this; omega))).trans (by assumption)
              have kA2 : w10.cell? ⟨w.heap.size, 2, none⟩ = some (.slice (some ad) m d) := (World.cell?_of_block (a := ⟨w.heap.size, 2, none⟩) (hg10.block _ (by have := hkB8.size; simp only []; omega) (fun e => by have := Option.some.inj e; simp only [] at this; omega))).trans (by assumption)
              have KK : Hid (KeptC w [(⟨w.heap.size, 0, none⟩, .int .i64 nx), (⟨w.heap.size, 1, none⟩, .slice A k c), (⟨w.heap.size, 2, none⟩, .slice (some ad) m d)] [] w10) := Lib.hid (KeptC.cons kA0 (KeptC.cons kA1 (KeptC.cons kA2 (KeptC.mk0 kb10))))
              clear hmem hm10 hg10 hA2 hk8 hk9 kb10 kA0 kA1 kA2
              go_wp2
              go_roundw
              case rel => exact ⟨0 + 1, by omega, by go_num, HM2, hb10, KK.out⟩
              case measure => simp [intOf]; omega
          | succ q =>
            obtain ⟨ad, x, rfl, hab, hx, h4⟩ := H2.out.get hlt
            obtain ⟨P, hP⟩ : ∃ P, ad.add ((q + 1) * 2) = P := ⟨_, rfl⟩
            have hPb : P.block < w.heap.size := by rw [← hP, block_of_add]; exact hab
            rw [hP] at h4
            have e0 : wr.cell? P = some (.int .i64 x.1) := (kb0.cell (p := P) hPb).trans (by have := h4 0 _ rfl; rwa [add_z P] at this)
            have e0' : wr.cell? ⟨P.block, P.off + 1, none⟩ = some (.int .i64 x.2) := (kb0.cell (p := ⟨P.block, P.off + 1, none⟩) hPb).trans (by have := h4 1 _ rfl; rwa [add_next P 0] at this)
            have hPw : P.block < wr.heap.size := by omega
            have HX := Lib.hid hx
            have HB := HBAG
            have HX64 := Lib.hid (HKK.out x (List.mem_of_getElem? hx))
            obtain ⟨ad2, y, hA2, _, hy, g4⟩ := H2.out.get (j := q) (by omega)
            obtain rfl : ad = ad2 := Option.some.inj hA2
            obtain ⟨Q, hQ⟩ : ∃ Q, ad.add (q * 2) = Q := ⟨_, rfl⟩
            have hQb : Q.block < w.heap.size := by rw [← hQ, block_of_add]; exact hab
            rw [hQ] at g4
            have e1 : wr.cell? Q = some (.int .i64 y.1) := (kb0.cell (p := Q) hQb).trans (by have := g4 0 _ rfl; rwa [add_z Q] at this)
            have e1' : wr.cell? ⟨Q.block, Q.off + 1, none⟩ = some (.int .i64 y.2) := (kb0.cell (p := ⟨Q.block, Q.off + 1, none⟩) hQb).trans (by have := g4 1 _ rfl; rwa [add_next Q 0] at this)
            have hwk : IntKind.i64.wrap (q : Int) = q := by rw [IntKind.wrap_i64]; omega
            have hkn : q < m := by omega
            have hQw : Q.block < wr.heap.size := by omega
            have ho := okK_succ hx hy
            clear h4 hx g4 hy hA2
            have cl := fun W => order_b y x W
            have hoge := ord_ge y x
            obtain ⟨oi, hoi⟩ : ∃ o, ordI y x = o := ⟨_, rfl⟩
            rw [hoi] at hoge
            have cl2 : ∀ W, Calls Try.prog 34 #[lAgg y, lAgg x] W fun e w' => e = .returned (.int .i64 oi) ∧ Below W.heap.size W w' := fun W => by rw [← hoi]; exact cl W
            have CL := Lib.hid cl2
            clear cl cl2 hoi
            cases h1 : decide (x.2 ≤ x.1) with
            | true =>
              rw [h1] at ho
              have HO := Lib.hid ho
              clear ho hoge
              go_wp2_with (fail)
              refine wp_region_quietC_lit (KeptC wr [(⟨w.heap.size, 0, none⟩, .int .i64 nx), (⟨w.heap.size, 1, none⟩, .slice A k c), (⟨w.heap.size, 2, none⟩, .slice (some ad) m d), (⟨wr.heap.size, 0, none⟩, .int .i64 x.1), (⟨wr.heap.size, 1, none⟩, .int .i64 x.2), (Q, .int .i64 y.1), (⟨Q.block, Q.off + 1, none⟩, .int .i64 y.2)] []) (by kernel_rfl) (by kernel_rfl) ?_ ?_
              · refine KeptC.drewn ?_
                repeat' (first | refine KeptC.cons ?_ ?_ | refine KeptC.consF ?_ ?_ ?_ | refine KeptC.mk0 ?_)
                all_goals (first | with_reducible assumption | (go_simp; done) | (simp; omega) | exact (by repeat (first | with_reducible refine Below.setCell ?_ (by first | (simp; done) | (simp; omega) | omega) _ | with_reducible refine Below.alloc ?_ (by first | (simp; done) | (simp; omega) | omega) _ | with_reducible refine Below.drew ?_ | with_reducible refine below_drewN ?_ _ | with_reducible exact Below.refl _ _)))
              repeat (first
                | go_big_quiet_skip
                | (go_big_quiet_want; (apply quietC_run); (· intro w' hw'; (have hk' := hw'; simp only [KeptC, List.forall_mem_cons] at hk'; go_split_ands); go_simp; first | done | rfl); (simp only [Act.put, List.setIfInBounds_toArray, List.set_cons_zero, List.set_cons_succ]; go_big_quiet_on))
                | (go_big_quiet_want; (apply quietC_call); (· intro w' hw'; go_simp; first | done | exact ⟨rfl, rfl⟩ | rfl); (· intro w' hw'; first | ((with_reducible refine (fail).mono ?_); rintro e w2 ⟨rfl, hb⟩; exact ⟨rfl, hw'.below hb⟩)); (simp only [Act.put, List.setIfInBounds_toArray, List.set_cons_zero, List.set_cons_succ]; go_big_quiet_on)))
              refine wpQuiet_nil ?_
              intro w9 hk9
              (have hk' := hk9; simp only [KeptC, List.forall_mem_cons] at hk'; go_split_ands); have hkB9 := hk9.1
              go_wp2
              go_ret2
              exact ⟨kb0.trans (hkB9.mono hs0), .inr ⟨fit_stopK (k := q + 1) (by have := HMM.out; simp only []; omega) HO.out, rfl⟩⟩
            | false =>
              cases h2 : ltL y x with
              | false =>
                rw [h1, h2] at ho
                rw [h2] at hoge
                have HO := Lib.hid ho
                have hoge2 : decide (0 ≤ oi) = true := hoge
                clear ho h2 hoge
                go_wp2_with (fail)
                refine wp_region_quietC_lit (KeptC wr [(⟨w.heap.size, 0, none⟩, .int .i64 nx), (⟨w.heap.size, 1, none⟩, .slice A k c), (⟨w.heap.size, 2, none⟩, .slice (some ad) m d), (⟨wr.heap.size, 0, none⟩, .int .i64 x.1), (⟨wr.heap.size, 1, none⟩, .int .i64 x.2), (Q, .int .i64 y.1), (⟨Q.block, Q.off + 1, none⟩, .int .i64 y.2)] []) (by kernel_rfl) (by kernel_rfl) ?_ ?_
                · refine KeptC.drewn ?_
                  repeat' (first | refine KeptC.cons ?_ ?_ | refine KeptC.consF ?_ ?_ ?_ | refine KeptC.mk0 ?_)
                  all_goals (first | with_reducible assumption | (go_simp; done) | (simp; omega) | exact (by repeat (first | with_reducible refine Below.setCell ?_ (by first | (simp; done) | (simp; omega) | omega) _ | with_reducible refine Below.alloc ?_ (by first | (simp; done) | (simp; omega) | omega) _ | with_reducible refine Below.drew ?_ | with_reducible refine below_drewN ?_ _ | with_reducible exact Below.refl _ _)))
                repeat (first
                  | go_big_quiet_skip
                  | (go_big_quiet_want; (apply quietC_run); (· intro w' hw'; (have hk' := hw'; simp only [KeptC, List.forall_mem_cons] at hk'; go_split_ands); go_simp; first | done | rfl); (simp only [Act.put, List.setIfInBounds_toArray, List.set_cons_zero, List.set_cons_succ]; go_big_quiet_on))
                  | (go_big_quiet_want; (apply quietC_call); (· intro w' hw'; go_simp; first | done | exact ⟨rfl, rfl⟩ | rfl); (· intro w' hw'; first | ((with_reducible refine (CL.out _).mono ?_); rintro e w2 ⟨rfl, hb⟩; exact ⟨rfl, hw'.below hb⟩)); (simp only [Act.put, List.setIfInBounds_toArray, List.set_cons_zero, List.set_cons_succ]; go_big_quiet_on)))
                refine wpQuiet_nil ?_
                intro w9 hk9
                (have hk' := hk9; simp only [KeptC, List.forall_mem_cons] at hk'; go_split_ands); have hkB9 := hk9.1
                go_wp2
                go_ret2
                exact ⟨kb0.trans (hkB9.mono hs0), .inr ⟨fit_stopK (k := q + 1) (by have := HMM.out; simp only []; omega) HO.out, rfl⟩⟩
              | true =>
                rw [h1, h2] at ho
                rw [h2] at hoge
                have HO := Lib.hid ho
                have hoge2 : decide (0 ≤ oi) = false := hoge
                clear ho h2 hoge
                go_wp2_with (fail)
                refine wp_region_quietC_lit (KeptC wr [(⟨w.heap.size, 0, none⟩, .int .i64 nx), (⟨w.heap.size, 1, none⟩, .slice A k c), (⟨w.heap.size, 2, none⟩, .slice (some ad) m d), (⟨wr.heap.size, 0, none⟩, .int .i64 x.1), (⟨wr.heap.size, 1, none⟩, .int .i64 x.2), (Q, .int .i64 y.1), (⟨Q.block, Q.off + 1, none⟩, .int .i64 y.2), (⟨bm + 1, 3, none⟩, .map (some bm))] []) (by kernel_rfl) (by kernel_rfl) ?_ ?_
                · refine KeptC.drewn ?_
                  repeat' (first | refine KeptC.cons ?_ ?_ | refine KeptC.consF ?_ ?_ ?_ | refine KeptC.mk0 ?_)
                  all_goals (first | with_reducible assumption | (go_simp; done) | (simp; omega) | exact (by repeat (first | with_reducible refine Below.setCell ?_ (by first | (simp; done) | (simp; omega) | omega) _ | with_reducible refine Below.alloc ?_ (by first | (simp; done) | (simp; omega) | omega) _ | with_reducible refine Below.drew ?_ | with_reducible refine below_drewN ?_ _ | with_reducible exact Below.refl _ _)))
                repeat (first
                  | go_big_quiet_skip
                  | (go_big_quiet_want; (apply quietC_run); (· intro w' hw'; (have hk' := hw'; simp only [KeptC, List.forall_mem_cons] at hk'; go_split_ands); go_simp; first | done | rfl); (simp only [Act.put, List.setIfInBounds_toArray, List.set_cons_zero, List.set_cons_succ]; go_big_quiet_on))
                  | (go_big_quiet_want; (apply quietC_call); (· intro w' hw'; go_simp; first | done | exact ⟨rfl, rfl⟩ | rfl); (· intro w' hw'; first | ((with_reducible refine (CL.out _).mono ?_); rintro e w2 ⟨rfl, hb⟩; exact ⟨rfl, hw'.below hb⟩)); (simp only [Act.put, List.setIfInBounds_toArray, List.set_cons_zero, List.set_cons_succ]; go_big_quiet_on)))
                refine wpQuiet_nil ?_
                intro w9 hk9
                (have hk' := hk9; simp only [KeptC, List.forall_mem_cons] at hk'; go_split_ands); have hkB9 := hk9.1
                go_wp2
                refine wp_region_quietC_tail (KeptC wr [(⟨w.heap.size, 0, none⟩, .int .i64 nx), (⟨w.heap.size, 1, none⟩, .slice A k c), (⟨w.heap.size, 2, none⟩, .slice (some ad) m d), (⟨wr.heap.size, 0, none⟩, .int .i64 x.1), (⟨wr.heap.size, 1, none⟩, .int .i64 x.2), (⟨bm + 1, 3, none⟩, .map (some bm))] []) 5 (by kernel_rfl) (by kernel_rfl) ?_ ?_
                · refine KeptC.drewn ?_
                  repeat' (first | refine KeptC.cons ?_ ?_ | refine KeptC.consF ?_ ?_ ?_ | refine KeptC.mk0 ?_)
                  all_goals (first | with_reducible assumption | (go_simp; done) | (simp; omega) | exact (by repeat (first | with_reducible refine Below.setCell ?_ (by first | (simp; done) | (simp; omega) | omega) _ | with_reducible refine Below.alloc ?_ (by first | (simp; done) | (simp; omega) | omega) _ | with_reducible refine Below.drew ?_ | with_reducible refine below_drewN ?_ _ | with_reducible exact Below.refl _ _ | with_reducible refine Below.trans ?_ (Below.mono hkB9 (by first | (simp; done) | (simp; omega) | omega)))))
                simp only [List.take_succ_cons, List.take_zero, List.drop_succ_cons, List.drop_zero]
                repeat (first
                  | go_big_quiet_skip
                  | (go_big_quiet_want; (apply quietC_run); (· intro w' hw'; (have hk' := hw'; simp only [KeptC, List.forall_mem_cons] at hk'; go_split_ands); go_simp; first | done | rfl); (simp only [Act.put, List.setIfInBounds_toArray, List.set_cons_zero, List.set_cons_succ]; go_big_quiet_on))
                  | (go_big_quiet_want; (apply quietC_call); (· intro w' hw'; go_simp; first | done | exact ⟨rfl, rfl⟩ | rfl); (· intro w' hw'; first | ((with_reducible refine (fail).mono ?_); rintro e w2 ⟨rfl, hb⟩; exact ⟨rfl, hw'.below hb⟩)); (simp only [Act.put, List.setIfInBounds_toArray, List.set_cons_zero, List.set_cons_succ]; go_big_quiet_on)))
                refine wpQuiet_nil ?_
                intro w8 hk8
                (have hk' := hk8; simp only [KeptC, List.forall_mem_cons] at hk'; go_split_ands); have hkB8 := hk8.1
                have hA2 := all_next HA2.out HO.out
                have hmem : ∀ y, y ∈ sv.take ((q + 1) + 1) ↔ y = x ∨ y ∈ sv.take (q + 1) := fun y => by rw [List.take_add_one, HX.out]; simp [or_comm]
                have cst := (HB.out.map.same (hkB8.block bm HB.out.map.lt)).store (sv' := sv.take ((q + 1) + 1)) HB.out.ok.i64 HX64.out (by have := List.length_take_le (q + 1) sv; simp only [maxLen]; omega) hmem (okK_rise hA2).nodup
                obtain ⟨w10, hrun, hm10, hg10⟩ := cst
                have hb10 := Lib.hid ((HB.out.below hkB8).remap hg10 hm10 ⟨by simp, by simp, by simp, okK_rise hA2, fun y hy => ((hmem y).1 hy).elim (fun e => by rw [e]; exact HX64.out) (HB.out.ok.i64 y), fun d hd => by cases hd⟩)
                have HM2 := Lib.hid hA2
                have kb10 : Below w.heap.size w w10 := (kb0.trans (hkB8.mono hs0)).grown hg10 (by have := hkB8.size; omega) (fun j e => by cases e; omega)
                have kA0 : w10.cell? ⟨w.heap.size, 0, none⟩ = some (.int .i64 nx) := (World.cell?_of_block (a := ⟨w.heap.size, 0, none⟩) (hg10.block _ (by have := hkB8.size; simp only []; omega) (fun e => by have := Option.some.inj e; simp only [] at this; omega))).trans (by assumption)
                have kA1 : w10.cell? ⟨w.heap.size, 1, none⟩ = some (.slice A k c) := (World.cell?_of_block (a := ⟨w.heap.size, 1, none⟩) (hg10.block _ (by have := hkB8.size; simp only []; omega) (fun e => by have := Option.some.inj e; simp only [] at this; omega))).trans (by assumption)
                have kA2 : w10.cell? ⟨w.heap.size, 2, none⟩ = some (.slice (some ad) m d) := (World.cell?_of_block (a := ⟨w.heap.size, 2, none⟩) (hg10.block _ (by have := hkB8.size; simp only []; omega) (fun e => by have := Option.some.inj e; simp only [] at this; omega))).trans (by assumption)
                have KK : Hid (KeptC w [(⟨w.heap.size, 0, none⟩, .int .i64 nx), (⟨w.heap.size, 1, none⟩, .slice A k c), (⟨w.heap.size, 2, none⟩, .slice (some ad) m d)] [] w10) := Lib.hid (KeptC.cons kA0 (KeptC.cons kA1 (KeptC.cons kA2 (KeptC.mk0 kb10))))
                clear hmem hm10 hg10 hA2 hk8 hk9 kb10 kA0 kA1 kA2
                go_wp2
                go_roundw
                case rel => exact ⟨(q + 1) + 1, by omega, by go_num, HM2, hb10, KK.out⟩
                case measure => simp [intOf]; omega
        · obtain rfl : q = m := by omega
          have htk : sv.take q = sv := List.take_of_length_le (by have := HMM.out; omega)
          have hbg := HBAG.out
          rw [htk] at hbg
          have HBG := Lib.hid hbg
          have HFB : Hid (fitB ⟨nx, ls, sv⟩ = true) := Lib.hid (fit_all (by have := HX0.out; simp only []; omega) (by have := HX1.out; simp only []; omega) (by have := HNN.out; simp only []; omega) (by simp only []; rw [HNN.out]; exact HA.out) (by simp only []; rw [HMM.out]; exact HA2.out))
          have cl := fun (W : World) (hW : Below w.heap.size w W) => dclone_any A k c ls W ((H1.out.below hW).more hW.size) (by omega)
          have CL := Lib.hid cl
          have hbc1 := hbg.c1
          have hbc2 := hbg.c2
          have hbf1 := hbg.f1
          have hbf2 := hbg.f2
          simp only [] at hbc1
          clear htk hbg cl HBAG
          go_upto_region 19 with (fail)
          have hbc0 := HBG.out.c0
          have kS : ∀ w1 w2 : World, (Turn [bm + 1] wr w1 ∧ w1.cell? ⟨w.heap.size, 0, none⟩ = some (.int .i64 nx) ∧ w1.cell? ⟨w.heap.size, 1, none⟩ = some (.slice A k c) ∧ w1.cell? ⟨w.heap.size, 2, none⟩ = some (.slice B q d) ∧ w1.cell? ⟨bm + 1, 0, none⟩ = some (.bool true) ∧ w1.cell? ⟨bm + 1, 3, none⟩ = some (.map (some bm)) ∧ (w1.cell? ⟨bm + 1, 1, none⟩).isSome = true ∧ (w1.cell? ⟨bm + 1, 2, none⟩).isSome = true ∧ w1.frozen? ⟨bm + 1, 1, none⟩ = false ∧ w1.frozen? ⟨bm + 1, 2, none⟩ = false) → Below w1.heap.size w1 w2 → (Turn [bm + 1] wr w2 ∧ w2.cell? ⟨w.heap.size, 0, none⟩ = some (.int .i64 nx) ∧ w2.cell? ⟨w.heap.size, 1, none⟩ = some (.slice A k c) ∧ w2.cell? ⟨w.heap.size, 2, none⟩ = some (.slice B q d) ∧ w2.cell? ⟨bm + 1, 0, none⟩ = some (.bool true) ∧ w2.cell? ⟨bm + 1, 3, none⟩ = some (.map (some bm)) ∧ (w2.cell? ⟨bm + 1, 1, none⟩).isSome = true ∧ (w2.cell? ⟨bm + 1, 2, none⟩).isSome = true ∧ w2.frozen? ⟨bm + 1, 1, none⟩ = false ∧ w2.frozen? ⟨bm + 1, 2, none⟩ = false) := by
            rintro w1 w2 ⟨k0, k1, k2, k3, k4, k5, k6, k7, k8, k9⟩ hb
            obtain ⟨v1, hv1⟩ := Option.isSome_iff_exists.1 k6
            obtain ⟨v2, hv2⟩ := Option.isSome_iff_exists.1 k7
            exact ⟨k0.trans (Turn.below (F := []) hb (Nat.le_refl _)) (by simp), (hb.cell (p := ⟨w.heap.size, 0, none⟩) (cell_lt k1)).trans k1, (hb.cell (p := ⟨w.heap.size, 1, none⟩) (cell_lt k2)).trans k2, (hb.cell (p := ⟨w.heap.size, 2, none⟩) (cell_lt k3)).trans k3, (hb.cell (p := ⟨bm + 1, 0, none⟩) (cell_lt k4)).trans k4, (hb.cell (p := ⟨bm + 1, 3, none⟩) (cell_lt k5)).trans k5, by rw [hb.cell (p := ⟨bm + 1, 1, none⟩) (cell_lt hv1)]; exact k6, by rw [hb.cell (p := ⟨bm + 1, 2, none⟩) (cell_lt hv2)]; exact k7, (hb.frozen (p := ⟨bm + 1, 1, none⟩) (cell_lt hv1)).trans k8, (hb.frozen (p := ⟨bm + 1, 2, none⟩) (cell_lt hv2)).trans k9⟩
          have KD : Hid (∀ (w1 : World), (Turn [bm + 1] wr w1 ∧ w1.cell? ⟨w.heap.size, 0, none⟩ = some (.int .i64 nx) ∧ w1.cell? ⟨w.heap.size, 1, none⟩ = some (.slice A k c) ∧ w1.cell? ⟨w.heap.size, 2, none⟩ = some (.slice B q d) ∧ w1.cell? ⟨bm + 1, 0, none⟩ = some (.bool true) ∧ w1.cell? ⟨bm + 1, 3, none⟩ = some (.map (some bm)) ∧ (w1.cell? ⟨bm + 1, 1, none⟩).isSome = true ∧ (w1.cell? ⟨bm + 1, 2, none⟩).isSome = true ∧ w1.frozen? ⟨bm + 1, 1, none⟩ = false ∧ w1.frozen? ⟨bm + 1, 2, none⟩ = false) → (Turn [bm + 1] wr w1.drew ∧ w1.drew.cell? ⟨w.heap.size, 0, none⟩ = some (.int .i64 nx) ∧ w1.drew.cell? ⟨w.heap.size, 1, none⟩ = some (.slice A k c) ∧ w1.drew.cell? ⟨w.heap.size, 2, none⟩ = some (.slice B q d) ∧ w1.drew.cell? ⟨bm + 1, 0, none⟩ = some (.bool true) ∧ w1.drew.cell? ⟨bm + 1, 3, none⟩ = some (.map (some bm)) ∧ (w1.drew.cell? ⟨bm + 1, 1, none⟩).isSome = true ∧ (w1.drew.cell? ⟨bm + 1, 2, none⟩).isSome = true ∧ w1.drew.frozen? ⟨bm + 1, 1, none⟩ = false ∧ w1.drew.frozen? ⟨bm + 1, 2, none⟩ = false)) := Lib.hid (fun w1 h => kS w1 _ h ((Below.refl _ _).drew))
          have KS := Lib.hid kS
          clear kS
          have kF : ∀ (w1 : World) (o1 : Nat) (u1 : Value), (Turn [bm + 1] wr w1 ∧ w1.cell? ⟨w.heap.size, 0, none⟩ = some (.int .i64 nx) ∧ w1.cell? ⟨w.heap.size, 1, none⟩ = some (.slice A k c) ∧ w1.cell? ⟨w.heap.size, 2, none⟩ = some (.slice B q d) ∧ w1.cell? ⟨bm + 1, 0, none⟩ = some (.bool true) ∧ w1.cell? ⟨bm + 1, 3, none⟩ = some (.map (some bm)) ∧ (w1.cell? ⟨bm + 1, 1, none⟩).isSome = true ∧ (w1.cell? ⟨bm + 1, 2, none⟩).isSome = true ∧ w1.frozen? ⟨bm + 1, 1, none⟩ = false ∧ w1.frozen? ⟨bm + 1, 2, none⟩ = false) → 0 < o1 ∧ o1 < 3 → (Turn [bm + 1] wr (w1.setCell ⟨bm + 1, o1, none⟩ u1) ∧ (w1.setCell ⟨bm + 1, o1, none⟩ u1).cell? ⟨w.heap.size, 0, none⟩ = some (.int .i64 nx) ∧ (w1.setCell ⟨bm + 1, o1, none⟩ u1).cell? ⟨w.heap.size, 1, none⟩ = some (.slice A k c) ∧ (w1.setCell ⟨bm + 1, o1, none⟩ u1).cell? ⟨w.heap.size, 2, none⟩ = some (.slice B q d) ∧ (w1.setCell ⟨bm + 1, o1, none⟩ u1).cell? ⟨bm + 1, 0, none⟩ = some (.bool true) ∧ (w1.setCell ⟨bm + 1, o1, none⟩ u1).cell? ⟨bm + 1, 3, none⟩ = some (.map (some bm)) ∧ ((w1.setCell ⟨bm + 1, o1, none⟩ u1).cell? ⟨bm + 1, 1, none⟩).isSome = true ∧ ((w1.setCell ⟨bm + 1, o1, none⟩ u1).cell? ⟨bm + 1, 2, none⟩).isSome = true ∧ (w1.setCell ⟨bm + 1, o1, none⟩ u1).frozen? ⟨bm + 1, 1, none⟩ = false ∧ (w1.setCell ⟨bm + 1, o1, none⟩ u1).frozen? ⟨bm + 1, 2, none⟩ = false) := by
            rintro w1 o1 u1 ⟨k0, k1, k2, k3, k4, k5, k6, k7, k8, k9⟩ ho1
            exact ⟨k0.setCell (.inl (by simp)) _, (World.cell?_setCell_far _ _ _ _ (by simp only []; omega)).trans k1, (World.cell?_setCell_far _ _ _ _ (by simp only []; omega)).trans k2, (World.cell?_setCell_far _ _ _ _ (by simp only []; omega)).trans k3, (World.cell?_setCell_other _ _ _ _ (by first | (simp; done) | (simp; omega) | omega)).trans k4, (World.cell?_setCell_other _ _ _ _ (by first | (simp; done) | (simp; omega) | omega)).trans k5, set_some k6 _ _, set_some k7 _ _, by rw [World.frozen?_setCell]; exact k8, by rw [World.frozen?_setCell]; exact k9⟩
          have KF := Lib.hid kF
          clear kF
          have HI : Hid (Turn [bm + 1] wr wr ∧ wr.cell? ⟨w.heap.size, 0, none⟩ = some (.int .i64 nx) ∧ wr.cell? ⟨w.heap.size, 1, none⟩ = some (.slice A k c) ∧ wr.cell? ⟨w.heap.size, 2, none⟩ = some (.slice B q d) ∧ wr.cell? ⟨bm + 1, 0, none⟩ = some (.bool true) ∧ wr.cell? ⟨bm + 1, 3, none⟩ = some (.map (some bm)) ∧ (wr.cell? ⟨bm + 1, 1, none⟩).isSome = true ∧ (wr.cell? ⟨bm + 1, 2, none⟩).isSome = true ∧ wr.frozen? ⟨bm + 1, 1, none⟩ = false ∧ wr.frozen? ⟨bm + 1, 2, none⟩ = false) := Lib.hid ⟨Turn.refl _ _, kc0_0, kc0_1, kc0_2, hbc0, hbc3, by rw [hbc1]; rfl, by rw [hbc2]; rfl, hbf1, hbf2⟩
          have HTB : Hid (∀ W, Turn [bm + 1] wr W → Below w.heap.size w W) := Lib.hid (fun W h => kb0.trans (h.to_below (by simp; omega) hs0))
          go_region_held3 (fun w' => Turn [bm + 1] wr w' ∧ w'.cell? ⟨w.heap.size, 0, none⟩ = some (.int .i64 nx) ∧ w'.cell? ⟨w.heap.size, 1, none⟩ = some (.slice A k c) ∧ w'.cell? ⟨w.heap.size, 2, none⟩ = some (.slice B q d) ∧ w'.cell? ⟨bm + 1, 0, none⟩ = some (.bool true) ∧ w'.cell? ⟨bm + 1, 3, none⟩ = some (.map (some bm)) ∧ (w'.cell? ⟨bm + 1, 1, none⟩).isSome = true ∧ (w'.cell? ⟨bm + 1, 2, none⟩).isSome = true ∧ w'.frozen? ⟨bm + 1, 1, none⟩ = false ∧ w'.frozen? ⟨bm + 1, 2, none⟩ = false) (repeat (first | with_reducible assumption | with_reducible exact HI.out | with_reducible refine KD.out _ ?_ | with_reducible refine KF.out _ _ _ ?_ (by omega) | with_reducible refine KS.out _ _ ?_ (by assumption))) (first | (with_reducible refine (CL.out _ (HTB.out _ (And.left (by assumption : Turn [bm + 1] wr _ ∧ _)))).mono ?_); rintro e w9 ⟨lv9, rfl, hown9, hb9⟩; obtain ⟨A9, c9, hv9⟩ := row_slice' hown9; subst hv9; have hSW := (by assumption : Turn [bm + 1] wr _ ∧ _); have hS9 := KS.out _ _ hSW hb9; have hlW := cell_lt hSW.2.2.2.2.1; obtain ⟨v1, hv1⟩ := Option.isSome_iff_exists.1 hS9.2.2.2.2.2.2.1; obtain ⟨v2, hv2⟩ := Option.isSome_iff_exists.1 hS9.2.2.2.2.2.2.2.1; have g1 := hS9.2.2.2.2.2.2.2.2.1; have g2 := hS9.2.2.2.2.2.2.2.2.2; have hl9 := cell_lt hv1; simp only [] at hl9 hlW; have H9 := Lib.hid hS9; have HO9 := Lib.hid (hown9.less (base' := bm + 1 + 1) (by omega)))
          have hfit := fitB_fit HFB.out
          have HOK : Hid (OkS ⟨nx, ls, sv⟩) := Lib.hid ⟨hfit.nx0, hfit.nx1, hfit.len, hfit.sv, HKK.out, HD.out⟩
          have HFR := Lib.hid (own_fresh HO9.out)
          have HV : Hid (w9.cell? ⟨bm + 1, 1, none⟩ = some v1 ∧ w9.cell? ⟨bm + 1, 2, none⟩ = some v2 ∧ bm + 1 < w9.heap.size) := Lib.hid ⟨hv1, hv2, hl9⟩
          have hkB := HTB.out _ H9.out.1
          clear hfit
          go_wp2
          go_ret2
          have h9 := H9.out
          have hmp : MapAt w9 bm sv := HBG.out.map.same (h9.1.block bm HBG.out.map.lt (by simp))
          refine ⟨(by repeat (first | with_reducible refine Below.setCell ?_ (by first | (simp; done) | (simp; omega) | omega) _ | with_reducible refine Below.alloc ?_ (by first | (simp; done) | (simp; omega) | omega) _ | with_reducible refine Below.drew ?_ | with_reducible refine below_drewN ?_ _ | with_reducible exact Below.refl _ _ | with_reducible refine Below.trans ?_ (Below.mono hkB (by first | (simp; done) | (simp; omega) | omega)))), .inl ⟨HFB.out, bm + 1, bm, .slice A9 ls.length c9, rfl, ⟨?_, ?_, ?_, ?_, ?_, ?_, ?_, ?_, ?_, HOK.out⟩, ?_⟩⟩
          · exact ((World.cell?_setCell_other _ _ _ _ (by simp)).trans ((World.cell?_setCell_other _ _ _ _ (by simp)).trans h9.2.2.2.2.1))
          · exact ((World.cell?_setCell_other _ _ _ _ (by simp)).trans (World.cell?_setCell_same _ _ _ HV.out.1))
          · exact World.cell?_setCell_same _ _ _ ((World.cell?_setCell_other _ _ _ _ (by simp)).trans HV.out.2.1)
          · exact ((World.cell?_setCell_other _ _ _ _ (by simp)).trans ((World.cell?_setCell_other _ _ _ _ (by simp)).trans h9.2.2.2.2.2.1))
          · rw [World.frozen?_setCell, World.frozen?_setCell]; exact h9.2.2.2.2.2.2.2.2.1
          · rw [World.frozen?_setCell, World.frozen?_setCell]; exact h9.2.2.2.2.2.2.2.2.2
          · exact ((HO9.out.setc (by simp) _).setc (by simp) _).less (by omega)
          · exact (hmp.same (Below.heap_setCell _ _ _ _ (by simp only []; omega))).same (Below.heap_setCell _ _ _ _ (by simp only []; omega))
          · exact fun e => by have := HFR.out _ e; omega
          · intro b hb
            simp only [foot, List.mem_cons, Option.mem_toList] at hb
            rcases hb with rfl | rfl | hb
            · omega
            · omega
            · have := HFR.out _ hb; omega
end Go.Proofs.Ytdaobbffhfbceaa
