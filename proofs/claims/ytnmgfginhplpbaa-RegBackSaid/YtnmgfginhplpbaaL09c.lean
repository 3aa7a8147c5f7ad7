/- Whatever the register, the nodes, the amount and the writer: eddylaw09's RegBack returns true. No conditions. -/
import Derived.Test.YtnmgfginhplpbaaL09b
namespace Go.Proofs.Ytnmgfginhplpbaa
open Go.ChangeShapes Go.WideShapes Go.ChangeAt Go.RowKit Go.Joins Go.BigFrame
set_option linter.unusedVariables false

theorem out_next {v wr f a b amt k g : Int} (hab : a ≠ b) (hg : g = flowR f a b amt) (hfit : fitB v wr f a b = true) (hfit2 : fitB (v + 1) k g a b = true) : outR (v + 1) k g a b = outR v wr f a b + amt := by
  unfold outR
  rw [if_pos hfit, if_pos hfit2, hg]
  unfold flowR
  rcases Int.lt_or_gt_of_ne hab with hl | hl
  · have h1 : ¬ b < a := by omega
    simp only [if_pos hl, if_neg h1]
  · have h1 : ¬ a < b := by omega
    have hl' : b < a := hl
    simp only [if_pos hl', if_neg h1]; omega
theorem out_flip {v wr f a b : Int} (hab : a ≠ b) (hfit : fitB v wr f a b = true) (hfit2 : fitB v wr f b a = true) : outR v wr f b a = - outR v wr f a b := by
  unfold outR
  rw [if_pos hfit, if_pos hfit2]
  rcases Int.lt_or_gt_of_ne hab with hl | hl
  · have h1 : ¬ b < a := by omega
    simp only [if_pos hl, if_neg h1]
  · have h1 : ¬ a < b := by omega
    have hl' : b < a := hl
    simp only [if_pos hl', if_neg h1]; omega
theorem flow_back {f a b amt : Int} (hab : a ≠ b) : flowR (flowR f a b amt) b a amt = f := by
  unfold flowR
  rcases Int.lt_or_gt_of_ne hab with hl | hl
  · have h1 : ¬ b < a := by omega
    simp only [if_pos hl, if_neg h1]; omega
  · have h1 : ¬ a < b := by omega
    have hl' : b < a := hl
    simp only [if_pos hl', if_neg h1]; omega
theorem moveR_err (r : R) (a b amt k : Int) (h : (moveR r a b amt k).2 ≠ 0) : (moveR r a b amt k).1 = ⟨0, 0, 0⟩ := by
  revert h
  unfold moveR
  split
  · split
    · split
      · intro h; exact absurd rfl h
      · split
        · intro _; rfl
        · intro h; exact absurd rfl h
    · intro _; rfl
  · intro _; rfl
theorem moveR_zero (r : R) (a b k : Int) (h : (moveR r a b 0 k).2 = 0) : (moveR r a b 0 k).1 = r := by
  unfold moveR at *
  repeat' split at h
  all_goals simp_all
theorem moveR_ok (v wr f a b amt k : Int) (h0 : amt ≠ 0) (h : (moveR ⟨v, wr, f⟩ a b amt k).2 = 0) :
    ∃ g, moveR ⟨v, wr, f⟩ a b amt k = (⟨v + 1, k, g⟩, 0) ∧ g = flowR f a b amt ∧ fitB v wr f a b = true ∧ (k = a ∨ k = b) ∧ flowsB amt = true ∧ flowsB g = true ∧ v ≠ 1099511627776 := by
  unfold moveR at *
  repeat' split at h
  all_goals simp_all
theorem fitB_swap (v wr f a b : Int) : fitB v wr f b a = fitB v wr f a b := by
  unfold fitB
  rw [show decide (b = a) = decide (a = b) from by simp [eq_comm], Bool.or_comm (decide (wr = b)), Bool.and_comm (nodeB b)]
theorem fitB_next {v wr f a b k g : Int} (h : fitB v wr f a b = true) (hk : k = a ∨ k = b) (hg : flowsB g = true) (hv : v ≠ 1099511627776) : fitB (v + 1) k g a b = true := by
  have hb := fitB_bd h
  simp only [fitB, Bool.and_eq_true, Bool.or_eq_true, decide_eq_true_eq, Bool.not_eq_true', decide_eq_false_iff_not] at h ⊢
  exact ⟨h.1, .inr ⟨⟨⟨by omega, by omega⟩, hk⟩, hg⟩⟩

set_option maxHeartbeats 4000000 in
theorem regBack_any (v wr f a b amt : Int) (o : Bool) (w : World) :
    Calls Try.prog 4 #[.agg #[.int .i64 v, .int .i64 wr, .int .i64 f], .int .i64 a, .int .i64 b, .int .i64 amt, .bool o] w fun e w' => e = .returned (.bool true) ∧ Below w.heap.size w w' := by
  obtain ⟨k, k2, hk, hkd, hk2d⟩ : ∃ k k2 : Int, (k = a ∧ k2 = b ∨ k = b ∧ k2 = a) ∧ k = (if o then b else a) ∧ k2 = (if o then a else b) := ⟨_, _, by cases o <;> simp, rfl, rfl⟩
  have c1 := fun w => move_any v wr f a b amt k w
  by_cases hn : (moveR ⟨v, wr, f⟩ a b amt k).2 = 0
  case neg =>
    have e := moveR_err _ _ _ _ _ hn
    generalize moveR ⟨v, wr, f⟩ a b amt k = m at c1 e hn
    obtain ⟨⟨x, y, z⟩, n⟩ := m
    obtain ⟨rfl, rfl, rfl⟩ : x = 0 ∧ y = 0 ∧ z = 0 := by simpa using e
    have hn' : (n != 0) = true := by simpa using hn
    have C1 := Lib.hid c1
    have HK := Lib.hid hkd
    clear c1 e hn hk hkd hk2d
    cases o
    all_goals
      obtain rfl : k = _ := by simpa using HK.out
      clear HK
      go_enter Try.func4, Try.ntmps4
      go_wp2_with (fail)
      refine (C1.out _).mono ?_; rintro e w1 ⟨rfl, hb1⟩; obtain ⟨hc1, hf1⟩ := bcell hb1; have hz1 := hb1.size; (try simp at hz1); have hz1_0 : w.heap.size < w1.heap.size := (by omega)
      go_wp2_with (fail)
      refine (awake_any _).mono ?_; rintro e w2 ⟨rfl, hb2⟩; obtain ⟨hc2, hf2⟩ := bcell hb2; have hz2 := hb2.size; (try simp at hz2); have hz2_0 : w.heap.size < w2.heap.size := (by omega); have hz2_1 : w1.heap.size < w2.heap.size := (by omega)
      go_wp2
      go_ret
      exact ⟨rfl, (by repeat (first | exact Below.refl _ _ | refine Below.setCell ?_ (by first | (simp; done) | (simp; omega) | omega) _ | refine Below.alloc ?_ (by first | (simp; done) | (simp; omega) | omega) _ | refine Below.drew ?_ | refine Below.trans ?_ (Below.mono hb1 (by first | (simp; done) | (simp; omega) | omega)) | refine Below.trans ?_ (Below.mono hb2 (by first | (simp; done) | (simp; omega) | omega))))⟩
  case pos =>
    by_cases h0 : amt = 0
    · subst h0
      have e := moveR_zero _ _ _ _ hn
      generalize moveR ⟨v, wr, f⟩ a b 0 k = m at c1 e hn
      obtain ⟨⟨x, y, z⟩, n⟩ := m
      obtain ⟨rfl, rfl, rfl⟩ : x = v ∧ y = wr ∧ z = f := by simpa using e
      obtain rfl : n = 0 := hn
      have C1 := Lib.hid c1
      have HK := Lib.hid hkd
      clear c1 e hk hkd hk2d
      cases o
      all_goals
        obtain rfl : k = _ := by simpa using HK.out
        clear HK
        go_enter Try.func4, Try.ntmps4
        go_wp2_with (fail)
        refine (C1.out _).mono ?_; rintro e w1 ⟨rfl, hb1⟩; obtain ⟨hc1, hf1⟩ := bcell hb1; have hz1 := hb1.size; (try simp at hz1); have hz1_0 : w.heap.size < w1.heap.size := (by omega)
        go_wp2_with (fail)
        refine (awake_any _).mono ?_; rintro e w2 ⟨rfl, hb2⟩; obtain ⟨hc2, hf2⟩ := bcell hb2; have hz2 := hb2.size; (try simp at hz2); have hz2_0 : w.heap.size < w2.heap.size := (by omega); have hz2_1 : w1.heap.size < w2.heap.size := (by omega)
        go_wp2
        go_ret
        exact ⟨rfl, (by repeat (first | exact Below.refl _ _ | refine Below.setCell ?_ (by first | (simp; done) | (simp; omega) | omega) _ | refine Below.alloc ?_ (by first | (simp; done) | (simp; omega) | omega) _ | refine Below.drew ?_ | refine Below.trans ?_ (Below.mono hb1 (by first | (simp; done) | (simp; omega) | omega)) | refine Below.trans ?_ (Below.mono hb2 (by first | (simp; done) | (simp; omega) | omega))))⟩
    · obtain ⟨g, em, hg, hfit, hkk, hfa, hfg, hv⟩ := moveR_ok _ _ _ _ _ _ _ h0 hn
      rw [em] at c1
      have hfit2 := fitB_next hfit hkk hfg hv
      have hfs : fitB v wr f b a = true := by rw [fitB_swap]; exact hfit
      have hfs2 : fitB (v + 1) k g b a = true := by rw [fitB_swap]; exact hfit2
      obtain ⟨b1, b2, b3, b4⟩ := fitB_bd hfit
      obtain ⟨a1, a2⟩ := flowsB_def.1 hfa
      obtain ⟨g1, g2⟩ := flowsB_def.1 hfg
      have hab : a ≠ b := by
        intro e; subst e; simp [fitB] at hfit
      -- the four outflows
      obtain ⟨o2, ho2⟩ : ∃ o2, outR v wr f a b = o2 := ⟨_, rfl⟩
      have e1 : outR (v + 1) k g a b = o2 + amt := by rw [← ho2]; exact out_next hab hg hfit hfit2
      have e3 : outR (v + 1) k g b a = -o2 - amt := by rw [out_flip hab hfit2 hfs2, e1]; omega
      have e4 : outR v wr f b a = -o2 := by rw [out_flip hab hfit hfs, ho2]
      have bo : -2147483647 ≤ o2 ∧ o2 ≤ 2147483647 := by rw [← ho2]; simp only [outR, hfit, if_true]; split <;> omega
      have c2 := fun w => fit_any (v + 1) k g a b w
      rw [hfit2] at c2
      have c3 := fun w => newer_any (v + 1) k g v wr f w
      rw [show newerB (v + 1) k v wr = true from by simp [newerB]; omega] at c3
      have c4 := fun w => out_any (v + 1) k g a b w
      rw [e1] at c4
      have c5 := fun w => out_any v wr f a b w
      rw [ho2] at c5
      have c6 := fun w => out_any (v + 1) k g b a w
      rw [e3] at c6
      have c7 := fun w => out_any v wr f b a w
      rw [e4] at c7
      have c8 := fun w => move_any (v + 1) k g b a amt k2 w
      have hmm : v + 1 = 1099511627776 ∧ moveR ⟨v + 1, k, g⟩ b a amt k2 = (⟨0, 0, 0⟩, 10) ∨ v + 1 ≠ 1099511627776 ∧ moveR ⟨v + 1, k, g⟩ b a amt k2 = (⟨v + 1 + 1, k2, f⟩, 0) := by
        have hk2 : (decide (k2 = b) || decide (k2 = a)) = true := by rcases hk with ⟨_, h⟩ | ⟨_, h⟩ <;> simp [h]
        have hff : flowR g b a amt = f := by rw [hg]; exact flow_back hab
        have hf2 : flowsB f = true := flowsB_def.2 ⟨b3, b4⟩
        by_cases hv2 : v + 1 = 1099511627776
        · left; refine ⟨hv2, ?_⟩; rw [hv2] at hfs2 ⊢; simp [moveR, hfs2, hk2, hfa, h0]
        · right; exact ⟨hv2, by simp [moveR, hfs2, hk2, hfa, h0, hv2, hff, hf2]⟩
      have w1 : IntKind.i64.wrap (o2 + amt) = o2 + amt := IntWalk.i64_in _ (by omega)
      have w2 : IntKind.i64.wrap (-o2 - amt) = -o2 - amt := IntWalk.i64_in _ (by omega)
      have w3 : IntKind.i64.wrap (-(-o2 - amt)) = o2 + amt := by rw [show -(-o2 - amt) = o2 + amt from by omega]; exact w1
      have w4 : IntKind.i64.wrap (amt - -o2) = o2 + amt := by rw [show amt - -o2 = o2 + amt from by omega]; exact w1
      have hne : (amt == 0) = false := by simpa using h0
      have hx : (v + 1 == 1099511627776) = decide (v + 1 = 1099511627776) := rfl
      have C1 := Lib.hid c1; have C2 := Lib.hid c2; have C3 := Lib.hid c3; have C4 := Lib.hid c4; have C5 := Lib.hid c5; have C6 := Lib.hid c6; have C7 := Lib.hid c7; have C8 := Lib.hid c8
      have HM := Lib.hid hmm; have HK := Lib.hid hkd; have HK2 := Lib.hid hk2d
      clear c1 c2 c3 c4 c5 c6 c7 c8 hmm hkd hk2d hk em hg hfit hkk hfa hfg hv hfit2 hfs hfs2 hab ho2 e1 e3 e4 h0 hn hx
      cases o
      all_goals
        obtain rfl : k = _ := by simpa using HK.out
        obtain rfl : k2 = _ := by simpa using HK2.out
        clear HK HK2
        go_enter Try.func4, Try.ntmps4
        go_wp2_with (fail)
        refine (C1.out _).mono ?_; rintro e w1 ⟨rfl, hb1⟩; obtain ⟨hc1, hf1⟩ := bcell hb1; have hz1 := hb1.size; (try simp at hz1); have hz1_0 : w.heap.size < w1.heap.size := (by omega)
        go_wp2_with (fail)
        refine wp_region_quietC_lit (KeptC w [(⟨w.heap.size, 0, none⟩, .int .i64 v), (⟨w.heap.size, 1, none⟩, .int .i64 wr), (⟨w.heap.size, 2, none⟩, .int .i64 f), (⟨w1.heap.size, 0, none⟩, .int .i64 (v + 1)), (⟨w1.heap.size, 1, none⟩, .int .i64 k), (⟨w1.heap.size, 2, none⟩, .int .i64 g)]) (by kernel_rfl) (by kernel_rfl) ?_ ?_
        · refine KeptC.drewn ?_
          repeat' (first | refine KeptC.cons ?_ ?_ | refine KeptC.mk0 ?_)
          all_goals (first | assumption | (go_simp; done) | exact (by repeat (first | exact Below.refl _ _ | refine Below.setCell ?_ (by first | (simp; done) | (simp; omega) | omega) _ | refine Below.alloc ?_ (by first | (simp; done) | (simp; omega) | omega) _ | refine Below.drew ?_ | refine Below.trans ?_ (Below.mono hb1 (by first | (simp; done) | (simp; omega) | omega)))))
        repeat (first
          | go_big_quiet_skip
          | (go_big_quiet_want; (apply quietC_run); (· intro w' hw'; (have hk' := hw'; simp only [KeptC, List.forall_mem_cons] at hk'; go_split_ands); go_simp; first | done | rfl); (simp only [Act.put, List.setIfInBounds_toArray, List.set_cons_zero, List.set_cons_succ]; go_big_quiet_on))
          | (go_big_quiet_want; (apply quietC_call); (· intro w' hw'; go_simp; first | done | exact ⟨rfl, rfl⟩ | rfl); (· intro w' hw'; first | ((with_reducible refine (C2.out _).mono ?_); rintro e w2 ⟨rfl, hb⟩; exact ⟨rfl, hw'.below hb⟩) | ((with_reducible refine (C3.out _).mono ?_); rintro e w2 ⟨rfl, hb⟩; exact ⟨rfl, hw'.below hb⟩) | ((with_reducible refine (C4.out _).mono ?_); rintro e w2 ⟨rfl, hb⟩; exact ⟨rfl, hw'.below hb⟩) | ((with_reducible refine (C5.out _).mono ?_); rintro e w2 ⟨rfl, hb⟩; exact ⟨rfl, hw'.below hb⟩) | ((with_reducible refine (C6.out _).mono ?_); rintro e w2 ⟨rfl, hb⟩; exact ⟨rfl, hw'.below hb⟩) | ((with_reducible refine (C7.out _).mono ?_); rintro e w2 ⟨rfl, hb⟩; exact ⟨rfl, hw'.below hb⟩)); (simp only [Act.put, List.setIfInBounds_toArray, List.set_cons_zero, List.set_cons_succ]; go_big_quiet_on)))
        refine wpQuiet_nil ?_
        intro w3 hk3
        (have hk' := hk3; simp only [KeptC, List.forall_mem_cons] at hk'; go_split_ands)
        have hz3_0 : w.heap.size < w3.heap.size := cell_lt (a := ⟨w.heap.size, 0, none⟩) (by assumption)
        have hz3_1 : w1.heap.size < w3.heap.size := cell_lt (a := ⟨w1.heap.size, 0, none⟩) (by assumption)
        go_wp2_with (fail)
        rcases HM.out with ⟨hv, em2⟩ | ⟨hv, em2⟩
        · have c8 := C8.out
          simp only [em2] at c8
          have C9 := Lib.hid c8
          have hvb : (v + 1 == 1099511627776) = true := by simpa using hv
          clear c8 hv em2 C8 HM
          refine (C9.out _).mono ?_; rintro e w4 ⟨rfl, hb4⟩; obtain ⟨hc4, hf4⟩ := bcell hb4; have hz4 := hb4.size; (try simp at hz4); have hz4_0 : w.heap.size < w4.heap.size := (by omega); have hz4_1 : w1.heap.size < w4.heap.size := (by omega)
          go_wp2_with (fail)
          refine (awake_any _).mono ?_; rintro e w5 ⟨rfl, hb5⟩; obtain ⟨hc5, hf5⟩ := bcell hb5; have hz5 := hb5.size; (try simp at hz5); have hz5_0 : w.heap.size < w5.heap.size := (by omega); have hz5_1 : w1.heap.size < w5.heap.size := (by omega)
          go_wp2
          go_ret
          exact ⟨rfl, (by repeat (first | exact Below.refl _ _ | refine Below.setCell ?_ (by first | (simp; done) | (simp; omega) | omega) _ | refine Below.alloc ?_ (by first | (simp; done) | (simp; omega) | omega) _ | refine Below.drew ?_ | refine Below.trans ?_ (Below.mono hb1 (by first | (simp; done) | (simp; omega) | omega)) | refine Below.trans ?_ (Below.mono hb4 (by first | (simp; done) | (simp; omega) | omega)) | refine Below.trans ?_ (Below.mono hb5 (by first | (simp; done) | (simp; omega) | omega)) | refine Below.trans ?_ (Below.mono hk3.1 (by first | (simp; done) | (simp; omega) | omega))))⟩
        · have c8 := C8.out
          simp only [em2] at c8
          have C9 := Lib.hid c8
          have c10 := fun w => newer_any (v + 1 + 1) k2 f (v + 1) k g w
          rw [show newerB (v + 1 + 1) k2 (v + 1) k = true from by simp [newerB]; omega] at c10
          have C10 := Lib.hid c10
          clear c8 c10 hv em2 C8 HM
          refine (C9.out _).mono ?_; rintro e w4 ⟨rfl, hb4⟩; obtain ⟨hc4, hf4⟩ := bcell hb4; have hz4 := hb4.size; (try simp at hz4); have hz4_0 : w.heap.size < w4.heap.size := (by omega); have hz4_1 : w1.heap.size < w4.heap.size := (by omega)
          go_wp2_with (fail)
          refine (C10.out _).mono ?_; rintro e w5 ⟨rfl, hb5⟩; obtain ⟨hc5, hf5⟩ := bcell hb5; have hz5 := hb5.size; (try simp at hz5); have hz5_0 : w.heap.size < w5.heap.size := (by omega); have hz5_1 : w1.heap.size < w5.heap.size := (by omega); have hz5_2 : w4.heap.size < w5.heap.size := (by omega)
          go_wp2_with (fail)
          refine (awake_any _).mono ?_; rintro e w6 ⟨rfl, hb6⟩; obtain ⟨hc6, hf6⟩ := bcell hb6; have hz6 := hb6.size; (try simp at hz6); have hz6_0 : w.heap.size < w6.heap.size := (by omega); have hz6_1 : w1.heap.size < w6.heap.size := (by omega); have hz6_2 : w4.heap.size < w6.heap.size := (by omega)
          go_wp2
          go_ret
          exact ⟨rfl, (by repeat (first | exact Below.refl _ _ | refine Below.setCell ?_ (by first | (simp; done) | (simp; omega) | omega) _ | refine Below.alloc ?_ (by first | (simp; done) | (simp; omega) | omega) _ | refine Below.drew ?_ | refine Below.trans ?_ (Below.mono hb1 (by first | (simp; done) | (simp; omega) | omega)) | refine Below.trans ?_ (Below.mono hb4 (by first | (simp; done) | (simp; omega) | omega)) | refine Below.trans ?_ (Below.mono hb5 (by first | (simp; done) | (simp; omega) | omega)) | refine Below.trans ?_ (Below.mono hb6 (by first | (simp; done) | (simp; omega) | omega)) | refine Below.trans ?_ (Below.mono hk3.1 (by first | (simp; done) | (simp; omega) | omega))))⟩

theorem regBack_lifted (os : Os) (started : os.Started) (H : Type) (enc : TypeId × Value → H) :
    ReturnsInHanded {} Try.checked os 4 .any (Rows.regBackSpec.pre6 enc Try.prog Try.f4 Rows.regBackRow.domain false) (Rows.regBackSpec.post enc Try.prog Try.f4 false true false false) := by
  refine returnsInHanded_of_change_sized (C := Try.checked) own started (by kernel_rfl) Try.func4
    (ChangeSpec.witness6 (enc := enc) (C := Try.checked) false ⟨#[], #[.agg #[.int .i64 0, .int .i64 0, .int .i64 0], .int .i64 0, .int .i64 0, .int .i64 0, .bool false], []⟩ 8 (by kernel_rfl) (by kernel_rfl) (by kernel_rfl) (by kernel_rfl)) ?_
  intro W base args ds gs before hval hW _ hsz _
  have hW' := hW
  obtain ⟨p, q, hA, hV, rfl, hfz, hnd⟩ := hW
  obtain ⟨rfl, rfl⟩ := trodVars_none hV
  rw [Try.params4] at hA hval
  obtain ⟨v0, vs0, d0, ds0, p0, q0, hargs, rfl, rfl, h0, r0⟩ := trodAll_cons hA
  obtain ⟨v1, vs1, d1, ds1, p1, q1, rfl, rfl, rfl, h1, r1⟩ := trodAll_cons r0
  obtain ⟨v2, vs2, d2, ds2, p2, q2, rfl, rfl, rfl, h2, r2⟩ := trodAll_cons r1
  obtain ⟨v3, vs3, d3, ds3, p3, q3, rfl, rfl, rfl, h3, r3⟩ := trodAll_cons r2
  obtain ⟨v4, vs4, d4, ds4, p4, q4, rfl, rfl, rfl, h4, r4⟩ := trodAll_cons r3
  obtain ⟨rfl, rfl, rfl⟩ := trodAll_nil r4
  obtain rfl : args = #[v0, v1, v2, v3, v4] := by cases args; simp_all
  obtain ⟨v, wr, f, rfl, _, _, _⟩ := open_reg (hval 0 _ v0 rfl rfl) h0
  obtain ⟨a, rfl, _, _, wa⟩ := open_int Try.underlying3 (hval 1 _ v1 rfl rfl) h1
  obtain ⟨b, rfl, _, _, wb⟩ := open_int Try.underlying3 (hval 2 _ v2 rfl rfl) h2
  obtain ⟨amt, rfl, _, _, wam⟩ := open_int Try.underlying2 (hval 3 _ v3 rfl rfl) h3
  obtain ⟨o, rfl, _, _⟩ := open_bool Try.underlying4 (hval 4 _ v4 rfl rfl) h4
  refine (regBack_any v wr f a b amt o W).mono fun e W' ⟨he, hg⟩ => ?_
  subst he
  exact ⟨_, rfl, law_post laidOut rfl (by kernel_rfl) rfl Try.underlying4 rfl hW' hg⟩

theorem regBack_holds : Rows.RegBackSaid :=
  OpenClaim.holds_of_wide 4 Try.f4 rfl rfl rfl rfl rfl rfl rfl ⟨rfl, rfl, rfl, rfl, rfl⟩ rfl rfl rfl rfl rfl (by kernel_rfl) Try.func4 (by kernel_rfl)
    (of_decide_eq_true (by kernel_rfl)) (by unfold Func.isWrapper; first | (rw [if_pos (by decide +kernel)]; kernel_rfl) | (rw [if_neg (by decide +kernel)]; exact ⟨rfl, rfl⟩))
    (fun os started H enc _ => regBack_lifted os started H enc)

end Go.Proofs.Ytnmgfginhplpbaa
