/- eddyref01.Parse for every text. -/
import Derived.Test.YtmgpknadefhikaaNumP
namespace Go.Proofs.Ytmgpknadefhikaa
open Go.RowKit
set_option maxHeartbeats 2000000 in
theorem rparse_bad (s : ByteArray) (w : World) (hs : s.size ≤ maxLen) (h : badHead s.data.toList = true) :
    Calls Try.prog 11 #[.string s] w fun e w' => e = .returned (.tuple #[.agg #[.int .u64 0, .int .u64 0], .int .i64 20]) ∧ Below w.heap.size w w' := by
  unfold maxLen at hs
  rcases Nat.eq_zero_or_pos s.size with h0 | h0
  · obtain rfl := str_nil h0
    clear h hs h0
    go_enter Try.func11, Try.ntmps11
    go_wp2
    refine bodyPost_ret (v := .tuple #[.agg #[.int .u64 0, .int .u64 0], .int .i64 20]) (by simp [results, Try.results11, go_sem]) rfl ⟨rfl, (by repeat (first | with_reducible refine Below.setCell ?_ (by first | (simp; done) | (simp; omega) | omega) _ | with_reducible refine Below.alloc ?_ (by first | (simp; done) | (simp; omega) | omega) _ | with_reducible refine Below.drew ?_ | with_reducible exact Below.refl _ _))⟩
  · obtain ⟨n1, n2⟩ := str_ne h0
    by_cases h1 : 39 < s.size
    · have h1' : (39 : Int) < s.size := by omega
      clear h
      go_enter Try.func11, Try.ntmps11
      go_wp2
      refine bodyPost_ret (v := .tuple #[.agg #[.int .u64 0, .int .u64 0], .int .i64 20]) (by simp [results, Try.results11, go_sem]) rfl ⟨rfl, (by repeat (first | with_reducible refine Below.setCell ?_ (by first | (simp; done) | (simp; omega) | omega) _ | with_reducible refine Below.alloc ?_ (by first | (simp; done) | (simp; omega) | omega) _ | with_reducible refine Below.drew ?_ | with_reducible exact Below.refl _ _))⟩
    · have hh := head_of h0 n1 h1 h
      obtain ⟨g1, g2⟩ := hh
      have h1' : (s.size : Int) ≤ 39 := by omega
      have g2' : (1 : Int) < s.size := by omega
      have g3 : (s.toList == [48]) = false := by
        rw [ByteArray.toList_eq]
        apply beq_false_of_ne
        intro e
        have : s.data.toList.length = s.size := rfl
        rw [e] at this
        simp at this
        omega
      clear h
      go_enter Try.func11, Try.ntmps11
      go_wp2
      refine bodyPost_ret (v := .tuple #[.agg #[.int .u64 0, .int .u64 0], .int .i64 20]) (by simp [results, Try.results11, go_sem]) rfl ⟨rfl, (by repeat (first | with_reducible refine Below.setCell ?_ (by first | (simp; done) | (simp; omega) | omega) _ | with_reducible refine Below.alloc ?_ (by first | (simp; done) | (simp; omega) | omega) _ | with_reducible refine Below.drew ?_ | with_reducible exact Below.refl _ _))⟩
/-- j times a, or nothing if it is too great. -/
def nW (a j : Nat) : W := if j * a < M128 then wideN (j * a) else zeroW
theorem plusN_step (a j : Nat) (h : j * a < M128) : plusN (j * a) a = (nW a (j + 1), decide ((j + 1) * a < M128)) := by
  unfold plusN nW
  rw [Nat.succ_mul]
  by_cases hh : j * a + a < M128 <;> simp [hh]
theorem wrplus_j (a j : Nat) (ha : a < M128) (h : j * a < M128) (w : World) :
    Calls Try.prog 30 #[.agg #[.int .u64 (nW a j).hi, .int .u64 (nW a j).lo], .agg #[.int .u64 (wideN a).hi, .int .u64 (wideN a).lo]] w fun e w' => e = .returned (.tuple #[.agg #[.int .u64 (nW a (j + 1)).hi, .int .u64 (nW a (j + 1)).lo], .bool (decide ((j + 1) * a < M128))]) ∧ Below w.heap.size w w' := by
  have hh := wrplus_n (j * a) a h ha w
  rw [plusN_step a j h] at hh
  rw [show nW a j = wideN (j * a) from if_pos h]
  exact hh
theorem wrplus_d (a d : Nat) (ha : a < M128) (hd : d ≤ 9) (w : World) :
    Calls Try.prog 30 #[.agg #[.int .u64 (wideN a).hi, .int .u64 (wideN a).lo], .agg #[.int .u64 0, .int .u64 (d : Int)]] w fun e w' => e = .returned (.tuple #[.agg #[.int .u64 (plusN a d).1.hi, .int .u64 (plusN a d).1.lo], .bool (plusN a d).2]) ∧ Below w.heap.size w w' := by
  have e : wideN d = ⟨0, d⟩ := by simp only [wideN, W.mk.injEq]; omega
  have h := wrplus_n a d ha (by unfold M128; omega) w
  rw [e] at h
  exact h
theorem dig_not {c : UInt8} (h : digB c = false) : ((c.toNat : Int) < 48) ∨ (¬ (c.toNat : Int) < 48 ∧ 57 < (c.toNat : Int)) := by
  simp only [digB, Bool.and_eq_false_iff, decide_eq_false_iff_not] at h
  omega
set_option maxHeartbeats 8000000 in
theorem rparse_good (s : ByteArray) (w : World) (hs : s.size ≤ maxLen) (h : badHead s.data.toList = false) :
    Calls Try.prog 11 #[.string s] w fun e w' => e = .returned (.tuple #[.agg #[.int .u64 (outV (parseL s.data.toList 0)).1.hi, .int .u64 (outV (parseL s.data.toList 0)).1.lo], .int .i64 (outV (parseL s.data.toList 0)).2]) ∧ Below w.heap.size w w' := by
  obtain ⟨h0, h39, hh⟩ := head_good h
  have hh := hh h0
  obtain ⟨n1, n2⟩ := str_ne h0
  clear h hs
  have hst : outV (parseL (s.data.toList.drop 0) 0) = outV (parseL s.data.toList 0) := rfl
  generalize hR : outV (parseL s.data.toList 0) = R at hst ⊢
  clear hR
  obtain ⟨⟨rh, rl⟩, re⟩ := R
  have HST := Lib.hid hst
  clear hst
  have h39' : (s.size : Int) ≤ 39 := by omega
  have hcase : (((s[0].toNat : Int) == 48) = false ∧ 0 < s.size) ∨ (((s[0].toNat : Int) == 48) = true ∧ (s.toList == [48]) = true) := by
    rcases hh with h | ⟨h, h'⟩
    · exact .inl ⟨h, h0⟩
    · refine .inr ⟨h, ?_⟩
      rw [ByteArray.toList_eq]
      have hl : s.data.toList.length = 1 := h'
      have hg := head_get h0
      have h48 : s[0] = 48 := by
        apply UInt8.toNat_inj.1
        have := eq_of_beq h
        show s[0].toNat = 48
        omega
      rw [h48] at hg
      match hx : s.data.toList, hl, hg with
      | [c], _, hg => simp at hg; rw [hg]; rfl
  clear hh
  rcases hcase with ⟨g1, g2⟩ | ⟨g1, g2⟩
  all_goals
    go_enter Try.func11, Try.ntmps11
    go_wp2
    go_loopw [5] (fun i w' => ∃ k a : Nat, k ≤ s.size ∧ i = .int .i64 k ∧ a < M128 ∧ Hid (outV (parseL (s.data.toList.drop k) a) = (⟨rh, rl⟩, re)) ∧ KeptC w [(⟨w.heap.size, 0, none⟩, .int .u64 0), (⟨w.heap.size, 1, none⟩, .int .u64 0), (⟨w.heap.size + 1, 0, none⟩, .int .u64 (wideN a).hi), (⟨w.heap.size + 1, 1, none⟩, .int .u64 (wideN a).lo)] [⟨w.heap.size, 0, none⟩, ⟨w.heap.size, 1, none⟩, ⟨w.heap.size + 1, 0, none⟩, ⟨w.heap.size + 1, 1, none⟩] w') (fun i _ => s.size - (intOf i).toNat)
    case atStart => exact ⟨0, 0, Nat.zero_le _, rfl, (by decide), HST, by rw [show wideN 0 = ⟨0, 0⟩ from rfl]; exact (by (repeat' (first | refine KeptC.cons ?_ ?_ | refine KeptC.consF ?_ ?_ ?_ | refine KeptC.mk0 ?_)); all_goals (first | with_reducible assumption | (go_simp; done) | (simp; omega) | exact (by repeat (first | with_reducible refine Below.setCell ?_ (by first | (simp; done) | (simp; omega) | omega) _ | with_reducible refine Below.alloc ?_ (by first | (simp; done) | (simp; omega) | omega) _ | with_reducible refine Below.drew ?_ | with_reducible exact Below.refl _ _))))⟩
    case round =>
      obtain ⟨k, a, hk, rfl, ha, HP, hK⟩ := hrel
      obtain ⟨w1, hw1⟩ : ∃ w1, w1 = wr := ⟨_, rfl⟩
      subst hw1
      simp only [KeptC, List.forall_mem_cons] at hK; obtain ⟨kb0, ⟨kc0_0, kc0_1, kc0_2, kc0_3, _⟩, ⟨kz0_0, kg0_0⟩, ⟨kz0_1, kg0_1⟩, ⟨kz0_2, kg0_2⟩, ⟨kz0_3, kg0_3⟩, _⟩ := hK
      clear HST
      by_cases hlt : k < s.size
      · have hst := parseL_step s.data.toList k hlt a
        rw [show s.data.toList[k] = s[k] from rfl] at hst
        generalize hc : s[k] = c at hst
        cases hd : digB c with
        | false =>
          rw [hd, Bool.false_and, if_neg (by decide)] at hst
          have hn := dig_not hd
          rw [← hc] at hn
          have HS := Lib.hid hst
          have e0 := HP.out
          rw [HS.out] at e0
          simp only [outV, zeroW, Prod.mk.injEq, W.mk.injEq] at e0
          obtain ⟨⟨rfl, rfl⟩, rfl⟩ := e0
          clear hst hd hc
          rcases hn with hn | ⟨hn, hn2⟩
          all_goals
            go_wp2
            refine bodyPost_ret (v := .tuple #[.agg #[.int .u64 0, .int .u64 0], .int .i64 20]) (by simp [results, Try.results11, go_sem, *]) rfl ⟨rfl, (by repeat (first | with_reducible refine Below.setCell ?_ (by first | (simp; done) | (simp; omega) | omega) _ | with_reducible refine Below.alloc ?_ (by first | (simp; done) | (simp; omega) | omega) _ | with_reducible refine Below.drew ?_ | with_reducible exact Below.refl _ _ | with_reducible refine Below.trans ?_ (Below.mono kb0 (by first | (simp; done) | (simp; omega) | omega))))⟩
        | true =>
          rw [hd, Bool.true_and] at hst
          obtain ⟨d, hd0, hw, hw2, hd9, hlo, hhi⟩ : ∃ d : Nat, dig c = d ∧ IntKind.u8.wrap ((s[k].toNat : Int) - 48) = (d : Int) ∧ (s[k].toNat : Int) - 48 = d ∧ d ≤ 9 ∧ 48 ≤ (s[k].toNat : Int) ∧ (s[k].toNat : Int) ≤ 57 := by
            obtain ⟨hw, hd9⟩ := u8_dig hd
            simp only [digB, Bool.and_eq_true, decide_eq_true_eq] at hd
            rw [← hc] at hw hd9 hd ⊢
            exact ⟨_, rfl, hw, by unfold dig; omega, hd9, by omega, by omega⟩
          rw [hd0] at hst
          have HS := Lib.hid hst
          have CD := fun w h => wrplus_d (10 * a) d h hd9 w
          have CI := fun j w h => wrplus_j a (j + 1) ha h w
          have HA := Lib.hid ha
          have e1 : nW a 1 = wideN a := by unfold nW; rw [Nat.one_mul, if_pos ha]
          have H1 := Lib.hid e1
          clear hst hd hc hd0 hd9 e1 ha
          have HW := Lib.hid (And.intro hw hw2)
          clear hw hw2
          go_wp2
          go_loopw [7, 8] (fun okv i w' => ∃ j : Nat, j ≤ 9 ∧ i = .int .i64 j ∧ okv = .bool (decide ((j + 1) * a < M128)) ∧ KeptC w [(⟨w.heap.size, 0, none⟩, .int .u64 0), (⟨w.heap.size, 1, none⟩, .int .u64 0), (⟨w.heap.size + 1, 0, none⟩, .int .u64 (wideN a).hi), (⟨w.heap.size + 1, 1, none⟩, .int .u64 (wideN a).lo), (⟨w1.heap.size, 0, none⟩, .int .u64 (nW a (j + 1)).hi), (⟨w1.heap.size, 1, none⟩, .int .u64 (nW a (j + 1)).lo)] [⟨w.heap.size, 0, none⟩, ⟨w.heap.size, 1, none⟩, ⟨w.heap.size + 1, 0, none⟩, ⟨w.heap.size + 1, 1, none⟩, ⟨w1.heap.size, 0, none⟩, ⟨w1.heap.size, 1, none⟩] w') (fun _ i _ => 9 - (intOf i).toNat)
          case atStart => exact ⟨0, by omega, rfl, by rw [Nat.zero_add, Nat.one_mul, decide_eq_true HA.out], by rw [Nat.zero_add, H1.out]; exact (by (repeat' (first | refine KeptC.cons ?_ ?_ | refine KeptC.consF ?_ ?_ ?_ | refine KeptC.mk0 ?_)); all_goals (first | with_reducible assumption | (go_simp; done) | (simp; omega) | exact (by repeat (first | with_reducible refine Below.setCell ?_ (by first | (simp; done) | (simp; omega) | omega) _ | with_reducible refine Below.alloc ?_ (by first | (simp; done) | (simp; omega) | omega) _ | with_reducible refine Below.drew ?_ | with_reducible exact Below.refl _ _ | with_reducible refine Below.trans ?_ (Below.mono kb0 (by first | (simp; done) | (simp; omega) | omega))))))⟩
          case round =>
            obtain ⟨j, hj, rfl, rfl, hK⟩ := hrel
            have kne : w.heap.size + 1 < w1.heap.size := by omega
            clear kb0 kc0_0 kc0_1 kc0_2 kc0_3 kz0_0 kz0_1 kz0_2 kz0_3 kg0_0 kg0_1 kg0_2 kg0_3
            simp only [KeptC, List.forall_mem_cons] at hK; obtain ⟨kb1, ⟨kc1_0, kc1_1, kc1_2, kc1_3, kc1_4, kc1_5, _⟩, ⟨kz1_0, kg1_0⟩, ⟨kz1_1, kg1_1⟩, ⟨kz1_2, kg1_2⟩, ⟨kz1_3, kg1_3⟩, ⟨kz1_4, kg1_4⟩, ⟨kz1_5, kg1_5⟩, _⟩ := hK
            cases hp : decide ((j + 1) * a < M128) with
            | false =>
              have e0 := HP.out
              rw [HS.out, if_neg (by
                simp at hp ⊢
                have : (j + 1) * a ≤ 10 * a := Nat.mul_le_mul_right a (by omega)
                omega)] at e0
              simp only [outV, zeroW, Prod.mk.injEq, W.mk.injEq] at e0
              obtain ⟨⟨rfl, rfl⟩, rfl⟩ := e0
              clear hp CD CI
              by_cases hj9 : j < 9
              all_goals
                go_wp2
                refine bodyPost_ret (v := .tuple #[.agg #[.int .u64 0, .int .u64 0], .int .i64 20]) (by simp [results, Try.results11, go_sem, *]) rfl ⟨rfl, (by repeat (first | with_reducible refine Below.setCell ?_ (by first | (simp; done) | (simp; omega) | omega) _ | with_reducible refine Below.alloc ?_ (by first | (simp; done) | (simp; omega) | omega) _ | with_reducible refine Below.drew ?_ | with_reducible exact Below.refl _ _ | with_reducible refine Below.trans ?_ (Below.mono kb1 (by first | (simp; done) | (simp; omega) | omega))))⟩
            | true =>
              by_cases hj9 : j < 9
              · have ca := fun w => CI j w (by simpa using hp)
                clear CD CI hp
                generalize hos : decide ((j + 1 + 1) * a < M128) = q at *
                generalize hms : nW a (j + 1 + 1) = nx at *
                generalize nW a (j + 1) = tw at *
                generalize wideN a = aw at *
                obtain ⟨nh, nl⟩ := nx; obtain ⟨th, tl⟩ := tw; obtain ⟨ah, al⟩ := aw
                have CA := Lib.hid ca; have HM := Lib.hid hms; have HO := Lib.hid hos
                clear ca hms hos
                go_wp2_with (fail)
                refine (CA.out _).mono ?_; rintro e w2 ⟨rfl, hb2⟩; obtain ⟨hc2, hf2⟩ := bcell hb2; have hz2 := hb2.size; (try simp at hz2); have hz2_0 : w.heap.size < w2.heap.size := (by omega); have hz2_1 : w.heap.size + 1 < w2.heap.size := (by omega); have hz2_2 : w1.heap.size < w2.heap.size := (by omega)
                go_wp2
                go_roundw
                case rel => exact ⟨j + 1, by omega, by go_num, by rw [HO.out], by rw [HM.out]; exact (by (repeat' (first | refine KeptC.cons ?_ ?_ | refine KeptC.consF ?_ ?_ ?_ | refine KeptC.mk0 ?_)); all_goals (first | with_reducible assumption | (go_simp; done) | (simp; omega) | exact (by repeat (first | with_reducible refine Below.setCell ?_ (by first | (simp; done) | (simp; omega) | omega) _ | with_reducible refine Below.alloc ?_ (by first | (simp; done) | (simp; omega) | omega) _ | with_reducible refine Below.drew ?_ | with_reducible exact Below.refl _ _ | with_reducible refine Below.trans ?_ (Below.mono hb2 (by first | (simp; done) | (simp; omega) | omega)) | with_reducible refine Below.trans ?_ (Below.mono kb1 (by first | (simp; done) | (simp; omega) | omega))))))⟩
                case measure => simp [intOf]; omega
              · obtain rfl : j = 9 := by omega
                have h10 : 10 * a < M128 := by simpa using hp
                have ca := fun w => CD w h10
                rw [show nW a (9 + 1) = wideN (10 * a) from if_pos h10] at *
                have hpd : plusN (10 * a) d = if a * 10 + d < M128 then (wideN (a * 10 + d), true) else (zeroW, false) := by
                  rw [Nat.mul_comm a 10]; rfl
                rw [hpd] at ca
                clear CD CI hp hpd
                generalize wideN (10 * a) = tw at *
                generalize hA : wideN a = aw at *
                obtain ⟨th, tl⟩ := tw; obtain ⟨ah, al⟩ := aw
                clear hA
                have kz9 : w1.heap.size < wr.heap.size := kz1_4
                by_cases h11 : a * 10 + d < M128
                · rw [if_pos h11] at ca
                  have e0 := HP.out
                  rw [HS.out, if_pos (by simpa using h11)] at e0
                  have HP2 := Lib.hid e0
                  generalize hW : wideN (a * 10 + d) = nx at *
                  obtain ⟨nh, nl⟩ := nx
                  have CA := Lib.hid ca; have HL := Lib.hid h11; have HX := Lib.hid hW
                  clear ca e0 h11 h10 hW
                  go_wp2
                  obtain ⟨hw, hw2⟩ := HW.out
                  have hw3 : IntKind.u64.wrap (d : Int) = d := by rw [IntKind.wrap_u64]; omega
                  have hw4 : IntKind.u8.wrap (d : Int) = d := by rw [IntKind.wrap_u8]; omega
                  have K0 : KeptC w [(⟨w.heap.size, 0, none⟩, .int .u64 0), (⟨w.heap.size, 1, none⟩, .int .u64 0), (⟨w.heap.size + 1, 0, none⟩, .int .u64 ah), (⟨w.heap.size + 1, 1, none⟩, .int .u64 al), (⟨w1.heap.size, 0, none⟩, .int .u64 th), (⟨w1.heap.size, 1, none⟩, .int .u64 tl)] [⟨w.heap.size, 0, none⟩, ⟨w.heap.size, 1, none⟩, ⟨w.heap.size + 1, 0, none⟩, ⟨w.heap.size + 1, 1, none⟩, ⟨w1.heap.size, 0, none⟩, ⟨w1.heap.size, 1, none⟩] wr := (by (repeat' (first | refine KeptC.cons ?_ ?_ | refine KeptC.consF ?_ ?_ ?_ | refine KeptC.mk0 ?_)); all_goals (first | with_reducible assumption | (go_simp; done) | (simp; omega) | exact (by repeat (first | with_reducible refine Below.setCell ?_ (by first | (simp; done) | (simp; omega) | omega) _ | with_reducible refine Below.alloc ?_ (by first | (simp; done) | (simp; omega) | omega) _ | with_reducible refine Below.drew ?_ | with_reducible exact Below.refl _ _ | with_reducible refine Below.trans ?_ (Below.mono kb1 (by first | (simp; done) | (simp; omega) | omega))))))
                  go_region_with ((with_reducible refine (CA.out _).mono ?_); rintro e w3 ⟨rfl, hb3⟩; have hk3 := KeptC.below (KeptC.drewn K0) hb3; clear hb3; clear kb1 kc1_0 kc1_1 kc1_2 kc1_3 kc1_4 kc1_5 kz1_0 kg1_0 kz1_1 kg1_1 kz1_2 kg1_2 kz1_3 kg1_3 kz1_4 kg1_4 kz1_5 kg1_5; simp only [KeptC, List.forall_mem_cons] at hk3; obtain ⟨kb3, ⟨kc3_0, kc3_1, kc3_2, kc3_3, kc3_4, kc3_5, _⟩, ⟨kz3_0, kg3_0⟩, ⟨kz3_1, kg3_1⟩, ⟨kz3_2, kg3_2⟩, ⟨kz3_3, kg3_3⟩, ⟨kz3_4, kg3_4⟩, ⟨kz3_5, kg3_5⟩, _⟩ := hk3)
                  all_goals
                    go_wp2
                    go_roundw
                    case rel => exact ⟨k + 1, a * 10 + d, by omega, by go_num, HL.out, HP2, by rw [HX.out]; exact (by (repeat' (first | refine KeptC.cons ?_ ?_ | refine KeptC.consF ?_ ?_ ?_ | refine KeptC.mk0 ?_)); all_goals (first | with_reducible assumption | (go_simp; done) | (simp; omega) | exact (by repeat (first | with_reducible refine Below.setCell ?_ (by first | (simp; done) | (simp; omega) | omega) _ | with_reducible refine Below.alloc ?_ (by first | (simp; done) | (simp; omega) | omega) _ | with_reducible refine Below.drew ?_ | with_reducible exact Below.refl _ _ | with_reducible refine Below.trans ?_ (Below.mono kb3 (by first | (simp; done) | (simp; omega) | omega))))))⟩
                    case measure => simp [intOf]; omega
                · rw [if_neg h11] at ca
                  have e0 := HP.out
                  rw [HS.out, if_neg (by simpa using h11)] at e0
                  simp only [outV, zeroW, Prod.mk.injEq, W.mk.injEq] at e0
                  obtain ⟨⟨rfl, rfl⟩, rfl⟩ := e0
                  simp only [zeroW] at ca
                  have CA := Lib.hid ca
                  clear ca h11 h10
                  go_wp2
                  obtain ⟨hw, hw2⟩ := HW.out
                  have hw3 : IntKind.u64.wrap (d : Int) = d := by rw [IntKind.wrap_u64]; omega
                  have hw4 : IntKind.u8.wrap (d : Int) = d := by rw [IntKind.wrap_u8]; omega
                  have K0 : KeptC w [(⟨w.heap.size, 0, none⟩, .int .u64 0), (⟨w.heap.size, 1, none⟩, .int .u64 0), (⟨w.heap.size + 1, 0, none⟩, .int .u64 ah), (⟨w.heap.size + 1, 1, none⟩, .int .u64 al), (⟨w1.heap.size, 0, none⟩, .int .u64 th), (⟨w1.heap.size, 1, none⟩, .int .u64 tl)] [⟨w.heap.size, 0, none⟩, ⟨w.heap.size, 1, none⟩, ⟨w.heap.size + 1, 0, none⟩, ⟨w.heap.size + 1, 1, none⟩, ⟨w1.heap.size, 0, none⟩, ⟨w1.heap.size, 1, none⟩] wr := (by (repeat' (first | refine KeptC.cons ?_ ?_ | refine KeptC.consF ?_ ?_ ?_ | refine KeptC.mk0 ?_)); all_goals (first | with_reducible assumption | (go_simp; done) | (simp; omega) | exact (by repeat (first | with_reducible refine Below.setCell ?_ (by first | (simp; done) | (simp; omega) | omega) _ | with_reducible refine Below.alloc ?_ (by first | (simp; done) | (simp; omega) | omega) _ | with_reducible refine Below.drew ?_ | with_reducible exact Below.refl _ _ | with_reducible refine Below.trans ?_ (Below.mono kb1 (by first | (simp; done) | (simp; omega) | omega))))))
                  go_region_with ((with_reducible refine (CA.out _).mono ?_); rintro e w3 ⟨rfl, hb3⟩; have hk3 := KeptC.below (KeptC.drewn K0) hb3; clear hb3; clear kb1 kc1_0 kc1_1 kc1_2 kc1_3 kc1_4 kc1_5 kz1_0 kg1_0 kz1_1 kg1_1 kz1_2 kg1_2 kz1_3 kg1_3 kz1_4 kg1_4 kz1_5 kg1_5; simp only [KeptC, List.forall_mem_cons] at hk3; obtain ⟨kb3, ⟨kc3_0, kc3_1, kc3_2, kc3_3, kc3_4, kc3_5, _⟩, ⟨kz3_0, kg3_0⟩, ⟨kz3_1, kg3_1⟩, ⟨kz3_2, kg3_2⟩, ⟨kz3_3, kg3_3⟩, ⟨kz3_4, kg3_4⟩, ⟨kz3_5, kg3_5⟩, _⟩ := hk3)
                  all_goals
                    go_wp2
                    refine bodyPost_ret (v := .tuple #[.agg #[.int .u64 0, .int .u64 0], .int .i64 20]) (by simp [results, Try.results11, go_sem, *]) rfl ⟨rfl, (by repeat (first | with_reducible refine Below.setCell ?_ (by first | (simp; done) | (simp; omega) | omega) _ | with_reducible refine Below.alloc ?_ (by first | (simp; done) | (simp; omega) | omega) _ | with_reducible refine Below.drew ?_ | with_reducible exact Below.refl _ _ | with_reducible refine Below.trans ?_ (Below.mono kb3 (by first | (simp; done) | (simp; omega) | omega))))⟩
      · obtain rfl : k = s.size := by omega
        have e0 := HP.out
        rw [show s.size = s.data.toList.length from rfl, List.drop_length] at e0
        simp only [parseL, outV, Prod.mk.injEq] at e0
        obtain ⟨e0, rfl⟩ := e0
        obtain ⟨rfl, rfl⟩ : rh = (wideN a).hi ∧ rl = (wideN a).lo := by rw [e0]; exact ⟨rfl, rfl⟩
        clear e0
        go_wp2
        refine bodyPost_ret (v := .tuple #[.agg #[.int .u64 (wideN a).hi, .int .u64 (wideN a).lo], .int .i64 0]) (by simp [results, Try.results11, go_sem, *]) rfl ⟨rfl, (by repeat (first | with_reducible refine Below.setCell ?_ (by first | (simp; done) | (simp; omega) | omega) _ | with_reducible refine Below.alloc ?_ (by first | (simp; done) | (simp; omega) | omega) _ | with_reducible refine Below.drew ?_ | with_reducible exact Below.refl _ _ | with_reducible refine Below.trans ?_ (Below.mono kb0 (by first | (simp; done) | (simp; omega) | omega))))⟩
theorem rparse_any (s : ByteArray) (w : World) (hs : s.size ≤ maxLen) :
    Calls Try.prog 11 #[.string s] w fun e w' => e = .returned (.tuple #[.agg #[.int .u64 (parseV s.data.toList).1.hi, .int .u64 (parseV s.data.toList).1.lo], .int .i64 (parseV s.data.toList).2]) ∧ Below w.heap.size w w' := by
  unfold parseV parseN
  cases h : badHead s.data.toList with
  | true => exact rparse_bad s w hs h
  | false => exact rparse_good s w hs h
end Go.Proofs.Ytmgpknadefhikaa
