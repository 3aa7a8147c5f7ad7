/- Chapter 22, parts on the way: VwS -/
import Derived.Test.YtkfodkbgmpbmfaaGreatB01
import Derived.Test.YtkfodkbgmpbmfaaGreatB05
import Derived.Test.YtkfodkbgmpbmfaaGreatB14
set_option linter.unusedVariables false
set_option linter.unusedSimpArgs false
namespace Go.Proofs.YtkfodkbgmpbmfaaGreat
open Go.RowKit
set_option linter.unusedVariables false
set_option linter.unusedSimpArgs false
@[reducible] def SnV (x : Sn) : Value := .agg #[.int .i64 x.peer, .int .i64 x.boot, .int .i64 x.life, .int .i64 x.mine]
def nodeI (a : Int) : Bool := decide (0 ≤ a) && decide (a < 16)
theorem nodeI_iff {a : Int} : nodeI a = true ↔ 0 ≤ a ∧ a < 16 := by simp [nodeI]
theorem node13_any (a : Int) (w : World) : Calls Tryz.prog 107 #[.int .i64 a] w fun e w' => e = .returned (.bool (nodeI a)) ∧ w = w' := by
 by_cases h1 : 0 ≤ a <;> by_cases h2 : a < 16
 all_goals
  go_enter Tryz.func107, Tryz.ntmps107
  go_wp2
  go_ret
  exact ⟨by simp [nodeI, h1, h2], rfl⟩
theorem node14_any (a : Int) (w : World) : Calls Tryz.prog 109 #[.int .i64 a] w fun e w' => e = .returned (.bool (nodeI a)) ∧ Below w.heap.size w w' := by
 by_cases h1 : 0 ≤ a <;> by_cases h2 : a < 16
 all_goals
  go_enter Tryz.func109, Tryz.ntmps109
  go_wp2
  go_ret
  exact ⟨by simp [nodeI, h1, h2], Below.refl _ _⟩
theorem node10_any (a : Int) (w : World) : Calls Tryz.prog 111 #[.int .i64 a] w fun e w' => e = .returned (.bool (nodeI a)) ∧ w = w' := by
 by_cases h1 : 0 ≤ a <;> by_cases h2 : a < 16
 all_goals
  go_enter Tryz.func111, Tryz.ntmps111
  go_wp2
  go_ret
  exact ⟨by simp [nodeI, h1, h2], rfl⟩
theorem later_any (b l b2 l2 : Int) (w : World) : Calls Tryz.prog 81 #[.int .i64 b, .int .i64 l, .int .i64 b2, .int .i64 l2] w fun e w' => e = .returned (.bool (decide (b2 < b) || (decide (b = b2) && decide (l2 < l)))) ∧ w = w' := by
 by_cases h1 : b2 < b <;> by_cases h2 : b = b2 <;> by_cases h3 : l2 < l
 all_goals
  have d1 : (b == b2) = decide (b = b2) := rfl
  simp only [h1, h2, h3, decide_true, decide_false] at d1
  go_enter Tryz.func81, Tryz.ntmps81
  go_wp2
  go_ret
  exact ⟨by simp [h1, h2, h3], rfl⟩
set_option maxRecDepth 100000
set_option maxHeartbeats 4000000 in
theorem rget_any (A : Option Addr) (n cp : Nat) (rs : List Sn) (p : Int) (w : World) (hr : RowsE encSn 4 w w.heap.size A n rs) (hm : n ≤ 70368744177664) :
    Calls Tryz.prog 79 #[.slice A n cp, .int .i64 p] w fun e w' => e = .returned (SnV (getSn rs p)) ∧ Below w.heap.size w w' := by
 have HR := Lib.hid hr
 clear hr
 go_enter Tryz.func79, Tryz.ntmps79
 go_wp2
 go_loopw [5] (fun i w' => ∃ (k : Nat), k ≤ n ∧ i = .int .i64 k ∧ Hid (∀ (t : Nat) y, t < k → rs[t]? = some y → y.peer ≠ p) ∧ KeptC w [(⟨w.heap.size, 0, none⟩, .int .i64 0), (⟨w.heap.size, 1, none⟩, .int .i64 0), (⟨w.heap.size, 2, none⟩, .int .i64 0), (⟨w.heap.size, 3, none⟩, .int .i64 0)] [⟨w.heap.size, 0, none⟩, ⟨w.heap.size, 1, none⟩, ⟨w.heap.size, 2, none⟩, ⟨w.heap.size, 3, none⟩] w') (fun i _ => n - (intOf i).toNat)
 case atStart => exact ⟨0, Nat.zero_le _, rfl, Lib.hid before_zero, Qk⟩
 case round =>
  obtain ⟨k, hk, rfl, HA, hK⟩ := hrel
  simp only [KeptC, List.forall_mem_cons] at hK; obtain ⟨kb0, ⟨kc0_0, kc0_1, kc0_2, kc0_3, _⟩, ⟨kz0_0, kg0_0⟩, ⟨kz0_1, kg0_1⟩, ⟨kz0_2, kg0_2⟩, ⟨kz0_3, kg0_3⟩, _⟩ := hK
  have hs0 := kb0.size
  have hz0 : w.heap.size < wr.heap.size := cell_lt kc0_0
  by_cases hlt : k < n
  rotate_left
  · obtain rfl : k = n := by omega
    have HN : Hid (getSn rs p = ⟨p, 0, 0, 0⟩) := Lib.hid (getSn_miss (before_all HR.out.1 HA.out))
    go_wp2
    refine bodyPost_ret (v := SnV ⟨p, 0, 0, 0⟩) (by simp [results, Tryz.results79, go_sem, *]) rfl ⟨by rw [HN.out], (Qb1 kb0)⟩
  · obtain ⟨ad, x, rfl, hab, hx, h4⟩ := HR.out.at hlt
    obtain ⟨P, hP⟩ : ∃ P, ad.add (k * 4) = P := ⟨_, rfl⟩
    rw [hP] at h4 hab
    obtain ⟨c0, c1, c2, c3⟩ := (sn4_of h4).below hab kb0
    have hPw : P.block < wr.heap.size := by omega
    have HX := Lib.hid hx
    clear h4 hx
    cases he : (x.peer == p) with
    | true =>
     have HG : Hid (getSn rs p = x) := Lib.hid (getSn_hit HX.out (by simpa using he) HA.out)
     go_wp2
     refine bodyPost_ret (v := SnV x) (by simp [results, Tryz.results79, go_sem, *]) rfl ⟨by rw [HG.out], (Qb1 kb0)⟩
    | false =>
     have HE : Hid (x.peer ≠ p) := Lib.hid (by simpa using he)
     go_wp2
     go_roundw
     case rel => exact ⟨k + 1, by omega, by go_num, Lib.hid (before_next HA.out HX.out HE.out), (Qk1 kb0)⟩
     case measure => simp [intOf]; omega
def adjSn (l : List Sn) (t : Nat) : Prop := ∀ x y, l[t]? = some x → l[t + 1]? = some y → x.peer < y.peer
theorem snsOk_of {l : List Sn} {n : Nat} (hl : l.length = n) (h1 : ∀ (t : Nat) y, t < n → l[t]? = some y → 0 ≤ y.peer ∧ y.peer < 16) (h2 : ∀ t : Nat, t + 1 < n → adjSn l t) : SnsOk l :=
 ⟨pw_adjv (fun a b c h1 h2 => by omega) l (fun t x y hx hy => h2 t (by have := (List.getElem?_eq_some_iff.1 hy).1; omega) x y hx hy), fun s hs => by
  obtain ⟨t, ht, e⟩ := List.getElem_of_mem hs
  exact h1 t s (by omega) (by rw [List.getElem?_eq_getElem ht, e])⟩
set_option maxHeartbeats 4000000 in
theorem snfit_any (id : Int) (A : Option Addr) (n cp : Nat) (rs : List Sn) (w : World) (hr : RowsE encSn 4 w w.heap.size A n rs) (hm : n ≤ 70368744177664) :
    Calls Tryz.prog 76 #[.int .i64 id, .slice A n cp] w (FitPost (SnsOk rs) w) := by
 have HR := Lib.hid hr
 clear hr
 go_enter Tryz.func76, Tryz.ntmps76
 go_wp2
 go_loopw [5] (fun i w' => ∃ (k : Nat), k ≤ n ∧ i = .int .i64 k ∧ Hid (∀ (t : Nat) y, t < k → rs[t]? = some y → 0 ≤ y.peer ∧ y.peer < 16) ∧ Hid (∀ t : Nat, t + 1 < k → adjSn rs t) ∧ KeptC w [] [] w') (fun i _ => n - (intOf i).toNat)
 case atStart => exact ⟨0, Nat.zero_le _, rfl, Lib.hid before_zero, Lib.hid (fun t h => by omega), Qk⟩
 case round =>
  obtain ⟨k, hk, rfl, HA, HP, hK⟩ := hrel
  have kb0 := hK.1
  clear hK
  have hs0 := kb0.size
  by_cases hlt : k < n
  rotate_left
  · obtain rfl : k = n := by omega
    have HN : Hid (SnsOk rs) := Lib.hid (snsOk_of HR.out.1 HA.out HP.out)
    go_wp2_with (fail)
    refine (node14_any id _).mono ?_; rintro e w1 ⟨rfl, hb1⟩
    go_wp2
    go_ret
    exact ⟨_, rfl, fun _ => HN.out, (Qb2 hb1 kb0)⟩
  · obtain ⟨ad, x, rfl, hab, hx, h4⟩ := HR.out.at hlt
    obtain ⟨P, hP⟩ : ∃ P, ad.add (k * 4) = P := ⟨_, rfl⟩
    rw [hP] at h4 hab
    obtain ⟨c0, c1, c2, c3⟩ := (sn4_of h4).below hab kb0
    have hPw : P.block < wr.heap.size := by omega
    have HX := Lib.hid hx
    clear h4 hx
    obtain ⟨B0, hB0⟩ : ∃ B, nodeI x.peer = B := ⟨_, rfl⟩
    have cc := node14_any x.peer
    rw [hB0] at cc
    have HB0 := Lib.hid hB0
    obtain ⟨B1, hB1⟩ : ∃ B, (x.peer == id) = B := ⟨_, rfl⟩
    obtain ⟨B3, hB3⟩ : ∃ B, decide (x.boot < 0) = B := ⟨_, rfl⟩
    obtain ⟨B4, hB4⟩ : ∃ B, decide (1099511627776 < x.boot) = B := ⟨_, rfl⟩
    obtain ⟨B5, hB5⟩ : ∃ B, decide (x.life < 0) = B := ⟨_, rfl⟩
    obtain ⟨B6, hB6⟩ : ∃ B, decide (1099511627776 < x.life) = B := ⟨_, rfl⟩
    obtain ⟨B7, hB7⟩ : ∃ B, decide (x.mine < 0) = B := ⟨_, rfl⟩
    obtain ⟨B8, hB8⟩ : ∃ B, decide (1099511627776 < x.mine) = B := ⟨_, rfl⟩
    obtain ⟨B9, hB9⟩ : ∃ B, (x.boot == 0) = B := ⟨_, rfl⟩
    obtain ⟨B10, hB10⟩ : ∃ B, (x.life != 0) = B := ⟨_, rfl⟩
    obtain ⟨B11, hB11⟩ : ∃ B, (x.mine == 0) = B := ⟨_, rfl⟩
    clear hB0
    cases k with
    | zero =>
     go_wp2_with (fail)
     refine wp_region_quietC_lit (KeptC w [(⟨wr.heap.size, 0, none⟩, .int .i64 x.peer), (⟨wr.heap.size, 1, none⟩, .int .i64 x.boot), (⟨wr.heap.size, 2, none⟩, .int .i64 x.life), (⟨wr.heap.size, 3, none⟩, .int .i64 x.mine)] []) (by kernel_rfl) (by kernel_rfl) ?_ ?_
     · refine KeptC.drewn ?_
       exact Qk1 kb0
     try simp only [List.append_eq, List.cons_append, List.nil_append]
     repeat (first
      | go_big_quiet_skip
      | (refine BigFrame.wpQuiet_skip (wanted_off rfl rfl rfl rfl) ?_; (simp only [Act.put, List.setIfInBounds_toArray, List.set_cons_zero, List.set_cons_succ]))
      | (apply pick_or0 rfl rfl rfl; (· intro hA; (try simp only [hA, Bool.not_false, Bool.not_true, Bool.and_self, Bool.and_true, Bool.true_and, qv_true]); rfl); intro D hD; (simp only [Act.put, List.setIfInBounds_toArray, List.set_cons_zero, List.set_cons_succ]))
      | (apply pick_orG rfl (by first | exact wanted_on rfl rfl rfl rfl | exact wanted_pos rfl rfl rfl | exact wanted_neg rfl rfl rfl | exact wanted_pos2 rfl rfl rfl | exact wanted_neg2 rfl rfl rfl); (· intro hG; (try simp only [Bool.and_eq_true, Bool.or_eq_false_iff, Bool.not_eq_true', Bool.not_eq_false', Bool.not_not] at hG); (try simp only [hG, Bool.or_false, Bool.false_or, Bool.not_false, Bool.not_true, Bool.and_self, Bool.and_true, Bool.true_and, Bool.or_true, Bool.true_or, qv_true]); rfl); (· intro hG; (try simp only [Bool.and_eq_true, Bool.or_eq_false_iff, Bool.not_eq_true', Bool.not_eq_false', Bool.not_not] at hG); (try simp only [hG, Bool.or_false, Bool.false_or, Bool.not_false, Bool.not_true, Bool.and_self, Bool.and_true, Bool.true_and, Bool.or_true, Bool.true_or, qv_true]); intro hA; (try simp only [hA, Bool.not_false, Bool.not_true, Bool.and_self, Bool.and_true, Bool.true_and, qv_true]); rfl); intro D hD; (simp only [Act.put, List.setIfInBounds_toArray, List.set_cons_zero, List.set_cons_succ]))
      | (apply pick_and0 rfl rfl rfl; (· intro hA; (try simp only [hA, Bool.not_false, Bool.not_true, Bool.and_self, Bool.and_true, Bool.true_and, qv_true]); rfl); intro D hD; (simp only [Act.put, List.setIfInBounds_toArray, List.set_cons_zero, List.set_cons_succ]))
      | (apply pick_andG rfl (by first | exact wanted_on rfl rfl rfl rfl | exact wanted_pos rfl rfl rfl | exact wanted_neg rfl rfl rfl | exact wanted_pos2 rfl rfl rfl | exact wanted_neg2 rfl rfl rfl); (· intro hG; (try simp only [Bool.and_eq_true, Bool.or_eq_false_iff, Bool.not_eq_true', Bool.not_eq_false', Bool.not_not] at hG); (try simp only [hG, Bool.or_false, Bool.false_or, Bool.not_false, Bool.not_true, Bool.and_self, Bool.and_true, Bool.true_and, Bool.or_true, Bool.true_or, qv_true]); rfl); (· intro hG; (try simp only [Bool.and_eq_true, Bool.or_eq_false_iff, Bool.not_eq_true', Bool.not_eq_false', Bool.not_not] at hG); (try simp only [hG, Bool.or_false, Bool.false_or, Bool.not_false, Bool.not_true, Bool.and_self, Bool.and_true, Bool.true_and, Bool.or_true, Bool.true_or, qv_true]); intro hA; (try simp only [hA, Bool.not_false, Bool.not_true, Bool.and_self, Bool.and_true, Bool.true_and, qv_true]); rfl); intro D hD; (simp only [Act.put, List.setIfInBounds_toArray, List.set_cons_zero, List.set_cons_succ]))
      | (go_big_quiet_want; (apply quietC_run); (· intro w' hw'; (have hk' := hw'; simp only [KeptC, List.forall_mem_cons] at hk'; go_split_ands); go_simp; first | done | rfl); (simp only [Act.put, List.setIfInBounds_toArray, List.set_cons_zero, List.set_cons_succ]; go_big_quiet_on))
      | (go_big_quiet_want; (apply quietC_call); (· intro w' hw'; go_simp; first | done | exact ⟨rfl, rfl⟩ | rfl); (· intro w' hw'; first | ((with_reducible refine (cc _).mono ?_); rintro e w2 ⟨rfl, hb⟩; exact ⟨rfl, hw'.below hb⟩)); (simp only [Act.put, List.setIfInBounds_toArray, List.set_cons_zero, List.set_cons_succ]; go_big_quiet_on))
      | (apply both_run (by first | exact wanted_on rfl rfl rfl rfl | exact wanted_pos rfl rfl rfl | exact wanted_neg rfl rfl rfl | exact wanted_pos2 rfl rfl rfl | exact wanted_neg2 rfl rfl rfl); (· intro hG w' hw'; (have hk' := hw'; simp only [KeptC, List.forall_mem_cons] at hk'; go_split_ands); (try simp only [Bool.and_eq_true, Bool.or_eq_false_iff, Bool.not_eq_true', Bool.not_eq_false', Bool.not_not] at hG); (try simp only [hG, Bool.or_false, Bool.false_or, Bool.not_false, Bool.not_true, Bool.and_self, Bool.and_true, Bool.true_and, Bool.or_true, Bool.true_or, qv_true]); go_simp; first | done | rfl); (simp only [Act.put, List.setIfInBounds_toArray, List.set_cons_zero, List.set_cons_succ]))
      | (apply both_call (by first | exact wanted_on rfl rfl rfl rfl | exact wanted_pos rfl rfl rfl | exact wanted_neg rfl rfl rfl | exact wanted_pos2 rfl rfl rfl | exact wanted_neg2 rfl rfl rfl); (· intro hG w' hw'; (try simp only [Bool.and_eq_true, Bool.or_eq_false_iff, Bool.not_eq_true', Bool.not_eq_false', Bool.not_not] at hG); (try simp only [hG, Bool.or_false, Bool.false_or, Bool.not_false, Bool.not_true, Bool.and_self, Bool.and_true, Bool.true_and, Bool.or_true, Bool.true_or, qv_true]); go_simp; first | done | exact ⟨rfl, rfl⟩ | rfl); (· intro hG w' hw'; first | ((with_reducible refine (cc _).mono ?_); rintro e w2 ⟨rfl, hb⟩; exact ⟨rfl, hw'.below hb⟩)); (simp only [Act.put, List.setIfInBounds_toArray, List.set_cons_zero, List.set_cons_succ])))
     refine wpQuiet_nil ?_
     intro w9 hk9
     (have hk' := hk9; simp only [KeptC, List.forall_mem_cons] at hk'; go_split_ands); have hkB9 := hk9.1
     have hR : (((((((((!B0 || B1) || B3) || B4) || B5) || B6) || B7) || B8) || (B9 && B10)) || (B9 && B11)) = D := by subst_vars; simp
     have hR2 : D = false → B0 = true := by intro h; subst h; simp at hR; exact hR.1.1.1.1.1.1.1.1.1
     have HR2 := Lib.hid hR2
     clear hR hR2
     cases D with
     | true =>
      go_wp2
      go_ret
      exact FitPost.no (Qb1 hkB9)
     | false =>
      have HQ : Hid (0 ≤ x.peer ∧ x.peer < 16) := Lib.hid (nodeI_iff.1 (by rw [HB0.out]; exact HR2.out rfl))
      go_wp2
      go_roundw
      case rel => exact ⟨0 + 1, by omega, by go_num, Lib.hid (before_next HA.out HX.out HQ.out), Lib.hid (fun t h => by omega), (Qk1 hkB9)⟩
      case measure => simp [intOf]; omega
    | succ k =>
     obtain ⟨ad2, y, hA2, hab2, hy, g4⟩ := HR.out.at (j := k) (by omega)
     obtain rfl : ad = ad2 := Option.some.inj hA2
     obtain ⟨Q, hQ⟩ : ∃ Q, ad.add (k * 4) = Q := ⟨_, rfl⟩
     rw [hQ] at g4 hab2
     obtain ⟨e0, e1, e2, e3⟩ := (sn4_of g4).below hab2 kb0
     have hQw : Q.block < wr.heap.size := by omega
     have HY := Lib.hid hy
     have hwk : IntKind.i64.wrap (k : Int) = k := by rw [IntKind.wrap_i64]; omega
     have hkn : k < n := by omega
     obtain ⟨B2, hB2⟩ : ∃ B, decide (x.peer ≤ y.peer) = B := ⟨_, rfl⟩
     clear hy g4 hA2 e1 e2 e3
     go_wp2_with (fail)
     refine wp_region_quietC_lit (KeptC w [(⟨wr.heap.size, 0, none⟩, .int .i64 x.peer), (⟨wr.heap.size, 1, none⟩, .int .i64 x.boot), (⟨wr.heap.size, 2, none⟩, .int .i64 x.life), (⟨wr.heap.size, 3, none⟩, .int .i64 x.mine), (Q, .int .i64 y.peer)] []) (by kernel_rfl) (by kernel_rfl) ?_ ?_
     · refine KeptC.drewn ?_
       exact Qk1 kb0
     try simp only [List.append_eq, List.cons_append, List.nil_append]
     repeat (first
      | go_big_quiet_skip
      | (refine BigFrame.wpQuiet_skip (wanted_off rfl rfl rfl rfl) ?_; (simp only [Act.put, List.setIfInBounds_toArray, List.set_cons_zero, List.set_cons_succ]))
      | (apply pick_or0 rfl rfl rfl; (· intro hA; (try simp only [hA, Bool.not_false, Bool.not_true, Bool.and_self, Bool.and_true, Bool.true_and, qv_true]); rfl); intro D hD; (simp only [Act.put, List.setIfInBounds_toArray, List.set_cons_zero, List.set_cons_succ]))
      | (apply pick_orG rfl (by first | exact wanted_on rfl rfl rfl rfl | exact wanted_pos rfl rfl rfl | exact wanted_neg rfl rfl rfl | exact wanted_pos2 rfl rfl rfl | exact wanted_neg2 rfl rfl rfl); (· intro hG; (try simp only [Bool.and_eq_true, Bool.or_eq_false_iff, Bool.not_eq_true', Bool.not_eq_false', Bool.not_not] at hG); (try simp only [hG, Bool.or_false, Bool.false_or, Bool.not_false, Bool.not_true, Bool.and_self, Bool.and_true, Bool.true_and, Bool.or_true, Bool.true_or, qv_true]); rfl); (· intro hG; (try simp only [Bool.and_eq_true, Bool.or_eq_false_iff, Bool.not_eq_true', Bool.not_eq_false', Bool.not_not] at hG); (try simp only [hG, Bool.or_false, Bool.false_or, Bool.not_false, Bool.not_true, Bool.and_self, Bool.and_true, Bool.true_and, Bool.or_true, Bool.true_or, qv_true]); intro hA; (try simp only [hA, Bool.not_false, Bool.not_true, Bool.and_self, Bool.and_true, Bool.true_and, qv_true]); rfl); intro D hD; (simp only [Act.put, List.setIfInBounds_toArray, List.set_cons_zero, List.set_cons_succ]))
      | (apply pick_and0 rfl rfl rfl; (· intro hA; (try simp only [hA, Bool.not_false, Bool.not_true, Bool.and_self, Bool.and_true, Bool.true_and, qv_true]); rfl); intro D hD; (simp only [Act.put, List.setIfInBounds_toArray, List.set_cons_zero, List.set_cons_succ]))
      | (apply pick_andG rfl (by first | exact wanted_on rfl rfl rfl rfl | exact wanted_pos rfl rfl rfl | exact wanted_neg rfl rfl rfl | exact wanted_pos2 rfl rfl rfl | exact wanted_neg2 rfl rfl rfl); (· intro hG; (try simp only [Bool.and_eq_true, Bool.or_eq_false_iff, Bool.not_eq_true', Bool.not_eq_false', Bool.not_not] at hG); (try simp only [hG, Bool.or_false, Bool.false_or, Bool.not_false, Bool.not_true, Bool.and_self, Bool.and_true, Bool.true_and, Bool.or_true, Bool.true_or, qv_true]); rfl); (· intro hG; (try simp only [Bool.and_eq_true, Bool.or_eq_false_iff, Bool.not_eq_true', Bool.not_eq_false', Bool.not_not] at hG); (try simp only [hG, Bool.or_false, Bool.false_or, Bool.not_false, Bool.not_true, Bool.and_self, Bool.and_true, Bool.true_and, Bool.or_true, Bool.true_or, qv_true]); intro hA; (try simp only [hA, Bool.not_false, Bool.not_true, Bool.and_self, Bool.and_true, Bool.true_and, qv_true]); rfl); intro D hD; (simp only [Act.put, List.setIfInBounds_toArray, List.set_cons_zero, List.set_cons_succ]))
      | (go_big_quiet_want; (apply quietC_run); (· intro w' hw'; (have hk' := hw'; simp only [KeptC, List.forall_mem_cons] at hk'; go_split_ands); go_simp; first | done | rfl); (simp only [Act.put, List.setIfInBounds_toArray, List.set_cons_zero, List.set_cons_succ]; go_big_quiet_on))
      | (go_big_quiet_want; (apply quietC_call); (· intro w' hw'; go_simp; first | done | exact ⟨rfl, rfl⟩ | rfl); (· intro w' hw'; first | ((with_reducible refine (cc _).mono ?_); rintro e w2 ⟨rfl, hb⟩; exact ⟨rfl, hw'.below hb⟩)); (simp only [Act.put, List.setIfInBounds_toArray, List.set_cons_zero, List.set_cons_succ]; go_big_quiet_on))
      | (apply both_run (by first | exact wanted_on rfl rfl rfl rfl | exact wanted_pos rfl rfl rfl | exact wanted_neg rfl rfl rfl | exact wanted_pos2 rfl rfl rfl | exact wanted_neg2 rfl rfl rfl); (· intro hG w' hw'; (have hk' := hw'; simp only [KeptC, List.forall_mem_cons] at hk'; go_split_ands); (try simp only [Bool.and_eq_true, Bool.or_eq_false_iff, Bool.not_eq_true', Bool.not_eq_false', Bool.not_not] at hG); (try simp only [hG, Bool.or_false, Bool.false_or, Bool.not_false, Bool.not_true, Bool.and_self, Bool.and_true, Bool.true_and, Bool.or_true, Bool.true_or, qv_true]); go_simp; first | done | rfl); (simp only [Act.put, List.setIfInBounds_toArray, List.set_cons_zero, List.set_cons_succ]))
      | (apply both_call (by first | exact wanted_on rfl rfl rfl rfl | exact wanted_pos rfl rfl rfl | exact wanted_neg rfl rfl rfl | exact wanted_pos2 rfl rfl rfl | exact wanted_neg2 rfl rfl rfl); (· intro hG w' hw'; (try simp only [Bool.and_eq_true, Bool.or_eq_false_iff, Bool.not_eq_true', Bool.not_eq_false', Bool.not_not] at hG); (try simp only [hG, Bool.or_false, Bool.false_or, Bool.not_false, Bool.not_true, Bool.and_self, Bool.and_true, Bool.true_and, Bool.or_true, Bool.true_or, qv_true]); go_simp; first | done | exact ⟨rfl, rfl⟩ | rfl); (· intro hG w' hw'; first | ((with_reducible refine (cc _).mono ?_); rintro e w2 ⟨rfl, hb⟩; exact ⟨rfl, hw'.below hb⟩)); (simp only [Act.put, List.setIfInBounds_toArray, List.set_cons_zero, List.set_cons_succ])))
     refine wpQuiet_nil ?_
     intro w9 hk9
     (have hk' := hk9; simp only [KeptC, List.forall_mem_cons] at hk'; go_split_ands); have hkB9 := hk9.1
     have hR : ((((((((((!B0 || B1) || B2) || B3) || B4) || B5) || B6) || B7) || B8) || (B9 && B10)) || (B9 && B11)) = D := by subst_vars; simp
     have hR2 : D = false → B0 = true ∧ x.peer > y.peer := by intro h; subst h; simp at hR; exact ⟨hR.1.1.1.1.1.1.1.1.1.1, by have h2 := hR.1.1.1.1.1.1.1.1.2; rw [← hB2] at h2; simpa using h2⟩
     have HR2 := Lib.hid hR2
     clear hR hR2
     cases D with
     | true =>
      go_wp2
      go_ret
      exact FitPost.no (Qb1 hkB9)
     | false =>
      have HQ : Hid (0 ≤ x.peer ∧ x.peer < 16) := Lib.hid (nodeI_iff.1 (by rw [HB0.out]; exact (HR2.out rfl).1))
      have HQ2 : Hid (∀ t : Nat, t + 1 < k + 1 + 1 → adjSn rs t) := Lib.hid (fun t h => by
       rcases Nat.lt_or_eq_of_le (Nat.lt_succ_iff.1 h) with h1 | h1
       · exact HP.out t h1
       · obtain rfl : t = k := by omega
         intro a b ha hb
         rw [HY.out] at ha; rw [HX.out] at hb
         obtain rfl := Option.some.inj ha
         obtain rfl := Option.some.inj hb
         exact (HR2.out rfl).2)
      go_wp2
      go_roundw
      case rel => exact ⟨k + 1 + 1, by omega, by go_num, Lib.hid (before_next HA.out HX.out HQ.out), HQ2, (Qk1 hkB9)⟩
      case measure => simp [intOf]; omega
end Go.Proofs.YtkfodkbgmpbmfaaGreat
