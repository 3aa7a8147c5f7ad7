/- Chapter 22, parts on the way: Wx Wn Wo Wp -/
import Derived.Test.YtkfodkbgmpbmfaaGreatB01
import Derived.Test.YtkfodkbgmpbmfaaGreatB23
import Derived.Test.YtkfodkbgmpbmfaaGreatB24
set_option linter.unusedVariables false
set_option linter.unusedSimpArgs false
namespace Go.Proofs.YtkfodkbgmpbmfaaGreat
open Go.RowKit Go.Shelf
set_option linter.unusedVariables false
set_option linter.unusedSimpArgs false
set_option maxRecDepth 100000
def adjH (l : List Hf) (t : Nat) : Prop := ∀ x y, l[t]? = some x → l[t + 1]? = some y → x.peer < y.peer
theorem hfsOk_of {l : List Hf} {n : Nat} {id : Int} (hl : l.length = n) (h1 : ∀ (t : Nat) y, t < n → l[t]? = some y → HfOk id y) (h2 : ∀ t : Nat, t + 1 < n → adjH l t) : HfsOk id l :=
 ⟨pw_adjv (R := fun a b => a.peer < b.peer) (fun a b c h1 h2 => Int.lt_trans h1 h2) l (fun t x y hx hy => h2 t (by have := (List.getElem?_eq_some_iff.1 hy).1; omega) x y hx hy), fun s hs => by
  obtain ⟨t, ht, e⟩ := List.getElem_of_mem hs
  exact h1 t s (by omega) (by rw [List.getElem?_eq_getElem ht, e])⟩
open Classical in
set_option maxHeartbeats 8000000 in
theorem hfsfit_any (id : Int) (A : Option Addr) (n cp : Nat) (hs : List Hf) (w : World) (hr : HfsAt w w.heap.size A n hs) (hm : n ≤ 70368744177664) :
    Calls Tryz.prog 77 #[.int .i64 id, .slice A n cp] w (FitPost (HfsOk id hs) w) := by
 have HR := Lib.hid hr.1
 have HL := Lib.hid hr.2
 clear hr
 go_enter Tryz.func77, Tryz.ntmps77
 go_wp2
 go_loopw [5] (fun i w' => ∃ (k : Nat), k ≤ n ∧ i = .int .i64 k ∧ Hid (∀ (t : Nat) y, t < k → hs[t]? = some y → HfOk id y) ∧ Hid (∀ t : Nat, t + 1 < k → adjH hs t) ∧ KeptC w [] [] w') (fun i _ => n - (intOf i).toNat)
 case atStart => exact ⟨0, Nat.zero_le _, rfl, Lib.hid before_zero, Lib.hid (fun t h => by omega), Qk⟩
 case round =>
  obtain ⟨k, hk, rfl, HA, HP, hK⟩ := hrel
  have kb0 := hK.1
  clear hK
  have hs0 := kb0.size
  by_cases hlt : k < n
  rotate_left
  · obtain rfl : k = n := by omega
    have HN : Hid (HfsOk id hs) := Lib.hid (hfsOk_of HR.out.1 HA.out HP.out)
    go_wp2_with (fail)
    refine (node10_any id _).mono ?_; rintro e w9 ⟨rfl, rfl⟩
    go_wp2
    go_ret
    exact ⟨_, rfl, fun _ => HN.out, kb0⟩
  · obtain ⟨ad, x, rfl, hab, hx, h4⟩ := HR.out.at hlt
    obtain ⟨P, hP⟩ : ∃ P, ad.add (k * 6) = P := ⟨_, rfl⟩
    rw [hP] at h4 hab
    obtain ⟨c0, c1, c2, c3, c4, c5⟩ := (hf6_of h4).below hab kb0
    have hPw : P.block < wr.heap.size := by omega
    have HX := Lib.hid hx
    have hlx := HL.out x (List.mem_of_getElem? hx)
    obtain ⟨B0, hB0⟩ : ∃ B, decide (HfFull id x) = B := ⟨_, rfl⟩
    have CF : Hid (∀ W, Below w.heap.size w W → Calls Tryz.prog 110 #[.int .i64 id, HfV x] W fun e w' => e = .returned (.bool B0) ∧ Below W.heap.size W w') := Lib.hid (fun W hb => by
     have h := hfx_any id x W ((hlx.1.below hb).more hb.size) hlx.2
     rwa [hB0] at h)
    have HF0 := Lib.hid hB0
    have HLX := Lib.hid hlx
    clear h4 hx hlx hB0
    cases k with
    | zero =>
     go_wp2_with (fail)
     refine wp_region_quietC_lit (KeptC w [(P, .int .i64 x.peer), (⟨P.block, P.off + 1, none⟩, .int .i64 x.boot), (⟨P.block, P.off + 2, none⟩, .int .i64 x.life), (⟨P.block, P.off + 3, none⟩, .slice x.la x.ln x.lc), (⟨P.block, P.off + 4, none⟩, .bool x.pend), (⟨P.block, P.off + 5, none⟩, .int .i64 x.miss)] []) (by kernel_rfl) (by kernel_rfl) ?_ ?_
     · refine KeptC.drewn ?_
       exact Qk1 kb0
     try simp only [List.append_eq, List.cons_append, List.nil_append]
     repeat (first
      | go_big_quiet_skip
      | (refine BigFrame.wpQuiet_skip (wanted_off rfl rfl rfl rfl) ?_; (simp only [Act.put, List.setIfInBounds_toArray, List.set_cons_zero, List.set_cons_succ]))
      | (apply pick_or0 rfl rfl rfl; (· intro hA; (try simp only [hA, Bool.not_false, Bool.not_true, Bool.and_self, Bool.and_true, Bool.true_and, qv_true]); rfl); intro D hD; (simp only [Act.put, List.setIfInBounds_toArray, List.set_cons_zero, List.set_cons_succ]))
      | (apply pick_orG rfl (by first | exact wanted_on rfl rfl rfl rfl | exact wanted_pos rfl rfl rfl | exact wanted_neg rfl rfl rfl | exact wanted_pos2 rfl rfl rfl | exact wanted_neg2 rfl rfl rfl); (· intro hG; (try simp only [Bool.and_eq_true, Bool.or_eq_false_iff, Bool.not_eq_true', Bool.not_eq_false', Bool.not_not] at hG); (try simp only [hG, Bool.or_false, Bool.false_or, Bool.not_false, Bool.not_true, Bool.and_self, Bool.and_true, Bool.true_and, Bool.or_true, Bool.true_or, qv_true]); rfl); (· intro hG; (try simp only [Bool.and_eq_true, Bool.or_eq_false_iff, Bool.not_eq_true', Bool.not_eq_false', Bool.not_not] at hG); (try simp only [hG, Bool.or_false, Bool.false_or, Bool.not_false, Bool.not_true, Bool.and_self, Bool.and_true, Bool.true_and, Bool.or_true, Bool.true_or, qv_true]); intro hA; (try simp only [hA, Bool.not_false, Bool.not_true, Bool.and_self, Bool.and_true, Bool.true_and, qv_true]); rfl); intro D hD; (simp only [Act.put, List.setIfInBounds_toArray, List.set_cons_zero, List.set_cons_succ]))
      | (apply pick_and0 rfl rfl rfl; (· intro hA; (try simp only [hA, Bool.not_false, Bool.not_true, Bool.and_self, Bool.and_true, Bool.true_and, qv_true]); rfl); intro D hD; (simp only [Act.put, List.setIfInBounds_toArray, List.set_cons_zero, List.set_cons_succ]))
      | (apply pick_andG rfl (by first | exact wanted_on rfl rfl rfl rfl | exact wanted_pos rfl rfl rfl | exact wanted_neg rfl rfl rfl | exact wanted_pos2 rfl rfl rfl | exact wanted_neg2 rfl rfl rfl); (· intro hG; (try simp only [Bool.and_eq_true, Bool.or_eq_false_iff, Bool.not_eq_true', Bool.not_eq_false', Bool.not_not] at hG); (try simp only [hG, Bool.or_false, Bool.false_or, Bool.not_false, Bool.not_true, Bool.and_self, Bool.and_true, Bool.true_and, Bool.or_true, Bool.true_or, qv_true]); rfl); (· intro hG; (try simp only [Bool.and_eq_true, Bool.or_eq_false_iff, Bool.not_eq_true', Bool.not_eq_false', Bool.not_not] at hG); (try simp only [hG, Bool.or_false, Bool.false_or, Bool.not_false, Bool.not_true, Bool.and_self, Bool.and_true, Bool.true_and, Bool.or_true, Bool.true_or, qv_true]); intro hA; (try simp only [hA, Bool.not_false, Bool.not_true, Bool.and_self, Bool.and_true, Bool.true_and, qv_true]); rfl); intro D hD; (simp only [Act.put, List.setIfInBounds_toArray, List.set_cons_zero, List.set_cons_succ]))
      | (go_big_quiet_want; (apply quietC_run); (· intro w' hw'; (have hk' := hw'; simp only [KeptC, List.forall_mem_cons] at hk'; go_split_ands); go_simp; first | done | rfl); (simp only [Act.put, List.setIfInBounds_toArray, List.set_cons_zero, List.set_cons_succ]; go_big_quiet_on))
      | (go_big_quiet_want; (apply quietC_call); (· intro w' hw'; go_simp; first | done | exact ⟨rfl, rfl⟩ | rfl); (· intro w' hw'; first | ((with_reducible refine (CF.out _ (KeptC.low hw')).mono ?_); rintro e w2 ⟨rfl, hb⟩; exact ⟨rfl, hw'.below hb⟩)); (simp only [Act.put, List.setIfInBounds_toArray, List.set_cons_zero, List.set_cons_succ]; go_big_quiet_on))
      | (apply both_run (by first | exact wanted_on rfl rfl rfl rfl | exact wanted_pos rfl rfl rfl | exact wanted_neg rfl rfl rfl | exact wanted_pos2 rfl rfl rfl | exact wanted_neg2 rfl rfl rfl); (· intro hG w' hw'; (have hk' := hw'; simp only [KeptC, List.forall_mem_cons] at hk'; go_split_ands); (try simp only [Bool.and_eq_true, Bool.or_eq_false_iff, Bool.not_eq_true', Bool.not_eq_false', Bool.not_not] at hG); (try simp only [hG, Bool.or_false, Bool.false_or, Bool.not_false, Bool.not_true, Bool.and_self, Bool.and_true, Bool.true_and, Bool.or_true, Bool.true_or, qv_true]); go_simp; first | done | rfl); (simp only [Act.put, List.setIfInBounds_toArray, List.set_cons_zero, List.set_cons_succ]))
      | (apply both_call (by first | exact wanted_on rfl rfl rfl rfl | exact wanted_pos rfl rfl rfl | exact wanted_neg rfl rfl rfl | exact wanted_pos2 rfl rfl rfl | exact wanted_neg2 rfl rfl rfl); (· intro hG w' hw'; (try simp only [Bool.and_eq_true, Bool.or_eq_false_iff, Bool.not_eq_true', Bool.not_eq_false', Bool.not_not] at hG); (try simp only [hG, Bool.or_false, Bool.false_or, Bool.not_false, Bool.not_true, Bool.and_self, Bool.and_true, Bool.true_and, Bool.or_true, Bool.true_or, qv_true]); go_simp; first | done | exact ⟨rfl, rfl⟩ | rfl); (· intro hG w' hw'; first | ((with_reducible refine (CF.out _ (KeptC.low hw')).mono ?_); rintro e w2 ⟨rfl, hb⟩; exact ⟨rfl, hw'.below hb⟩)); (simp only [Act.put, List.setIfInBounds_toArray, List.set_cons_zero, List.set_cons_succ])))
     refine wpQuiet_nil ?_
     intro w9 hk9
     (have hk' := hk9; simp only [KeptC, List.forall_mem_cons] at hk'; go_split_ands); have hkB9 := hk9.1
     have hR : (!B0) = D := by subst_vars; simp
     cases D with
     | true =>
      go_wp2
      go_ret
      exact FitPost.no (Qb1 hkB9)
     | false =>
      have HQ : Hid (HfOk id x) := Lib.hid ((of_decide_eq_true (HF0.out.trans (by simpa using hR))).ok HLX.out.1.1)
      clear hR
      go_wp2
      go_roundw
      case rel => exact ⟨0 + 1, by omega, by go_num, Lib.hid (before_next HA.out HX.out HQ.out), Lib.hid (fun t h => by omega), (Qk1 hkB9)⟩
      case measure => simp [intOf]; omega
    | succ k =>
     obtain ⟨ad2, y, hA2, hab2, hy, g4⟩ := HR.out.at (j := k) (by omega)
     obtain rfl : ad = ad2 := Option.some.inj hA2
     obtain ⟨Q, hQ⟩ : ∃ Q, ad.add (k * 6) = Q := ⟨_, rfl⟩
     rw [hQ] at g4 hab2
     have e0 := ((hf6_of g4).below hab2 kb0).1
     have hQw : Q.block < wr.heap.size := by omega
     have HY := Lib.hid hy
     have hwk : IntKind.i64.wrap (k : Int) = k := by rw [IntKind.wrap_i64]; omega
     have hkn : k < n := by omega
     obtain ⟨L, hL⟩ : ∃ L, decide (x.peer ≤ y.peer) = L := ⟨_, rfl⟩
     have HL2 := Lib.hid hL
     clear hy g4 hA2
     go_wp2_with (fail)
     refine wp_region_quietC_lit (KeptC w [(P, .int .i64 x.peer), (⟨P.block, P.off + 1, none⟩, .int .i64 x.boot), (⟨P.block, P.off + 2, none⟩, .int .i64 x.life), (⟨P.block, P.off + 3, none⟩, .slice x.la x.ln x.lc), (⟨P.block, P.off + 4, none⟩, .bool x.pend), (⟨P.block, P.off + 5, none⟩, .int .i64 x.miss), (Q, .int .i64 y.peer)] []) (by kernel_rfl) (by kernel_rfl) ?_ ?_
     · refine KeptC.drewn ?_
       exact Qk1 kb0
     try simp only [List.append_eq, List.cons_append, List.nil_append]
     repeat (first
      | go_big_quiet_skip
      | (refine BigFrame.wpQuiet_skip (wanted_off rfl rfl rfl rfl) ?_; (simp only [Act.put, List.setIfInBounds_toArray, List.set_cons_zero, List.set_cons_succ]))
      | (apply pick_or0 rfl rfl rfl; (· intro hA; (try simp only [hA, Bool.not_false, Bool.not_true, Bool.and_self, Bool.and_true, Bool.true_and, qv_true]); rfl); intro D hD; (simp only [Act.put, List.setIfInBounds_toArray, List.set_cons_zero, List.set_cons_succ]))
      | (apply pick_orG rfl (by first | exact wanted_on rfl rfl rfl rfl | exact wanted_pos rfl rfl rfl | exact wanted_neg rfl rfl rfl | exact wanted_pos2 rfl rfl rfl | exact wanted_neg2 rfl rfl rfl); (· intro hG; (try simp only [Bool.and_eq_true, Bool.or_eq_false_iff, Bool.not_eq_true', Bool.not_eq_false', Bool.not_not] at hG); (try simp only [hG, Bool.or_false, Bool.false_or, Bool.not_false, Bool.not_true, Bool.and_self, Bool.and_true, Bool.true_and, Bool.or_true, Bool.true_or, qv_true]); rfl); (· intro hG; (try simp only [Bool.and_eq_true, Bool.or_eq_false_iff, Bool.not_eq_true', Bool.not_eq_false', Bool.not_not] at hG); (try simp only [hG, Bool.or_false, Bool.false_or, Bool.not_false, Bool.not_true, Bool.and_self, Bool.and_true, Bool.true_and, Bool.or_true, Bool.true_or, qv_true]); intro hA; (try simp only [hA, Bool.not_false, Bool.not_true, Bool.and_self, Bool.and_true, Bool.true_and, qv_true]); rfl); intro D hD; (simp only [Act.put, List.setIfInBounds_toArray, List.set_cons_zero, List.set_cons_succ]))
      | (apply pick_and0 rfl rfl rfl; (· intro hA; (try simp only [hA, Bool.not_false, Bool.not_true, Bool.and_self, Bool.and_true, Bool.true_and, qv_true]); rfl); intro D hD; (simp only [Act.put, List.setIfInBounds_toArray, List.set_cons_zero, List.set_cons_succ]))
      | (apply pick_andG rfl (by first | exact wanted_on rfl rfl rfl rfl | exact wanted_pos rfl rfl rfl | exact wanted_neg rfl rfl rfl | exact wanted_pos2 rfl rfl rfl | exact wanted_neg2 rfl rfl rfl); (· intro hG; (try simp only [Bool.and_eq_true, Bool.or_eq_false_iff, Bool.not_eq_true', Bool.not_eq_false', Bool.not_not] at hG); (try simp only [hG, Bool.or_false, Bool.false_or, Bool.not_false, Bool.not_true, Bool.and_self, Bool.and_true, Bool.true_and, Bool.or_true, Bool.true_or, qv_true]); rfl); (· intro hG; (try simp only [Bool.and_eq_true, Bool.or_eq_false_iff, Bool.not_eq_true', Bool.not_eq_false', Bool.not_not] at hG); (try simp only [hG, Bool.or_false, Bool.false_or, Bool.not_false, Bool.not_true, Bool.and_self, Bool.and_true, Bool.true_and, Bool.or_true, Bool.true_or, qv_true]); intro hA; (try simp only [hA, Bool.not_false, Bool.not_true, Bool.and_self, Bool.and_true, Bool.true_and, qv_true]); rfl); intro D hD; (simp only [Act.put, List.setIfInBounds_toArray, List.set_cons_zero, List.set_cons_succ]))
      | (go_big_quiet_want; (apply quietC_run); (· intro w' hw'; (have hk' := hw'; simp only [KeptC, List.forall_mem_cons] at hk'; go_split_ands); go_simp; first | done | rfl); (simp only [Act.put, List.setIfInBounds_toArray, List.set_cons_zero, List.set_cons_succ]; go_big_quiet_on))
      | (go_big_quiet_want; (apply quietC_call); (· intro w' hw'; go_simp; first | done | exact ⟨rfl, rfl⟩ | rfl); (· intro w' hw'; first | ((with_reducible refine (CF.out _ (KeptC.low hw')).mono ?_); rintro e w2 ⟨rfl, hb⟩; exact ⟨rfl, hw'.below hb⟩)); (simp only [Act.put, List.setIfInBounds_toArray, List.set_cons_zero, List.set_cons_succ]; go_big_quiet_on))
      | (apply both_run (by first | exact wanted_on rfl rfl rfl rfl | exact wanted_pos rfl rfl rfl | exact wanted_neg rfl rfl rfl | exact wanted_pos2 rfl rfl rfl | exact wanted_neg2 rfl rfl rfl); (· intro hG w' hw'; (have hk' := hw'; simp only [KeptC, List.forall_mem_cons] at hk'; go_split_ands); (try simp only [Bool.and_eq_true, Bool.or_eq_false_iff, Bool.not_eq_true', Bool.not_eq_false', Bool.not_not] at hG); (try simp only [hG, Bool.or_false, Bool.false_or, Bool.not_false, Bool.not_true, Bool.and_self, Bool.and_true, Bool.true_and, Bool.or_true, Bool.true_or, qv_true]); go_simp; first | done | rfl); (simp only [Act.put, List.setIfInBounds_toArray, List.set_cons_zero, List.set_cons_succ]))
      | (apply both_call (by first | exact wanted_on rfl rfl rfl rfl | exact wanted_pos rfl rfl rfl | exact wanted_neg rfl rfl rfl | exact wanted_pos2 rfl rfl rfl | exact wanted_neg2 rfl rfl rfl); (· intro hG w' hw'; (try simp only [Bool.and_eq_true, Bool.or_eq_false_iff, Bool.not_eq_true', Bool.not_eq_false', Bool.not_not] at hG); (try simp only [hG, Bool.or_false, Bool.false_or, Bool.not_false, Bool.not_true, Bool.and_self, Bool.and_true, Bool.true_and, Bool.or_true, Bool.true_or, qv_true]); go_simp; first | done | exact ⟨rfl, rfl⟩ | rfl); (· intro hG w' hw'; first | ((with_reducible refine (CF.out _ (KeptC.low hw')).mono ?_); rintro e w2 ⟨rfl, hb⟩; exact ⟨rfl, hw'.below hb⟩)); (simp only [Act.put, List.setIfInBounds_toArray, List.set_cons_zero, List.set_cons_succ])))
     refine wpQuiet_nil ?_
     intro w9 hk9
     (have hk' := hk9; simp only [KeptC, List.forall_mem_cons] at hk'; go_split_ands); have hkB9 := hk9.1
     have hR : (!B0 || L) = D := by subst_vars; simp
     cases D with
     | true =>
      go_wp2
      go_ret
      exact FitPost.no (Qb1 hkB9)
     | false =>
      have hR2 : B0 = true ∧ L = false := by simpa using hR
      have HQ : Hid (HfOk id x) := Lib.hid ((of_decide_eq_true (HF0.out.trans hR2.1)).ok HLX.out.1.1)
      have HQ2 : Hid (∀ t : Nat, t + 1 < k + 1 + 1 → adjH hs t) := Lib.hid (fun t h => by
       rcases Nat.lt_or_eq_of_le (Nat.lt_succ_iff.1 h) with h1 | h1
       · exact HP.out t h1
       · obtain rfl : t = k := by omega
         intro a b ha hb
         rw [HY.out] at ha; rw [HX.out] at hb
         obtain rfl := Option.some.inj ha
         obtain rfl := Option.some.inj hb
         have := of_decide_eq_false (HL2.out.trans hR2.2)
         omega)
      clear hR hR2
      go_wp2
      go_roundw
      case rel => exact ⟨k + 1 + 1, by omega, by go_num, Lib.hid (before_next HA.out HX.out HQ.out), HQ2, (Qk1 hkB9)⟩
      case measure => simp [intOf]; omega
end Go.Proofs.YtkfodkbgmpbmfaaGreat
namespace Go.Proofs.YtkfodkbgmpbmfaaGreat
open Go.RowKit Go.Shelf
set_option linter.unusedVariables false
set_option linter.unusedSimpArgs false
set_option maxRecDepth 100000
def withB (x lo hi : Int) : Bool := decide (lo ≤ x) && decide (x ≤ hi)
theorem within_any (x lo hi : Int) (w : World) : Calls Tryz.prog 153 #[.int .i64 x, .int .i64 lo, .int .i64 hi] w fun e w' => e = .returned (.bool (withB x lo hi)) ∧ w = w' := by
 unfold withB
 by_cases h : lo ≤ x
 · go_enter Tryz.func153, Tryz.ntmps153
   go_wp2
   go_ret
   exact ⟨by simp [h], rfl⟩
 · go_enter Tryz.func153, Tryz.ntmps153
   go_wp2
   go_ret
   exact ⟨by rw [decide_eq_false (Int.not_le.2 h)]; rfl, rfl⟩
theorem wnode_any (x : Int) (w : World) : Calls Tryz.prog 152 #[.int .i64 x] w fun e w' => e = .returned (.bool (decide (0 ≤ x) && decide (x < 16))) ∧ w = w' := by
 by_cases h : 0 ≤ x
 · go_enter Tryz.func152, Tryz.ntmps152
   go_wp2
   go_ret
   exact ⟨by simp [h], rfl⟩
 · go_enter Tryz.func152, Tryz.ntmps152
   go_wp2
   go_ret
   exact ⟨by rw [decide_eq_false (Int.not_le.2 h)]; rfl, rfl⟩
theorem wflow_any (x : Int) (w : World) : Calls Tryz.prog 181 #[.int .i64 x] w fun e w' => e = .returned (.bool (withB x (-2147483647) 2147483647)) ∧ w = w' := by
 have C := Lib.hid (fun W => within_any x (-2147483647) 2147483647 W)
 generalize withB x (-2147483647) 2147483647 = b at C ⊢
 go_enter Tryz.func181, Tryz.ntmps181
 go_wp2_with (fail)
 refine (C.out _).mono ?_; rintro e w1 ⟨rfl, rfl⟩
 go_wp2
 go_ret
 exact ⟨rfl, rfl⟩
end Go.Proofs.YtkfodkbgmpbmfaaGreat
namespace Go.Proofs.YtkfodkbgmpbmfaaGreat
open Go.RowKit Go.Shelf
set_option linter.unusedVariables false
set_option linter.unusedSimpArgs false
set_option maxRecDepth 100000
def encY8 (x : Int) : List Value := [.int .u8 x]
structure Away (b : Nat) (w w' : World) : Prop where
 low : Below b w w'
 blk : ∀ k, k < w.heap.size → k ≠ b → w'.heap[k]? = w.heap[k]?
theorem Away.refl (b : Nat) (w : World) : Away b w w := ⟨Below.refl _ _, fun _ _ _ => rfl⟩
theorem Away.trans {b : Nat} {w1 w2 w3 : World} (h : Away b w1 w2) (k : Away b w2 w3) : Away b w1 w3 :=
 ⟨h.low.trans k.low, fun i hi hn => (k.blk i (Nat.lt_of_lt_of_le hi h.low.size) hn).trans (h.blk i hi hn)⟩
theorem Away.of {b : Nat} {w w' : World} (h : Below w.heap.size w w') (hb : b < w.heap.size) : Away b w w' :=
 ⟨h.mono (Nat.le_of_lt hb), fun i hi _ => h.block i hi⟩
theorem Away.set {b : Nat} (w : World) (o : Nat) (v : Value) : Away b w (w.setCell ⟨b, o, none⟩ v) :=
 ⟨(Below.refl b w).setCell (p := ⟨b, o, none⟩) (show b ≤ b from Nat.le_refl b) _, fun i _ hn => Below.heap_setCell w ⟨b, o, none⟩ v i hn⟩
theorem Away.cell {b : Nat} {w w' : World} (h : Away b w w') {p : Addr} (hp : p.block < w.heap.size) (hn : p.block ≠ b) : w'.cell? p = w.cell? p := World.cell?_of_block (w := w) (h.blk p.block hp hn)
theorem Away.frozen {b : Nat} {w w' : World} (h : Away b w w') {p : Addr} (hp : p.block < w.heap.size) (hn : p.block ≠ b) : w'.frozen? p = w.frozen? p := World.frozen?_of_block (w := w) (h.blk p.block hp hn)
structure RdAt (W : World) (b : Nat) (A : Option Addr) (n cp : Nat) (bs : List Int) (p : Nat) (code : Int) : Prop where
 c0 : W.cell? ⟨b, 0, none⟩ = some (.slice A n cp)
 c1 : W.cell? ⟨b, 1, none⟩ = some (.int .i64 p)
 c2 : W.cell? ⟨b, 2, none⟩ = some (.int .i64 code)
 f1 : W.frozen? ⟨b, 1, none⟩ = false
 f2 : W.frozen? ⟨b, 2, none⟩ = false
 row : RowsE encY8 1 W b A n bs
 le : p ≤ n
 mx : n ≤ 140737488351232
 cn : n ≤ cp
 rng : ∀ x ∈ bs, 0 ≤ x ∧ x < 256
theorem RdAt.below {W W' : World} {b : Nat} {A : Option Addr} {n cp : Nat} {bs : List Int} {p : Nat} {code : Int} (h : RdAt W b A n cp bs p code) (hb : Below W.heap.size W W') : RdAt W' b A n cp bs p code := by
 obtain ⟨c0, c1, c2, f1, f2, hr, hle, hmx, hcn, hrng⟩ := h
 exact ⟨(hb.cell (cell_lt c0)).trans c0, (hb.cell (cell_lt c1)).trans c1, (hb.cell (cell_lt c2)).trans c2, (hb.frozen (cell_lt c1)).trans f1, (hb.frozen (cell_lt c2)).trans f2, hr.below (hb.mono (Nat.le_of_lt (cell_lt c0))), hle, hmx, hcn, hrng⟩
theorem RdAt.code {W : World} {b : Nat} {A : Option Addr} {n cp : Nat} {bs : List Int} {p : Nat} {code : Int} (h : RdAt W b A n cp bs p code) (c : Int) : RdAt (W.setCell ⟨b, 2, none⟩ (.int .i64 c)) b A n cp bs p c ∧ Away b W (W.setCell ⟨b, 2, none⟩ (.int .i64 c)) := by
 obtain ⟨c0, c1, c2, f1, f2, hr, hle, hmx, hcn, hrng⟩ := h
 have hb : Below b W (W.setCell ⟨b, 2, none⟩ (.int .i64 c)) := (Below.refl b W).setCell (p := ⟨b, 2, none⟩) (show b ≤ b from Nat.le_refl b) _
 exact ⟨⟨by go_simp, by go_simp, World.cell?_setCell_same _ _ _ c2, by rw [World.frozen?_setCell]; exact f1, by rw [World.frozen?_setCell]; exact f2, hr.below hb, hle, hmx, hcn, hrng⟩, Away.set W _ _⟩
theorem RdAt.step {W : World} {b : Nat} {A : Option Addr} {n cp : Nat} {bs : List Int} {p : Nat} {code : Int} (h : RdAt W b A n cp bs p code) (q : Nat) (hq : q ≤ n) : RdAt (W.setCell ⟨b, 1, none⟩ (.int .i64 q)) b A n cp bs q code ∧ Away b W (W.setCell ⟨b, 1, none⟩ (.int .i64 q)) := by
 obtain ⟨c0, c1, c2, f1, f2, hr, hle, hmx, hcn, hrng⟩ := h
 have hb : Below b W (W.setCell ⟨b, 1, none⟩ (.int .i64 q)) := (Below.refl b W).setCell (p := ⟨b, 1, none⟩) (show b ≤ b from Nat.le_refl b) _
 exact ⟨⟨by go_simp, World.cell?_setCell_same _ _ _ c1, by go_simp, by rw [World.frozen?_setCell]; exact f1, by rw [World.frozen?_setCell]; exact f2, hr.below hb, hq, hmx, hcn, hrng⟩, Away.set W _ _⟩
def RdPost (V : Value → Prop) (W : World) (b : Nat) (A : Option Addr) (n cp : Nat) (bs : List Int) (p : Nat) (e : Ending) (W' : World) : Prop :=
 ∃ v q code, e = .returned v ∧ V v ∧ RdAt W' b A n cp bs q code ∧ p ≤ q ∧ (code = 0 → p < q) ∧ Away b W W'
def IsB (v : Value) : Prop := ∃ t, v = .bool t
theorem truth_off (b : Nat) (A : Option Addr) (n cp : Nat) (bs : List Int) (p : Nat) (code : Int) (W : World) (h : RdAt W b A n cp bs p code) (hc : code ≠ 0) :
    Calls Tryz.prog 149 #[.pointer (some ⟨b, 0, none⟩)] W fun e W' => e = .returned (.bool false) ∧ W = W' := by
 obtain ⟨c0, c1, c2, f1, f2, hr, hle, hmx, hcn, hrng⟩ := h
 have q : (code != 0) = true := by simpa using hc
 clear hr hrng hc
 go_enter Tryz.func149, Tryz.ntmps149
 go_wp2
 go_ret
 exact ⟨rfl, rfl⟩
set_option maxHeartbeats 4000000 in
theorem truth_any (b : Nat) (A : Option Addr) (n cp : Nat) (bs : List Int) (p : Nat) (W : World) (h : RdAt W b A n cp bs p 0) :
    Calls Tryz.prog 149 #[.pointer (some ⟨b, 0, none⟩)] W (RdPost IsB W b A n cp bs p) := by
 have HH := Lib.hid h
 obtain ⟨c0, c1, c2, f1, f2, hr, hle, hmx, hcn, hrng⟩ := h
 have HR := Lib.hid hr; have HG := Lib.hid hrng
 clear hr hrng
 by_cases hlt : p < n
 · obtain ⟨ad, x, rfl, hab, hx, h4⟩ := HR.out.at hlt
   rw [Nat.mul_one] at h4 hab
   have e0 : W.cell? (ad.add p) = some (.int .u8 x) := by have := h4 0 _ rfl; rwa [Bg.add_z] at this
   clear h4 hx
   obtain ⟨Q, hQ⟩ : ∃ Q, ad.add p = Q := ⟨_, rfl⟩
   rw [hQ] at e0 hab
   have hbw := cell_lt c0
   simp only [] at hbw
   have hw1 : IntKind.i64.wrap ((p : Int) + 1) = (p : Int) + 1 := by rw [IntKind.wrap_i64]; omega
   have HLT := Lib.hid hlt
   go_enter Tryz.func149, Tryz.ntmps149
   go_wp2_with (fail)
   refine wp_region_quietC_lit (KeptC W [(⟨b, 0, none⟩, .slice (some ad) n cp), (⟨b, 1, none⟩, .int .i64 p), (⟨b, 2, none⟩, .int .i64 0), (Q, .int .u8 x)] []) (by kernel_rfl) (by kernel_rfl) ?_ ?_
   · refine KeptC.drewn ?_
     exact Qk
   repeat (first
    | go_big_quiet_skip
    | (go_big_quiet_want; (apply quietC_run); (· intro w' hw'; (have hk' := hw'; simp only [KeptC, List.forall_mem_cons] at hk'; go_split_ands); go_simp; first | done | rfl); (simp only [Act.put, List.setIfInBounds_toArray, List.set_cons_zero, List.set_cons_succ]; go_big_quiet_on))
    | (go_big_quiet_want; (apply quietC_call); (· intro w' hw'; go_simp; first | done | exact ⟨rfl, rfl⟩ | rfl); (· intro w' hw'; first | ((with_reducible refine (fail).mono ?_); rintro e w2 ⟨rfl, hb⟩; exact ⟨rfl, hw'.below hb⟩)); (simp only [Act.put, List.setIfInBounds_toArray, List.set_cons_zero, List.set_cons_succ]; go_big_quiet_on)))
   refine wpQuiet_nil ?_
   intro w8 hk8
   (have hk' := hk8; simp only [KeptC, List.forall_mem_cons] at hk'; go_split_ands); have hkB8 := hk8.1
   have hd8 : Below W.heap.size W w8 := hkB8
   have HH8 := Lib.hid (HH.out.below hd8)
   have HB8 : Hid (Away b W w8) := Lib.hid (Away.of hd8 hbw)
   clear c0 c1 c2 f1 f2 e0
   go_wp2_with (fail)
   refine wp_region_quietC_lit (KeptC w8 [(⟨b, 0, none⟩, .slice (some ad) n cp), (⟨b, 1, none⟩, .int .i64 p), (⟨b, 2, none⟩, .int .i64 0), (Q, .int .u8 x)] []) (by kernel_rfl) (by kernel_rfl) ?_ ?_
   · refine KeptC.drewn ?_
     exact Qk
   repeat (first
    | go_big_quiet_skip
    | (go_big_quiet_want; (apply quietC_run); (· intro w' hw'; (have hk' := hw'; simp only [KeptC, List.forall_mem_cons] at hk'; go_split_ands); go_simp; first | done | rfl); (simp only [Act.put, List.setIfInBounds_toArray, List.set_cons_zero, List.set_cons_succ]; go_big_quiet_on))
    | (go_big_quiet_want; (apply quietC_call); (· intro w' hw'; go_simp; first | done | exact ⟨rfl, rfl⟩ | rfl); (· intro w' hw'; first | ((with_reducible refine (fail).mono ?_); rintro e w2 ⟨rfl, hb⟩; exact ⟨rfl, hw'.below hb⟩)); (simp only [Act.put, List.setIfInBounds_toArray, List.set_cons_zero, List.set_cons_succ]; go_big_quiet_on)))
   refine wpQuiet_nil ?_
   intro w9 hk9
   (have hk' := hk9; simp only [KeptC, List.forall_mem_cons] at hk'; go_split_ands); have hkB9 := hk9.1
   have hd9 : Below w8.heap.size w8 w9 := hkB9
   have HH9 := Lib.hid (HH8.out.below hd9)
   have HB9 : Hid (Away b W w9) := Lib.hid (HB8.out.trans (Away.of hd9 (Nat.lt_of_lt_of_le hbw hd8.size)))
   have g1 := HH9.out.f1
   have g2 := HH9.out.f2
   by_cases h1 : (1 : Int) < x
   · have HE := Lib.hid (HH9.out.code 20)
     go_wp2
     go_ret
     exact ⟨_, p, 20, rfl, ⟨_, rfl⟩, HE.out.1, Nat.le_refl _, fun h => absurd h (by decide), HB9.out.trans HE.out.2⟩
   · have HE := Lib.hid (HH9.out.step (p + 1) HLT.out)
     go_wp2
     go_ret
     exact ⟨_, p + 1, 0, rfl, ⟨_, rfl⟩, HE.out.1, Nat.le_succ _, fun _ => Nat.lt_succ_self _, HB9.out.trans HE.out.2⟩
 · obtain rfl : p = n := by omega
   go_enter Tryz.func149, Tryz.ntmps149
   go_wp2_with (fail)
   refine wp_region_quietC_lit (KeptC W [(⟨b, 0, none⟩, .slice A p cp), (⟨b, 1, none⟩, .int .i64 p), (⟨b, 2, none⟩, .int .i64 0)] []) (by kernel_rfl) (by kernel_rfl) ?_ ?_
   · refine KeptC.drewn ?_
     exact Qk
   repeat (first
    | go_big_quiet_skip
    | (go_big_quiet_want; (apply quietC_run); (· intro w' hw'; (have hk' := hw'; simp only [KeptC, List.forall_mem_cons] at hk'; go_split_ands); go_simp; first | done | rfl); (simp only [Act.put, List.setIfInBounds_toArray, List.set_cons_zero, List.set_cons_succ]; go_big_quiet_on))
    | (go_big_quiet_want; (apply quietC_call); (· intro w' hw'; go_simp; first | done | exact ⟨rfl, rfl⟩ | rfl); (· intro w' hw'; first | ((with_reducible refine (fail).mono ?_); rintro e w2 ⟨rfl, hb⟩; exact ⟨rfl, hw'.below hb⟩)); (simp only [Act.put, List.setIfInBounds_toArray, List.set_cons_zero, List.set_cons_succ]; go_big_quiet_on)))
   refine wpQuiet_nil ?_
   intro w9 hk9
   (have hk' := hk9; simp only [KeptC, List.forall_mem_cons] at hk'; go_split_ands); have hkB9 := hk9.1
   have hd9 : Below W.heap.size W w9 := hkB9
   have HE := Lib.hid ((HH.out.below hd9).code 21)
   have g2 : w9.frozen? ⟨b, 2, none⟩ = false := (hd9.frozen (cell_lt c2)).trans f2
   have HB9 : Hid (Away b W w9) := Lib.hid (Away.of hd9 (cell_lt c0))
   clear c0 c1 c2 f1 f2
   go_wp2
   go_ret
   exact ⟨_, p, 21, rfl, ⟨_, rfl⟩, HE.out.1, Nat.le_refl _, fun h => absurd h (by decide), HB9.out.trans HE.out.2⟩
end Go.Proofs.YtkfodkbgmpbmfaaGreat
namespace Go.Proofs.YtkfodkbgmpbmfaaGreat
open Go.RowKit Go.Shelf
set_option linter.unusedVariables false
set_option linter.unusedSimpArgs false
set_option maxRecDepth 100000
def IsU (v : Value) : Prop := ∃ x : Int, 0 ≤ x ∧ v = .int .u64 x
def IsI (v : Value) : Prop := ∃ x : Int, v = .int .i64 x
def IsS (v : Value) : Prop := ∃ s : ByteArray, v = .string s
theorem wrap_u64_nonneg (x : Int) : 0 ≤ IntKind.u64.wrap x := by
 show 0 ≤ x % (2 ^ 64 : Int)
 exact Int.emod_nonneg _ (by decide)
theorem rnum_off (b : Nat) (A : Option Addr) (n cp : Nat) (bs : List Int) (p : Nat) (code : Int) (W : World) (h : RdAt W b A n cp bs p code) (hc : code ≠ 0) :
    Calls Tryz.prog 147 #[.pointer (some ⟨b, 0, none⟩)] W fun e W' => e = .returned (.int .u64 0) ∧ W = W' := by
 obtain ⟨c0, c1, c2, f1, f2, hr, hle, hmx, hcn, hrng⟩ := h
 have q : (code == 0) = false := by simpa using hc
 clear hr hrng hc
 go_enter Tryz.func147, Tryz.ntmps147
 go_wp2
 refine wp_loop_rounds 1 ?_
 rw [rounds_succ]
 go_wp2
 go_ret
 exact ⟨rfl, rfl⟩
set_option maxHeartbeats 8000000 in
theorem rnum_on (b : Nat) (A : Option Addr) (n cp : Nat) (bs : List Int) (p : Nat) (W : World) (h : RdAt W b A n cp bs p 0) :
    Calls Tryz.prog 147 #[.pointer (some ⟨b, 0, none⟩)] W (RdPost IsU W b A n cp bs p) := by
 have HH := Lib.hid h
 have hle := h.le
 have hbw := cell_lt h.c0
 simp only [] at hbw
 have HBW := Lib.hid hbw
 clear h hbw
 go_enter Tryz.func147, Tryz.ntmps147
 go_wp2
 go_loopw [3, 4] (fun xv i w' => ∃ (k : Nat) (x : Int), k ≤ 9 ∧ i = .int .i64 k ∧ xv = .int .u64 x ∧ 0 ≤ x ∧ Hid (p + k ≤ n) ∧ Hid (RdAt w' b A n cp bs (p + k) 0) ∧ Hid (Away b W w')) (fun _ i _ => 10 - (intOf i).toNat)
 case atStart => exact ⟨0, 0, by omega, rfl, rfl, by omega, Lib.hid (by omega), HH, Lib.hid (Away.refl _ _)⟩
 case round =>
  obtain ⟨k, x, hk, rfl, rfl, hx0, HPK, HH1, HB1⟩ := hrel
  obtain ⟨q, hq⟩ : ∃ q, p + k = q := ⟨_, rfl⟩
  rw [hq] at HH1
  have HQ := Lib.hid hq
  clear hq hle
  have hbr := cell_lt HH1.out.c0
  simp only [] at hbr
  by_cases hlt : q < n
  rotate_left
  · obtain rfl : q = n := by have := HH1.out.le; omega
    obtain ⟨c0, c1, c2, f1, f2, -, hle, hmx, -, -⟩ := HH1.out
    go_wp2_with (fail)
    refine wp_region_quietC_lit (KeptC wr [(⟨b, 0, none⟩, .slice A q cp), (⟨b, 1, none⟩, .int .i64 q), (⟨b, 2, none⟩, .int .i64 0)] []) (by kernel_rfl) (by kernel_rfl) ?_ ?_
    · refine KeptC.drewn ?_
      exact Qk
    repeat (first
     | go_big_quiet_skip
     | (go_big_quiet_want; (apply quietC_run); (· intro w' hw'; (have hk' := hw'; simp only [KeptC, List.forall_mem_cons] at hk'; go_split_ands); go_simp; first | done | rfl); (simp only [Act.put, List.setIfInBounds_toArray, List.set_cons_zero, List.set_cons_succ]; go_big_quiet_on))
     | (go_big_quiet_want; (apply quietC_call); (· intro w' hw'; go_simp; first | done | exact ⟨rfl, rfl⟩ | rfl); (· intro w' hw'; first | ((with_reducible refine (fail).mono ?_); rintro e w2 ⟨rfl, hb⟩; exact ⟨rfl, hw'.below hb⟩)); (simp only [Act.put, List.setIfInBounds_toArray, List.set_cons_zero, List.set_cons_succ]; go_big_quiet_on)))
    refine wpQuiet_nil ?_
    intro w9 hk9
    (have hk' := hk9; simp only [KeptC, List.forall_mem_cons] at hk'; go_split_ands); have hkB9 := hk9.1
    have hd9 : Below wr.heap.size wr w9 := hkB9
    have HE := Lib.hid ((HH1.out.below hd9).code 21)
    have g2 : w9.frozen? ⟨b, 2, none⟩ = false := (hd9.frozen (cell_lt c2)).trans f2
    have HB9 : Hid (Away b wr w9) := Lib.hid (Away.of hd9 hbr)
    clear c0 c1 c2 f1 f2
    go_wp2
    go_ret
    exact ⟨_, q, 21, rfl, ⟨_, by omega, rfl⟩, HE.out.1, by have := HQ.out; omega, fun h => absurd h (by decide), (HB1.out.trans HB9.out).trans HE.out.2⟩
  · obtain ⟨c0, c1, c2, f1, f2, hr, hle, hmx, hcn, hrng⟩ := HH1.out
    obtain ⟨ad, c, rfl, hab, hx, h4⟩ := hr.at hlt
    rw [Nat.mul_one] at h4 hab
    have e0 : wr.cell? (ad.add q) = some (.int .u8 c) := by have := h4 0 _ rfl; rwa [Bg.add_z] at this
    have hcr := hrng c (List.mem_of_getElem? hx)
    clear h4 hx hr hrng
    obtain ⟨Q, hQ⟩ : ∃ Q, ad.add q = Q := ⟨_, rfl⟩
    rw [hQ] at e0 hab
    have hw1 : IntKind.i64.wrap ((q : Int) + 1) = (q : Int) + 1 := by rw [IntKind.wrap_i64]; omega
    have HLT := Lib.hid hlt
    go_wp2_with (fail)
    refine wp_region_quietC_lit (KeptC wr [(⟨b, 0, none⟩, .slice (some ad) n cp), (⟨b, 1, none⟩, .int .i64 q), (⟨b, 2, none⟩, .int .i64 0), (Q, .int .u8 c)] []) (by kernel_rfl) (by kernel_rfl) ?_ ?_
    · refine KeptC.drewn ?_
      exact Qk
    repeat (first
     | go_big_quiet_skip
     | (go_big_quiet_want; (apply quietC_run); (· intro w' hw'; (have hk' := hw'; simp only [KeptC, List.forall_mem_cons] at hk'; go_split_ands); go_simp; first | done | rfl); (simp only [Act.put, List.setIfInBounds_toArray, List.set_cons_zero, List.set_cons_succ]; go_big_quiet_on))
     | (go_big_quiet_want; (apply quietC_call); (· intro w' hw'; go_simp; first | done | exact ⟨rfl, rfl⟩ | rfl); (· intro w' hw'; first | ((with_reducible refine (fail).mono ?_); rintro e w2 ⟨rfl, hb⟩; exact ⟨rfl, hw'.below hb⟩)); (simp only [Act.put, List.setIfInBounds_toArray, List.set_cons_zero, List.set_cons_succ]; go_big_quiet_on)))
    refine wpQuiet_nil ?_
    intro w8 hk8
    (have hk' := hk8; simp only [KeptC, List.forall_mem_cons] at hk'; go_split_ands); have hkB8 := hk8.1
    have hd8 : Below wr.heap.size wr w8 := hkB8
    have HH8 := Lib.hid (HH1.out.below hd8)
    have HB8 : Hid (Away b wr w8) := Lib.hid (Away.of hd8 hbr)
    clear c0 c1 c2 f1 f2 e0
    go_wp2_with (fail)
    refine wp_region_quietC_lit (KeptC w8 [(⟨b, 0, none⟩, .slice (some ad) n cp), (⟨b, 1, none⟩, .int .i64 q), (⟨b, 2, none⟩, .int .i64 0), (Q, .int .u8 c)] []) (by kernel_rfl) (by kernel_rfl) ?_ ?_
    · refine KeptC.drewn ?_
      exact Qk
    repeat (first
     | go_big_quiet_skip
     | (go_big_quiet_want; (apply quietC_run); (· intro w' hw'; (have hk' := hw'; simp only [KeptC, List.forall_mem_cons] at hk'; go_split_ands); go_simp; first | done | rfl); (simp only [Act.put, List.setIfInBounds_toArray, List.set_cons_zero, List.set_cons_succ]; go_big_quiet_on))
     | (go_big_quiet_want; (apply quietC_call); (· intro w' hw'; go_simp; first | done | exact ⟨rfl, rfl⟩ | rfl); (· intro w' hw'; first | ((with_reducible refine (fail).mono ?_); rintro e w2 ⟨rfl, hb⟩; exact ⟨rfl, hw'.below hb⟩)); (simp only [Act.put, List.setIfInBounds_toArray, List.set_cons_zero, List.set_cons_succ]; go_big_quiet_on)))
    refine wpQuiet_nil ?_
    intro w9 hk9
    (have hk' := hk9; simp only [KeptC, List.forall_mem_cons] at hk'; go_split_ands); have hkB9 := hk9.1
    have hd9 : Below w8.heap.size w8 w9 := hkB9
    have HH9 := Lib.hid (HH8.out.below hd9)
    have HB9 : Hid (Away b W w9) := Lib.hid ((HB1.out.trans HB8.out).trans (Away.of hd9 (Nat.lt_of_lt_of_le hbr hd8.size)))
    have g1 := HH9.out.f1
    have g2 := HH9.out.f2
    have HK := Lib.hid hk
    by_cases h9 : k = 9
    · subst h9
      by_cases h1 : 1 < c
      · have HE := Lib.hid (HH9.out.code 20)
        go_wp2
        go_ret
        exact ⟨_, q, 20, rfl, ⟨_, by omega, rfl⟩, HE.out.1, by have := HQ.out; omega, fun h => absurd h (by decide), HB9.out.trans HE.out.2⟩
      · have q0 : c = 0 ∨ c = 1 := by omega
        rcases q0 with rfl | rfl
        · have HE := Lib.hid (HH9.out.code 20)
          go_wp2
          go_ret
          exact ⟨_, q, 20, rfl, ⟨_, by omega, rfl⟩, HE.out.1, by have := HQ.out; omega, fun h => absurd h (by decide), HB9.out.trans HE.out.2⟩
        · have HE := Lib.hid (HH9.out.step (q + 1) HLT.out)
          go_wp2
          go_ret
          exact ⟨_, q + 1, 0, rfl, ⟨_, wrap_u64_nonneg _, rfl⟩, HE.out.1, by have := HQ.out; omega, fun _ => by have := HQ.out; omega, HB9.out.trans HE.out.2⟩
    · have q9 : ((k : Int) == 9) = false := by simpa using (by omega : (k : Int) ≠ 9)
      have hkk : k < 9 := by omega
      have hw2 : IntKind.i64.wrap (7 * (k : Int)) = 7 * (k : Int) := by rw [IntKind.wrap_i64]; omega
      clear h9 hk
      by_cases h0 : c = 0
      · subst h0
        cases k with
        | zero =>
         have HE := Lib.hid (HH9.out.step (q + 1) HLT.out)
         go_wp2
         go_ret
         exact ⟨_, q + 1, 0, rfl, ⟨_, wrap_u64_nonneg _, rfl⟩, HE.out.1, by have := HQ.out; omega, fun _ => by have := HQ.out; omega, HB9.out.trans HE.out.2⟩
        | succ k =>
         have HE := Lib.hid (HH9.out.code 20)
         go_wp2
         go_ret
         exact ⟨_, q, 20, rfl, ⟨_, by omega, rfl⟩, HE.out.1, by have := HQ.out; omega, fun h => absurd h (by decide), HB9.out.trans HE.out.2⟩
      · have q0 : (c == 0) = false := by simpa using h0
        clear h0
        by_cases hc3 : c < 128
        · have HE := Lib.hid (HH9.out.step (q + 1) HLT.out)
          go_wp2
          go_ret
          exact ⟨_, q + 1, 0, rfl, ⟨_, wrap_u64_nonneg _, rfl⟩, HE.out.1, by have := HQ.out; omega, fun _ => by have := HQ.out; omega, HB9.out.trans HE.out.2⟩
        · have HE := Lib.hid (HH9.out.step (q + 1) HLT.out)
          go_wp2
          go_roundw
          case rel => exact ⟨k + 1, _, by omega, by go_num, rfl, wrap_u64_nonneg _, Lib.hid (by have := HQ.out; have := HLT.out; omega), Lib.hid (by have h1 := HE.out.1; rw [show p + (k + 1) = q + 1 by have := HQ.out; omega]; exact h1), Lib.hid (HB9.out.trans HE.out.2)⟩
          case measure => simp [intOf]; omega
theorem rnum_any (b : Nat) (A : Option Addr) (n cp : Nat) (bs : List Int) (p : Nat) (code : Int) (W : World) (h : RdAt W b A n cp bs p code) :
    Calls Tryz.prog 147 #[.pointer (some ⟨b, 0, none⟩)] W (RdPost IsU W b A n cp bs p) := by
 by_cases hc : code = 0
 · subst hc; exact rnum_on b A n cp bs p W h
 · refine (rnum_off b A n cp bs p code W h hc).mono ?_
   rintro e w ⟨rfl, rfl⟩
   exact ⟨_, p, code, rfl, ⟨0, by omega, rfl⟩, h, Nat.le_refl _, fun h => absurd h hc, Away.refl _ _⟩
end Go.Proofs.YtkfodkbgmpbmfaaGreat
