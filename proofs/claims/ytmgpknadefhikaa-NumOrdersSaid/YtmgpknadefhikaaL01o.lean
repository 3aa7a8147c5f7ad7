/- Whatever three wide numbers: eddylaw01's NumOrders returns true. No conditions. -/
import Derived.Test.YtmgpknadefhikaaL01w
import Derived.Test.YtmgpknadefhikaaL01h
namespace Go.Proofs.Ytmgpknadefhikaa
open Go.ChangeShapes Go.WideShapes Go.ChangeAt Go.RowKit Go.Joins
set_option linter.unusedVariables false
theorem digs_eq (n : Nat) : digs n = if n < 10 then [UInt8.ofNat (48 + n)] else digs (n / 10) ++ [UInt8.ofNat (48 + n % 10)] := by rw [digs]
theorem parseL_append (l : List UInt8) (c : UInt8) (a : Nat) : parseL (l ++ [c]) a = (parseL l a).bind fun x => if digB c && decide (x * 10 + dig c < M128) then some (x * 10 + dig c) else none := by
  induction l generalizing a with
  | nil => rfl
  | cons d ds ih =>
    simp only [List.cons_append, parseL]
    split
    · exact ih _
    · rfl
theorem byte_dig (d : Nat) (h : d < 10) : digB (UInt8.ofNat (48 + d)) = true ∧ dig (UInt8.ofNat (48 + d)) = d := by
  have e : (UInt8.ofNat (48 + d)).toNat = 48 + d := UInt8.toNat_ofNat_of_lt' (by show 48 + d < 256; omega)
  unfold digB dig
  rw [e]
  refine ⟨by simp; omega, by omega⟩
theorem parse_digs : ∀ (n : Nat), n < M128 → parseL (digs n) 0 = some n := by
  intro n
  induction n using Nat.strongRecOn with
  | ind n ih =>
    intro hn
    rw [digs_eq]
    by_cases h : n < 10
    · obtain ⟨e1, e2⟩ := byte_dig n h
      rw [if_pos h]
      simp only [parseL, e1, e2, Bool.true_and]
      rw [if_pos (by simpa using hn)]
      simp
    · obtain ⟨e1, e2⟩ := byte_dig (n % 10) (by omega)
      rw [if_neg h, parseL_append, ih (n / 10) (by omega) (by omega)]
      simp only [Option.bind_some, e1, e2, Bool.true_and]
      rw [if_pos (by simp; omega)]
      congr 1
      omega
theorem digs_len : ∀ (k n : Nat), n < 10 ^ (k + 1) → (digs n).length ≤ k + 1 := by
  intro k
  induction k with
  | zero => intro n h; rw [digs_eq, if_pos (by simpa using h)]; simp
  | succ k ih =>
    intro n h
    rw [digs_eq]
    split
    · simp
    · rw [List.length_append]
      have := ih (n / 10) (pow_step h)
      simp
      omega
theorem digs_head : ∀ (n : Nat), 0 < n → ∃ c l, digs n = c :: l ∧ c ≠ 48 := by
  intro n
  induction n using Nat.strongRecOn with
  | ind n ih =>
    intro hn
    rw [digs_eq]
    by_cases h : n < 10
    · rw [if_pos h]
      refine ⟨_, [], rfl, fun hc => ?_⟩
      have e : (UInt8.ofNat (48 + n)).toNat = 48 + n := UInt8.toNat_ofNat_of_lt' (by show 48 + n < 256; omega)
      rw [hc] at e
      have : (48 : UInt8).toNat = 48 := rfl
      omega
    · obtain ⟨c, l, e, hc⟩ := ih (n / 10) (by omega) (by omega)
      rw [if_neg h, e]
      exact ⟨c, _, rfl, hc⟩
theorem parse_text (n : Nat) (hn : n < M128) : parseV (digs n) = (wideN n, 0) := by
  unfold parseV parseN
  have hb : badHead (digs n) = false := by
    unfold badHead
    have hl : (digs n).length ≤ 39 := digs_len 38 n (Nat.lt_trans hn M128_pow)
    rcases Nat.eq_zero_or_pos n with h0 | h0
    · subst h0
      decide +kernel
    · obtain ⟨c, l, e, hc⟩ := digs_head n h0
      rw [e] at hl ⊢
      simp only [List.isEmpty_cons, Bool.false_or, List.head?_cons]
      simp only [Bool.or_eq_false_iff, decide_eq_false_iff_not, Bool.and_eq_false_iff]
      exact ⟨by omega, .inl (by simpa using hc)⟩
  rw [hb, parse_digs n hn]
  rfl
theorem plus_comm (a b : W) : plusW a b = plusW b a := by
  have h : addH a b = addH b a := by unfold addH; omega
  unfold plusW okW addW
  rw [h, Int.add_comm a.lo b.lo]
theorem plus_drop (m n : Nat) (hm : m < M128) (hn : n < M128) (h : (plusW (wideN m) (wideN n)).2 = true) : dropW (plusW (wideN m) (wideN n)).1 (wideN n) = (wideN m, true) := by
  rw [wide_plus m n hm hn] at *
  unfold plusN at *
  by_cases hl : m + n < M128
  · rw [if_pos hl, wide_drop (m + n) n hl (by omega), Nat.add_sub_cancel]
  · rw [if_neg hl] at h; cases h
-- the walk
set_option maxRecDepth 100000 in
set_option maxHeartbeats 8000000 in
theorem orders_lt1_f (a1 a2 b1 b2 c1 c2 s1 s2 : Int) (str : ByteArray) (LAB : Hid (∀ w, Calls Try.prog 29 #[.agg #[.int .u64 a1, .int .u64 a2], .agg #[.int .u64 b1, .int .u64 b2]] w fun e w' => e = .returned (.bool true) ∧ Below w.heap.size w w'))
    (LBA : Hid (∀ w, Calls Try.prog 29 #[.agg #[.int .u64 b1, .int .u64 b2], .agg #[.int .u64 a1, .int .u64 a2]] w fun e w' => e = .returned (.bool false) ∧ Below w.heap.size w w'))
    (LBC : Hid (∀ w, Calls Try.prog 29 #[.agg #[.int .u64 b1, .int .u64 b2], .agg #[.int .u64 c1, .int .u64 c2]] w fun e w' => e = .returned (.bool true) ∧ Below w.heap.size w w'))
    (LAC : Hid (∀ w, Calls Try.prog 29 #[.agg #[.int .u64 a1, .int .u64 a2], .agg #[.int .u64 c1, .int .u64 c2]] w fun e w' => e = .returned (.bool true) ∧ Below w.heap.size w w'))
    (CP : Hid (∀ w, Calls Try.prog 24 #[.agg #[.int .u64 a1, .int .u64 a2], .agg #[.int .u64 b1, .int .u64 b2]] w fun e w' => e = .returned (.tuple #[.agg #[.int .u64 s1, .int .u64 s2], .bool false]) ∧ Below w.heap.size w w'))
    (CQ : Hid (∀ w, Calls Try.prog 24 #[.agg #[.int .u64 b1, .int .u64 b2], .agg #[.int .u64 a1, .int .u64 a2]] w fun e w' => e = .returned (.tuple #[.agg #[.int .u64 s1, .int .u64 s2], .bool false]) ∧ Below w.heap.size w w'))
    (CT : Hid (∀ w, Calls Try.prog 33 #[.agg #[.int .u64 a1, .int .u64 a2]] w fun e w' => e = .returned (.string str) ∧ Below w.heap.size w w'))
    (CR : Hid (∀ w, Calls Try.prog 10 #[.string str] w fun e w' => e = .returned (.tuple #[.agg #[.int .u64 a1, .int .u64 a2], .int .i64 0]) ∧ Below w.heap.size w w')) (w : World) :
    Calls Try.prog 9 #[.agg #[.int .u64 a1, .int .u64 a2], .agg #[.int .u64 b1, .int .u64 b2], .agg #[.int .u64 c1, .int .u64 c2]] w fun e w' => e = .returned (.bool true) ∧ Below w.heap.size w w' := by
  go_enter Try.func9, Try.ntmps9
  go_wp2_with (fail)
  refine (LAB.out _).mono ?_; rintro e w1 ⟨rfl, hbn⟩
  have hk : KeptC w [(⟨w.heap.size, 0, none⟩, .int .u64 a1), (⟨w.heap.size, 1, none⟩, .int .u64 a2), (⟨w.heap.size + 1, 0, none⟩, .int .u64 b1), (⟨w.heap.size + 1, 1, none⟩, .int .u64 b2), (⟨w.heap.size + 1 + 1, 0, none⟩, .int .u64 c1), (⟨w.heap.size + 1 + 1, 1, none⟩, .int .u64 c2)] [] w1 := by
    refine KeptC.below ?_ hbn
    repeat' (first | refine KeptC.cons ?_ ?_ | refine KeptC.consF ?_ ?_ ?_ | refine KeptC.mk0 ?_)
    all_goals (first | with_reducible assumption | (go_simp; done) | (simp; omega) | exact (by repeat (first | with_reducible refine Below.setCell ?_ (by first | (simp; done) | (simp; omega) | omega) _ | with_reducible refine Below.alloc ?_ (by first | (simp; done) | (simp; omega) | omega) _ | with_reducible refine Below.drew ?_ | with_reducible exact Below.refl _ _)))
  clear hbn
  simp only [KeptC, List.forall_mem_cons] at hk; obtain ⟨kb1, ⟨kc1_0, kc1_1, kc1_2, kc1_3, kc1_4, kc1_5, _⟩, _⟩ := hk; have ks1 : w.heap.size ≤ w1.heap.size := kb1.size; have ky1_0 : w.heap.size < w1.heap.size := cell_lt (a := ⟨w.heap.size, 0, none⟩) (by with_reducible assumption); have ky1_1 : w.heap.size + 1 < w1.heap.size := cell_lt (a := ⟨w.heap.size + 1, 0, none⟩) (by with_reducible assumption); have ky1_2 : w.heap.size + 1 + 1 < w1.heap.size := cell_lt (a := ⟨w.heap.size + 1 + 1, 0, none⟩) (by with_reducible assumption)
  go_wp2_with (fail)
  refine (LBA.out _).mono ?_; rintro e w2 ⟨rfl, hbn⟩
  have hk : KeptC w [(⟨w.heap.size, 0, none⟩, .int .u64 a1), (⟨w.heap.size, 1, none⟩, .int .u64 a2), (⟨w.heap.size + 1, 0, none⟩, .int .u64 b1), (⟨w.heap.size + 1, 1, none⟩, .int .u64 b2), (⟨w.heap.size + 1 + 1, 0, none⟩, .int .u64 c1), (⟨w.heap.size + 1 + 1, 1, none⟩, .int .u64 c2)] [] w2 := by
    refine KeptC.below ?_ hbn
    repeat' (first | refine KeptC.cons ?_ ?_ | refine KeptC.consF ?_ ?_ ?_ | refine KeptC.mk0 ?_)
    all_goals (first | with_reducible assumption | (go_simp; done) | (simp; omega) | exact (by repeat (first | with_reducible refine Below.setCell ?_ (by first | (simp; done) | (simp; omega) | omega) _ | with_reducible refine Below.alloc ?_ (by first | (simp; done) | (simp; omega) | omega) _ | with_reducible refine Below.drew ?_ | with_reducible exact Below.refl _ _ | with_reducible refine Below.trans ?_ (Below.mono kb1 (by first | (simp; done) | (simp; omega) | omega)))))
  clear hbn; clear kb1 kc1_0 kc1_1 kc1_2 kc1_3 kc1_4 kc1_5
  simp only [KeptC, List.forall_mem_cons] at hk; obtain ⟨kb2, ⟨kc2_0, kc2_1, kc2_2, kc2_3, kc2_4, kc2_5, _⟩, _⟩ := hk; have ks2 : w.heap.size ≤ w2.heap.size := kb2.size; have ky2_0 : w.heap.size < w2.heap.size := cell_lt (a := ⟨w.heap.size, 0, none⟩) (by with_reducible assumption); have ky2_1 : w.heap.size + 1 < w2.heap.size := cell_lt (a := ⟨w.heap.size + 1, 0, none⟩) (by with_reducible assumption); have ky2_2 : w.heap.size + 1 + 1 < w2.heap.size := cell_lt (a := ⟨w.heap.size + 1 + 1, 0, none⟩) (by with_reducible assumption)
  go_wp2_with (fail)
  refine (LAB.out _).mono ?_; rintro e w3 ⟨rfl, hbn⟩
  have hk : KeptC w [(⟨w.heap.size, 0, none⟩, .int .u64 a1), (⟨w.heap.size, 1, none⟩, .int .u64 a2), (⟨w.heap.size + 1, 0, none⟩, .int .u64 b1), (⟨w.heap.size + 1, 1, none⟩, .int .u64 b2), (⟨w.heap.size + 1 + 1, 0, none⟩, .int .u64 c1), (⟨w.heap.size + 1 + 1, 1, none⟩, .int .u64 c2)] [] w3 := by
    refine KeptC.below ?_ hbn
    repeat' (first | refine KeptC.cons ?_ ?_ | refine KeptC.consF ?_ ?_ ?_ | refine KeptC.mk0 ?_)
    all_goals (first | with_reducible assumption | (go_simp; done) | (simp; omega) | exact (by repeat (first | with_reducible refine Below.setCell ?_ (by first | (simp; done) | (simp; omega) | omega) _ | with_reducible refine Below.alloc ?_ (by first | (simp; done) | (simp; omega) | omega) _ | with_reducible refine Below.drew ?_ | with_reducible exact Below.refl _ _ | with_reducible refine Below.trans ?_ (Below.mono kb2 (by first | (simp; done) | (simp; omega) | omega)))))
  clear hbn; clear kb2 kc2_0 kc2_1 kc2_2 kc2_3 kc2_4 kc2_5
  simp only [KeptC, List.forall_mem_cons] at hk; obtain ⟨kb3, ⟨kc3_0, kc3_1, kc3_2, kc3_3, kc3_4, kc3_5, _⟩, _⟩ := hk; have ks3 : w.heap.size ≤ w3.heap.size := kb3.size; have ky3_0 : w.heap.size < w3.heap.size := cell_lt (a := ⟨w.heap.size, 0, none⟩) (by with_reducible assumption); have ky3_1 : w.heap.size + 1 < w3.heap.size := cell_lt (a := ⟨w.heap.size + 1, 0, none⟩) (by with_reducible assumption); have ky3_2 : w.heap.size + 1 + 1 < w3.heap.size := cell_lt (a := ⟨w.heap.size + 1 + 1, 0, none⟩) (by with_reducible assumption)
  go_wp2_with (fail)
  refine (LAB.out _).mono ?_; rintro e w4 ⟨rfl, hbn⟩
  have hk : KeptC w [(⟨w.heap.size, 0, none⟩, .int .u64 a1), (⟨w.heap.size, 1, none⟩, .int .u64 a2), (⟨w.heap.size + 1, 0, none⟩, .int .u64 b1), (⟨w.heap.size + 1, 1, none⟩, .int .u64 b2), (⟨w.heap.size + 1 + 1, 0, none⟩, .int .u64 c1), (⟨w.heap.size + 1 + 1, 1, none⟩, .int .u64 c2)] [] w4 := by
    refine KeptC.below ?_ hbn
    repeat' (first | refine KeptC.cons ?_ ?_ | refine KeptC.consF ?_ ?_ ?_ | refine KeptC.mk0 ?_)
    all_goals (first | with_reducible assumption | (go_simp; done) | (simp; omega) | exact (by repeat (first | with_reducible refine Below.setCell ?_ (by first | (simp; done) | (simp; omega) | omega) _ | with_reducible refine Below.alloc ?_ (by first | (simp; done) | (simp; omega) | omega) _ | with_reducible refine Below.drew ?_ | with_reducible exact Below.refl _ _ | with_reducible refine Below.trans ?_ (Below.mono kb3 (by first | (simp; done) | (simp; omega) | omega)))))
  clear hbn; clear kb3 kc3_0 kc3_1 kc3_2 kc3_3 kc3_4 kc3_5
  simp only [KeptC, List.forall_mem_cons] at hk; obtain ⟨kb4, ⟨kc4_0, kc4_1, kc4_2, kc4_3, kc4_4, kc4_5, _⟩, _⟩ := hk; have ks4 : w.heap.size ≤ w4.heap.size := kb4.size; have ky4_0 : w.heap.size < w4.heap.size := cell_lt (a := ⟨w.heap.size, 0, none⟩) (by with_reducible assumption); have ky4_1 : w.heap.size + 1 < w4.heap.size := cell_lt (a := ⟨w.heap.size + 1, 0, none⟩) (by with_reducible assumption); have ky4_2 : w.heap.size + 1 + 1 < w4.heap.size := cell_lt (a := ⟨w.heap.size + 1 + 1, 0, none⟩) (by with_reducible assumption)
  go_wp2_with (fail)
  refine (LBC.out _).mono ?_; rintro e w5 ⟨rfl, hbn⟩
  have hk : KeptC w [(⟨w.heap.size, 0, none⟩, .int .u64 a1), (⟨w.heap.size, 1, none⟩, .int .u64 a2), (⟨w.heap.size + 1, 0, none⟩, .int .u64 b1), (⟨w.heap.size + 1, 1, none⟩, .int .u64 b2), (⟨w.heap.size + 1 + 1, 0, none⟩, .int .u64 c1), (⟨w.heap.size + 1 + 1, 1, none⟩, .int .u64 c2)] [] w5 := by
    refine KeptC.below ?_ hbn
    repeat' (first | refine KeptC.cons ?_ ?_ | refine KeptC.consF ?_ ?_ ?_ | refine KeptC.mk0 ?_)
    all_goals (first | with_reducible assumption | (go_simp; done) | (simp; omega) | exact (by repeat (first | with_reducible refine Below.setCell ?_ (by first | (simp; done) | (simp; omega) | omega) _ | with_reducible refine Below.alloc ?_ (by first | (simp; done) | (simp; omega) | omega) _ | with_reducible refine Below.drew ?_ | with_reducible exact Below.refl _ _ | with_reducible refine Below.trans ?_ (Below.mono kb4 (by first | (simp; done) | (simp; omega) | omega)))))
  clear hbn; clear kb4 kc4_0 kc4_1 kc4_2 kc4_3 kc4_4 kc4_5
  simp only [KeptC, List.forall_mem_cons] at hk; obtain ⟨kb5, ⟨kc5_0, kc5_1, kc5_2, kc5_3, kc5_4, kc5_5, _⟩, _⟩ := hk; have ks5 : w.heap.size ≤ w5.heap.size := kb5.size; have ky5_0 : w.heap.size < w5.heap.size := cell_lt (a := ⟨w.heap.size, 0, none⟩) (by with_reducible assumption); have ky5_1 : w.heap.size + 1 < w5.heap.size := cell_lt (a := ⟨w.heap.size + 1, 0, none⟩) (by with_reducible assumption); have ky5_2 : w.heap.size + 1 + 1 < w5.heap.size := cell_lt (a := ⟨w.heap.size + 1 + 1, 0, none⟩) (by with_reducible assumption)
  go_wp2_with (fail)
  refine (LAC.out _).mono ?_; rintro e w6 ⟨rfl, hbn⟩
  have hk : KeptC w [(⟨w.heap.size, 0, none⟩, .int .u64 a1), (⟨w.heap.size, 1, none⟩, .int .u64 a2), (⟨w.heap.size + 1, 0, none⟩, .int .u64 b1), (⟨w.heap.size + 1, 1, none⟩, .int .u64 b2), (⟨w.heap.size + 1 + 1, 0, none⟩, .int .u64 c1), (⟨w.heap.size + 1 + 1, 1, none⟩, .int .u64 c2)] [] w6 := by
    refine KeptC.below ?_ hbn
    repeat' (first | refine KeptC.cons ?_ ?_ | refine KeptC.consF ?_ ?_ ?_ | refine KeptC.mk0 ?_)
    all_goals (first | with_reducible assumption | (go_simp; done) | (simp; omega) | exact (by repeat (first | with_reducible refine Below.setCell ?_ (by first | (simp; done) | (simp; omega) | omega) _ | with_reducible refine Below.alloc ?_ (by first | (simp; done) | (simp; omega) | omega) _ | with_reducible refine Below.drew ?_ | with_reducible exact Below.refl _ _ | with_reducible refine Below.trans ?_ (Below.mono kb5 (by first | (simp; done) | (simp; omega) | omega)))))
  clear hbn; clear kb5 kc5_0 kc5_1 kc5_2 kc5_3 kc5_4 kc5_5
  simp only [KeptC, List.forall_mem_cons] at hk; obtain ⟨kb6, ⟨kc6_0, kc6_1, kc6_2, kc6_3, kc6_4, kc6_5, _⟩, _⟩ := hk; have ks6 : w.heap.size ≤ w6.heap.size := kb6.size; have ky6_0 : w.heap.size < w6.heap.size := cell_lt (a := ⟨w.heap.size, 0, none⟩) (by with_reducible assumption); have ky6_1 : w.heap.size + 1 < w6.heap.size := cell_lt (a := ⟨w.heap.size + 1, 0, none⟩) (by with_reducible assumption); have ky6_2 : w.heap.size + 1 + 1 < w6.heap.size := cell_lt (a := ⟨w.heap.size + 1 + 1, 0, none⟩) (by with_reducible assumption)
  go_wp2_with (fail)
  refine (CP.out _).mono ?_; rintro e w7 ⟨rfl, hbn⟩
  have hk : KeptC w [(⟨w.heap.size, 0, none⟩, .int .u64 a1), (⟨w.heap.size, 1, none⟩, .int .u64 a2), (⟨w.heap.size + 1, 0, none⟩, .int .u64 b1), (⟨w.heap.size + 1, 1, none⟩, .int .u64 b2), (⟨w.heap.size + 1 + 1, 0, none⟩, .int .u64 c1), (⟨w.heap.size + 1 + 1, 1, none⟩, .int .u64 c2)] [] w7 := by
    refine KeptC.below ?_ hbn
    repeat' (first | refine KeptC.cons ?_ ?_ | refine KeptC.consF ?_ ?_ ?_ | refine KeptC.mk0 ?_)
    all_goals (first | with_reducible assumption | (go_simp; done) | (simp; omega) | exact (by repeat (first | with_reducible refine Below.setCell ?_ (by first | (simp; done) | (simp; omega) | omega) _ | with_reducible refine Below.alloc ?_ (by first | (simp; done) | (simp; omega) | omega) _ | with_reducible refine Below.drew ?_ | with_reducible exact Below.refl _ _ | with_reducible refine Below.trans ?_ (Below.mono kb6 (by first | (simp; done) | (simp; omega) | omega)))))
  clear hbn; clear kb6 kc6_0 kc6_1 kc6_2 kc6_3 kc6_4 kc6_5
  simp only [KeptC, List.forall_mem_cons] at hk; obtain ⟨kb7, ⟨kc7_0, kc7_1, kc7_2, kc7_3, kc7_4, kc7_5, _⟩, _⟩ := hk; have ks7 : w.heap.size ≤ w7.heap.size := kb7.size; have ky7_0 : w.heap.size < w7.heap.size := cell_lt (a := ⟨w.heap.size, 0, none⟩) (by with_reducible assumption); have ky7_1 : w.heap.size + 1 < w7.heap.size := cell_lt (a := ⟨w.heap.size + 1, 0, none⟩) (by with_reducible assumption); have ky7_2 : w.heap.size + 1 + 1 < w7.heap.size := cell_lt (a := ⟨w.heap.size + 1 + 1, 0, none⟩) (by with_reducible assumption)
  go_wp2_with (fail)
  refine (CQ.out _).mono ?_; rintro e w8 ⟨rfl, hbn⟩
  have hk : KeptC w [(⟨w.heap.size, 0, none⟩, .int .u64 a1), (⟨w.heap.size, 1, none⟩, .int .u64 a2), (⟨w.heap.size + 1, 0, none⟩, .int .u64 b1), (⟨w.heap.size + 1, 1, none⟩, .int .u64 b2), (⟨w.heap.size + 1 + 1, 0, none⟩, .int .u64 c1), (⟨w.heap.size + 1 + 1, 1, none⟩, .int .u64 c2), (⟨w7.heap.size, 0, none⟩, .int .u64 s1), (⟨w7.heap.size, 1, none⟩, .int .u64 s2)] [] w8 := by
    refine KeptC.below ?_ hbn
    repeat' (first | refine KeptC.cons ?_ ?_ | refine KeptC.consF ?_ ?_ ?_ | refine KeptC.mk0 ?_)
    all_goals (first | with_reducible assumption | (go_simp; done) | (simp; omega) | exact (by repeat (first | with_reducible refine Below.setCell ?_ (by first | (simp; done) | (simp; omega) | omega) _ | with_reducible refine Below.alloc ?_ (by first | (simp; done) | (simp; omega) | omega) _ | with_reducible refine Below.drew ?_ | with_reducible exact Below.refl _ _ | with_reducible refine Below.trans ?_ (Below.mono kb7 (by first | (simp; done) | (simp; omega) | omega)))))
  clear hbn; clear kb7 kc7_0 kc7_1 kc7_2 kc7_3 kc7_4 kc7_5
  simp only [KeptC, List.forall_mem_cons] at hk; obtain ⟨kb8, ⟨kc8_0, kc8_1, kc8_2, kc8_3, kc8_4, kc8_5, kc8_6, kc8_7, _⟩, _⟩ := hk; have ks8 : w.heap.size ≤ w8.heap.size := kb8.size; have ky8_0 : w.heap.size < w8.heap.size := cell_lt (a := ⟨w.heap.size, 0, none⟩) (by with_reducible assumption); have ky8_1 : w.heap.size + 1 < w8.heap.size := cell_lt (a := ⟨w.heap.size + 1, 0, none⟩) (by with_reducible assumption); have ky8_2 : w.heap.size + 1 + 1 < w8.heap.size := cell_lt (a := ⟨w.heap.size + 1 + 1, 0, none⟩) (by with_reducible assumption); have ky8_3 : w7.heap.size < w8.heap.size := cell_lt (a := ⟨w7.heap.size, 0, none⟩) (by with_reducible assumption)
  go_wp2_with (fail)
  refine (CT.out _).mono ?_; rintro e w9 ⟨rfl, hbn⟩
  have hk : KeptC w [(⟨w.heap.size, 0, none⟩, .int .u64 a1), (⟨w.heap.size, 1, none⟩, .int .u64 a2)] [] w9 := by
    refine KeptC.below ?_ hbn
    repeat' (first | refine KeptC.cons ?_ ?_ | refine KeptC.consF ?_ ?_ ?_ | refine KeptC.mk0 ?_)
    all_goals (first | with_reducible assumption | (go_simp; done) | (simp; omega) | exact (by repeat (first | with_reducible refine Below.setCell ?_ (by first | (simp; done) | (simp; omega) | omega) _ | with_reducible refine Below.alloc ?_ (by first | (simp; done) | (simp; omega) | omega) _ | with_reducible refine Below.drew ?_ | with_reducible exact Below.refl _ _ | with_reducible refine Below.trans ?_ (Below.mono kb8 (by first | (simp; done) | (simp; omega) | omega)))))
  clear hbn; clear kb8 kc8_0 kc8_1 kc8_2 kc8_3 kc8_4 kc8_5 kc8_6 kc8_7
  simp only [KeptC, List.forall_mem_cons] at hk; obtain ⟨kb9, ⟨kc9_0, kc9_1, _⟩, _⟩ := hk; have ks9 : w.heap.size ≤ w9.heap.size := kb9.size; have ky9_0 : w.heap.size < w9.heap.size := cell_lt (a := ⟨w.heap.size, 0, none⟩) (by with_reducible assumption)
  go_wp2_with (fail)
  refine (CR.out _).mono ?_; rintro e w10 ⟨rfl, hbn⟩
  have hk : KeptC w [(⟨w.heap.size, 0, none⟩, .int .u64 a1), (⟨w.heap.size, 1, none⟩, .int .u64 a2)] [] w10 := by
    refine KeptC.below ?_ hbn
    repeat' (first | refine KeptC.cons ?_ ?_ | refine KeptC.consF ?_ ?_ ?_ | refine KeptC.mk0 ?_)
    all_goals (first | with_reducible assumption | (go_simp; done) | (simp; omega) | exact (by repeat (first | with_reducible refine Below.setCell ?_ (by first | (simp; done) | (simp; omega) | omega) _ | with_reducible refine Below.alloc ?_ (by first | (simp; done) | (simp; omega) | omega) _ | with_reducible refine Below.drew ?_ | with_reducible exact Below.refl _ _ | with_reducible refine Below.trans ?_ (Below.mono kb9 (by first | (simp; done) | (simp; omega) | omega)))))
  clear hbn; clear kb9 kc9_0 kc9_1
  simp only [KeptC, List.forall_mem_cons] at hk; obtain ⟨kb10, ⟨kc10_0, kc10_1, _⟩, _⟩ := hk; have ks10 : w.heap.size ≤ w10.heap.size := kb10.size; have ky10_0 : w.heap.size < w10.heap.size := cell_lt (a := ⟨w.heap.size, 0, none⟩) (by with_reducible assumption)
  go_wp2_with (fail)
  refine (awake_any _).mono ?_; rintro e w11 ⟨rfl, hbn⟩
  have hk : KeptC w [] [] w11 := by
    refine KeptC.below ?_ hbn
    repeat' (first | refine KeptC.cons ?_ ?_ | refine KeptC.consF ?_ ?_ ?_ | refine KeptC.mk0 ?_)
    all_goals (first | with_reducible assumption | (go_simp; done) | (simp; omega) | exact (by repeat (first | with_reducible refine Below.setCell ?_ (by first | (simp; done) | (simp; omega) | omega) _ | with_reducible refine Below.alloc ?_ (by first | (simp; done) | (simp; omega) | omega) _ | with_reducible refine Below.drew ?_ | with_reducible exact Below.refl _ _ | with_reducible refine Below.trans ?_ (Below.mono kb10 (by first | (simp; done) | (simp; omega) | omega)))))
  clear hbn; clear kb10 kc10_0 kc10_1
  simp only [KeptC, List.forall_mem_cons] at hk; obtain ⟨kb11, _, _⟩ := hk; have ks11 : w.heap.size ≤ w11.heap.size := kb11.size
  go_wp2
  go_ret
  exact ⟨rfl, kb11⟩
set_option maxRecDepth 100000 in
set_option maxHeartbeats 8000000 in
theorem orders_lt1_t (a1 a2 b1 b2 c1 c2 s1 s2 : Int) (str : ByteArray) (LAB : Hid (∀ w, Calls Try.prog 29 #[.agg #[.int .u64 a1, .int .u64 a2], .agg #[.int .u64 b1, .int .u64 b2]] w fun e w' => e = .returned (.bool true) ∧ Below w.heap.size w w'))
    (LBA : Hid (∀ w, Calls Try.prog 29 #[.agg #[.int .u64 b1, .int .u64 b2], .agg #[.int .u64 a1, .int .u64 a2]] w fun e w' => e = .returned (.bool false) ∧ Below w.heap.size w w'))
    (LBC : Hid (∀ w, Calls Try.prog 29 #[.agg #[.int .u64 b1, .int .u64 b2], .agg #[.int .u64 c1, .int .u64 c2]] w fun e w' => e = .returned (.bool true) ∧ Below w.heap.size w w'))
    (LAC : Hid (∀ w, Calls Try.prog 29 #[.agg #[.int .u64 a1, .int .u64 a2], .agg #[.int .u64 c1, .int .u64 c2]] w fun e w' => e = .returned (.bool true) ∧ Below w.heap.size w w'))
    (CP : Hid (∀ w, Calls Try.prog 24 #[.agg #[.int .u64 a1, .int .u64 a2], .agg #[.int .u64 b1, .int .u64 b2]] w fun e w' => e = .returned (.tuple #[.agg #[.int .u64 s1, .int .u64 s2], .bool true]) ∧ Below w.heap.size w w'))
    (CQ : Hid (∀ w, Calls Try.prog 24 #[.agg #[.int .u64 b1, .int .u64 b2], .agg #[.int .u64 a1, .int .u64 a2]] w fun e w' => e = .returned (.tuple #[.agg #[.int .u64 s1, .int .u64 s2], .bool true]) ∧ Below w.heap.size w w'))
    (CT : Hid (∀ w, Calls Try.prog 33 #[.agg #[.int .u64 a1, .int .u64 a2]] w fun e w' => e = .returned (.string str) ∧ Below w.heap.size w w'))
    (CR : Hid (∀ w, Calls Try.prog 10 #[.string str] w fun e w' => e = .returned (.tuple #[.agg #[.int .u64 a1, .int .u64 a2], .int .i64 0]) ∧ Below w.heap.size w w'))
    (CD : Hid (∀ w, Calls Try.prog 28 #[.agg #[.int .u64 s1, .int .u64 s2], .agg #[.int .u64 b1, .int .u64 b2]] w fun e w' => e = .returned (.tuple #[.agg #[.int .u64 a1, .int .u64 a2], .bool true]) ∧ Below w.heap.size w w')) (w : World) :
    Calls Try.prog 9 #[.agg #[.int .u64 a1, .int .u64 a2], .agg #[.int .u64 b1, .int .u64 b2], .agg #[.int .u64 c1, .int .u64 c2]] w fun e w' => e = .returned (.bool true) ∧ Below w.heap.size w w' := by
  go_enter Try.func9, Try.ntmps9
  go_wp2_with (fail)
  refine (LAB.out _).mono ?_; rintro e w1 ⟨rfl, hbn⟩
  have hk : KeptC w [(⟨w.heap.size, 0, none⟩, .int .u64 a1), (⟨w.heap.size, 1, none⟩, .int .u64 a2), (⟨w.heap.size + 1, 0, none⟩, .int .u64 b1), (⟨w.heap.size + 1, 1, none⟩, .int .u64 b2), (⟨w.heap.size + 1 + 1, 0, none⟩, .int .u64 c1), (⟨w.heap.size + 1 + 1, 1, none⟩, .int .u64 c2)] [] w1 := by
    refine KeptC.below ?_ hbn
    repeat' (first | refine KeptC.cons ?_ ?_ | refine KeptC.consF ?_ ?_ ?_ | refine KeptC.mk0 ?_)
    all_goals (first | with_reducible assumption | (go_simp; done) | (simp; omega) | exact (by repeat (first | with_reducible refine Below.setCell ?_ (by first | (simp; done) | (simp; omega) | omega) _ | with_reducible refine Below.alloc ?_ (by first | (simp; done) | (simp; omega) | omega) _ | with_reducible refine Below.drew ?_ | with_reducible exact Below.refl _ _)))
  clear hbn
  simp only [KeptC, List.forall_mem_cons] at hk; obtain ⟨kb1, ⟨kc1_0, kc1_1, kc1_2, kc1_3, kc1_4, kc1_5, _⟩, _⟩ := hk; have ks1 : w.heap.size ≤ w1.heap.size := kb1.size; have ky1_0 : w.heap.size < w1.heap.size := cell_lt (a := ⟨w.heap.size, 0, none⟩) (by with_reducible assumption); have ky1_1 : w.heap.size + 1 < w1.heap.size := cell_lt (a := ⟨w.heap.size + 1, 0, none⟩) (by with_reducible assumption); have ky1_2 : w.heap.size + 1 + 1 < w1.heap.size := cell_lt (a := ⟨w.heap.size + 1 + 1, 0, none⟩) (by with_reducible assumption)
  go_wp2_with (fail)
  refine (LBA.out _).mono ?_; rintro e w2 ⟨rfl, hbn⟩
  have hk : KeptC w [(⟨w.heap.size, 0, none⟩, .int .u64 a1), (⟨w.heap.size, 1, none⟩, .int .u64 a2), (⟨w.heap.size + 1, 0, none⟩, .int .u64 b1), (⟨w.heap.size + 1, 1, none⟩, .int .u64 b2), (⟨w.heap.size + 1 + 1, 0, none⟩, .int .u64 c1), (⟨w.heap.size + 1 + 1, 1, none⟩, .int .u64 c2)] [] w2 := by
    refine KeptC.below ?_ hbn
    repeat' (first | refine KeptC.cons ?_ ?_ | refine KeptC.consF ?_ ?_ ?_ | refine KeptC.mk0 ?_)
    all_goals (first | with_reducible assumption | (go_simp; done) | (simp; omega) | exact (by repeat (first | with_reducible refine Below.setCell ?_ (by first | (simp; done) | (simp; omega) | omega) _ | with_reducible refine Below.alloc ?_ (by first | (simp; done) | (simp; omega) | omega) _ | with_reducible refine Below.drew ?_ | with_reducible exact Below.refl _ _ | with_reducible refine Below.trans ?_ (Below.mono kb1 (by first | (simp; done) | (simp; omega) | omega)))))
  clear hbn; clear kb1 kc1_0 kc1_1 kc1_2 kc1_3 kc1_4 kc1_5
  simp only [KeptC, List.forall_mem_cons] at hk; obtain ⟨kb2, ⟨kc2_0, kc2_1, kc2_2, kc2_3, kc2_4, kc2_5, _⟩, _⟩ := hk; have ks2 : w.heap.size ≤ w2.heap.size := kb2.size; have ky2_0 : w.heap.size < w2.heap.size := cell_lt (a := ⟨w.heap.size, 0, none⟩) (by with_reducible assumption); have ky2_1 : w.heap.size + 1 < w2.heap.size := cell_lt (a := ⟨w.heap.size + 1, 0, none⟩) (by with_reducible assumption); have ky2_2 : w.heap.size + 1 + 1 < w2.heap.size := cell_lt (a := ⟨w.heap.size + 1 + 1, 0, none⟩) (by with_reducible assumption)
  go_wp2_with (fail)
  refine (LAB.out _).mono ?_; rintro e w3 ⟨rfl, hbn⟩
  have hk : KeptC w [(⟨w.heap.size, 0, none⟩, .int .u64 a1), (⟨w.heap.size, 1, none⟩, .int .u64 a2), (⟨w.heap.size + 1, 0, none⟩, .int .u64 b1), (⟨w.heap.size + 1, 1, none⟩, .int .u64 b2), (⟨w.heap.size + 1 + 1, 0, none⟩, .int .u64 c1), (⟨w.heap.size + 1 + 1, 1, none⟩, .int .u64 c2)] [] w3 := by
    refine KeptC.below ?_ hbn
    repeat' (first | refine KeptC.cons ?_ ?_ | refine KeptC.consF ?_ ?_ ?_ | refine KeptC.mk0 ?_)
    all_goals (first | with_reducible assumption | (go_simp; done) | (simp; omega) | exact (by repeat (first | with_reducible refine Below.setCell ?_ (by first | (simp; done) | (simp; omega) | omega) _ | with_reducible refine Below.alloc ?_ (by first | (simp; done) | (simp; omega) | omega) _ | with_reducible refine Below.drew ?_ | with_reducible exact Below.refl _ _ | with_reducible refine Below.trans ?_ (Below.mono kb2 (by first | (simp; done) | (simp; omega) | omega)))))
  clear hbn; clear kb2 kc2_0 kc2_1 kc2_2 kc2_3 kc2_4 kc2_5
  simp only [KeptC, List.forall_mem_cons] at hk; obtain ⟨kb3, ⟨kc3_0, kc3_1, kc3_2, kc3_3, kc3_4, kc3_5, _⟩, _⟩ := hk; have ks3 : w.heap.size ≤ w3.heap.size := kb3.size; have ky3_0 : w.heap.size < w3.heap.size := cell_lt (a := ⟨w.heap.size, 0, none⟩) (by with_reducible assumption); have ky3_1 : w.heap.size + 1 < w3.heap.size := cell_lt (a := ⟨w.heap.size + 1, 0, none⟩) (by with_reducible assumption); have ky3_2 : w.heap.size + 1 + 1 < w3.heap.size := cell_lt (a := ⟨w.heap.size + 1 + 1, 0, none⟩) (by with_reducible assumption)
  go_wp2_with (fail)
  refine (LAB.out _).mono ?_; rintro e w4 ⟨rfl, hbn⟩
  have hk : KeptC w [(⟨w.heap.size, 0, none⟩, .int .u64 a1), (⟨w.heap.size, 1, none⟩, .int .u64 a2), (⟨w.heap.size + 1, 0, none⟩, .int .u64 b1), (⟨w.heap.size + 1, 1, none⟩, .int .u64 b2), (⟨w.heap.size + 1 + 1, 0, none⟩, .int .u64 c1), (⟨w.heap.size + 1 + 1, 1, none⟩, .int .u64 c2)] [] w4 := by
    refine KeptC.below ?_ hbn
    repeat' (first | refine KeptC.cons ?_ ?_ | refine KeptC.consF ?_ ?_ ?_ | refine KeptC.mk0 ?_)
    all_goals (first | with_reducible assumption | (go_simp; done) | (simp; omega) | exact (by repeat (first | with_reducible refine Below.setCell ?_ (by first | (simp; done) | (simp; omega) | omega) _ | with_reducible refine Below.alloc ?_ (by first | (simp; done) | (simp; omega) | omega) _ | with_reducible refine Below.drew ?_ | with_reducible exact Below.refl _ _ | with_reducible refine Below.trans ?_ (Below.mono kb3 (by first | (simp; done) | (simp; omega) | omega)))))
  clear hbn; clear kb3 kc3_0 kc3_1 kc3_2 kc3_3 kc3_4 kc3_5
  simp only [KeptC, List.forall_mem_cons] at hk; obtain ⟨kb4, ⟨kc4_0, kc4_1, kc4_2, kc4_3, kc4_4, kc4_5, _⟩, _⟩ := hk; have ks4 : w.heap.size ≤ w4.heap.size := kb4.size; have ky4_0 : w.heap.size < w4.heap.size := cell_lt (a := ⟨w.heap.size, 0, none⟩) (by with_reducible assumption); have ky4_1 : w.heap.size + 1 < w4.heap.size := cell_lt (a := ⟨w.heap.size + 1, 0, none⟩) (by with_reducible assumption); have ky4_2 : w.heap.size + 1 + 1 < w4.heap.size := cell_lt (a := ⟨w.heap.size + 1 + 1, 0, none⟩) (by with_reducible assumption)
  go_wp2_with (fail)
  refine (LBC.out _).mono ?_; rintro e w5 ⟨rfl, hbn⟩
  have hk : KeptC w [(⟨w.heap.size, 0, none⟩, .int .u64 a1), (⟨w.heap.size, 1, none⟩, .int .u64 a2), (⟨w.heap.size + 1, 0, none⟩, .int .u64 b1), (⟨w.heap.size + 1, 1, none⟩, .int .u64 b2), (⟨w.heap.size + 1 + 1, 0, none⟩, .int .u64 c1), (⟨w.heap.size + 1 + 1, 1, none⟩, .int .u64 c2)] [] w5 := by
    refine KeptC.below ?_ hbn
    repeat' (first | refine KeptC.cons ?_ ?_ | refine KeptC.consF ?_ ?_ ?_ | refine KeptC.mk0 ?_)
    all_goals (first | with_reducible assumption | (go_simp; done) | (simp; omega) | exact (by repeat (first | with_reducible refine Below.setCell ?_ (by first | (simp; done) | (simp; omega) | omega) _ | with_reducible refine Below.alloc ?_ (by first | (simp; done) | (simp; omega) | omega) _ | with_reducible refine Below.drew ?_ | with_reducible exact Below.refl _ _ | with_reducible refine Below.trans ?_ (Below.mono kb4 (by first | (simp; done) | (simp; omega) | omega)))))
  clear hbn; clear kb4 kc4_0 kc4_1 kc4_2 kc4_3 kc4_4 kc4_5
  simp only [KeptC, List.forall_mem_cons] at hk; obtain ⟨kb5, ⟨kc5_0, kc5_1, kc5_2, kc5_3, kc5_4, kc5_5, _⟩, _⟩ := hk; have ks5 : w.heap.size ≤ w5.heap.size := kb5.size; have ky5_0 : w.heap.size < w5.heap.size := cell_lt (a := ⟨w.heap.size, 0, none⟩) (by with_reducible assumption); have ky5_1 : w.heap.size + 1 < w5.heap.size := cell_lt (a := ⟨w.heap.size + 1, 0, none⟩) (by with_reducible assumption); have ky5_2 : w.heap.size + 1 + 1 < w5.heap.size := cell_lt (a := ⟨w.heap.size + 1 + 1, 0, none⟩) (by with_reducible assumption)
  go_wp2_with (fail)
  refine (LAC.out _).mono ?_; rintro e w6 ⟨rfl, hbn⟩
  have hk : KeptC w [(⟨w.heap.size, 0, none⟩, .int .u64 a1), (⟨w.heap.size, 1, none⟩, .int .u64 a2), (⟨w.heap.size + 1, 0, none⟩, .int .u64 b1), (⟨w.heap.size + 1, 1, none⟩, .int .u64 b2), (⟨w.heap.size + 1 + 1, 0, none⟩, .int .u64 c1), (⟨w.heap.size + 1 + 1, 1, none⟩, .int .u64 c2)] [] w6 := by
    refine KeptC.below ?_ hbn
    repeat' (first | refine KeptC.cons ?_ ?_ | refine KeptC.consF ?_ ?_ ?_ | refine KeptC.mk0 ?_)
    all_goals (first | with_reducible assumption | (go_simp; done) | (simp; omega) | exact (by repeat (first | with_reducible refine Below.setCell ?_ (by first | (simp; done) | (simp; omega) | omega) _ | with_reducible refine Below.alloc ?_ (by first | (simp; done) | (simp; omega) | omega) _ | with_reducible refine Below.drew ?_ | with_reducible exact Below.refl _ _ | with_reducible refine Below.trans ?_ (Below.mono kb5 (by first | (simp; done) | (simp; omega) | omega)))))
  clear hbn; clear kb5 kc5_0 kc5_1 kc5_2 kc5_3 kc5_4 kc5_5
  simp only [KeptC, List.forall_mem_cons] at hk; obtain ⟨kb6, ⟨kc6_0, kc6_1, kc6_2, kc6_3, kc6_4, kc6_5, _⟩, _⟩ := hk; have ks6 : w.heap.size ≤ w6.heap.size := kb6.size; have ky6_0 : w.heap.size < w6.heap.size := cell_lt (a := ⟨w.heap.size, 0, none⟩) (by with_reducible assumption); have ky6_1 : w.heap.size + 1 < w6.heap.size := cell_lt (a := ⟨w.heap.size + 1, 0, none⟩) (by with_reducible assumption); have ky6_2 : w.heap.size + 1 + 1 < w6.heap.size := cell_lt (a := ⟨w.heap.size + 1 + 1, 0, none⟩) (by with_reducible assumption)
  go_wp2_with (fail)
  refine (CP.out _).mono ?_; rintro e w7 ⟨rfl, hbn⟩
  have hk : KeptC w [(⟨w.heap.size, 0, none⟩, .int .u64 a1), (⟨w.heap.size, 1, none⟩, .int .u64 a2), (⟨w.heap.size + 1, 0, none⟩, .int .u64 b1), (⟨w.heap.size + 1, 1, none⟩, .int .u64 b2), (⟨w.heap.size + 1 + 1, 0, none⟩, .int .u64 c1), (⟨w.heap.size + 1 + 1, 1, none⟩, .int .u64 c2)] [] w7 := by
    refine KeptC.below ?_ hbn
    repeat' (first | refine KeptC.cons ?_ ?_ | refine KeptC.consF ?_ ?_ ?_ | refine KeptC.mk0 ?_)
    all_goals (first | with_reducible assumption | (go_simp; done) | (simp; omega) | exact (by repeat (first | with_reducible refine Below.setCell ?_ (by first | (simp; done) | (simp; omega) | omega) _ | with_reducible refine Below.alloc ?_ (by first | (simp; done) | (simp; omega) | omega) _ | with_reducible refine Below.drew ?_ | with_reducible exact Below.refl _ _ | with_reducible refine Below.trans ?_ (Below.mono kb6 (by first | (simp; done) | (simp; omega) | omega)))))
  clear hbn; clear kb6 kc6_0 kc6_1 kc6_2 kc6_3 kc6_4 kc6_5
  simp only [KeptC, List.forall_mem_cons] at hk; obtain ⟨kb7, ⟨kc7_0, kc7_1, kc7_2, kc7_3, kc7_4, kc7_5, _⟩, _⟩ := hk; have ks7 : w.heap.size ≤ w7.heap.size := kb7.size; have ky7_0 : w.heap.size < w7.heap.size := cell_lt (a := ⟨w.heap.size, 0, none⟩) (by with_reducible assumption); have ky7_1 : w.heap.size + 1 < w7.heap.size := cell_lt (a := ⟨w.heap.size + 1, 0, none⟩) (by with_reducible assumption); have ky7_2 : w.heap.size + 1 + 1 < w7.heap.size := cell_lt (a := ⟨w.heap.size + 1 + 1, 0, none⟩) (by with_reducible assumption)
  go_wp2_with (fail)
  refine (CQ.out _).mono ?_; rintro e w8 ⟨rfl, hbn⟩
  have hk : KeptC w [(⟨w.heap.size, 0, none⟩, .int .u64 a1), (⟨w.heap.size, 1, none⟩, .int .u64 a2), (⟨w.heap.size + 1, 0, none⟩, .int .u64 b1), (⟨w.heap.size + 1, 1, none⟩, .int .u64 b2), (⟨w.heap.size + 1 + 1, 0, none⟩, .int .u64 c1), (⟨w.heap.size + 1 + 1, 1, none⟩, .int .u64 c2), (⟨w7.heap.size, 0, none⟩, .int .u64 s1), (⟨w7.heap.size, 1, none⟩, .int .u64 s2)] [] w8 := by
    refine KeptC.below ?_ hbn
    repeat' (first | refine KeptC.cons ?_ ?_ | refine KeptC.consF ?_ ?_ ?_ | refine KeptC.mk0 ?_)
    all_goals (first | with_reducible assumption | (go_simp; done) | (simp; omega) | exact (by repeat (first | with_reducible refine Below.setCell ?_ (by first | (simp; done) | (simp; omega) | omega) _ | with_reducible refine Below.alloc ?_ (by first | (simp; done) | (simp; omega) | omega) _ | with_reducible refine Below.drew ?_ | with_reducible exact Below.refl _ _ | with_reducible refine Below.trans ?_ (Below.mono kb7 (by first | (simp; done) | (simp; omega) | omega)))))
  clear hbn; clear kb7 kc7_0 kc7_1 kc7_2 kc7_3 kc7_4 kc7_5
  simp only [KeptC, List.forall_mem_cons] at hk; obtain ⟨kb8, ⟨kc8_0, kc8_1, kc8_2, kc8_3, kc8_4, kc8_5, kc8_6, kc8_7, _⟩, _⟩ := hk; have ks8 : w.heap.size ≤ w8.heap.size := kb8.size; have ky8_0 : w.heap.size < w8.heap.size := cell_lt (a := ⟨w.heap.size, 0, none⟩) (by with_reducible assumption); have ky8_1 : w.heap.size + 1 < w8.heap.size := cell_lt (a := ⟨w.heap.size + 1, 0, none⟩) (by with_reducible assumption); have ky8_2 : w.heap.size + 1 + 1 < w8.heap.size := cell_lt (a := ⟨w.heap.size + 1 + 1, 0, none⟩) (by with_reducible assumption); have ky8_3 : w7.heap.size < w8.heap.size := cell_lt (a := ⟨w7.heap.size, 0, none⟩) (by with_reducible assumption)
  go_wp2_with (fail)
  refine (CD.out _).mono ?_; rintro e w9 ⟨rfl, hbn⟩
  have hk : KeptC w [(⟨w.heap.size, 0, none⟩, .int .u64 a1), (⟨w.heap.size, 1, none⟩, .int .u64 a2), (⟨w.heap.size + 1, 0, none⟩, .int .u64 b1), (⟨w.heap.size + 1, 1, none⟩, .int .u64 b2), (⟨w.heap.size + 1 + 1, 0, none⟩, .int .u64 c1), (⟨w.heap.size + 1 + 1, 1, none⟩, .int .u64 c2)] [] w9 := by
    refine KeptC.below ?_ hbn
    repeat' (first | refine KeptC.cons ?_ ?_ | refine KeptC.consF ?_ ?_ ?_ | refine KeptC.mk0 ?_)
    all_goals (first | with_reducible assumption | (go_simp; done) | (simp; omega) | exact (by repeat (first | with_reducible refine Below.setCell ?_ (by first | (simp; done) | (simp; omega) | omega) _ | with_reducible refine Below.alloc ?_ (by first | (simp; done) | (simp; omega) | omega) _ | with_reducible refine Below.drew ?_ | with_reducible exact Below.refl _ _ | with_reducible refine Below.trans ?_ (Below.mono kb8 (by first | (simp; done) | (simp; omega) | omega)))))
  clear hbn; clear kb8 kc8_0 kc8_1 kc8_2 kc8_3 kc8_4 kc8_5 kc8_6 kc8_7
  simp only [KeptC, List.forall_mem_cons] at hk; obtain ⟨kb9, ⟨kc9_0, kc9_1, kc9_2, kc9_3, kc9_4, kc9_5, _⟩, _⟩ := hk; have ks9 : w.heap.size ≤ w9.heap.size := kb9.size; have ky9_0 : w.heap.size < w9.heap.size := cell_lt (a := ⟨w.heap.size, 0, none⟩) (by with_reducible assumption); have ky9_1 : w.heap.size + 1 < w9.heap.size := cell_lt (a := ⟨w.heap.size + 1, 0, none⟩) (by with_reducible assumption); have ky9_2 : w.heap.size + 1 + 1 < w9.heap.size := cell_lt (a := ⟨w.heap.size + 1 + 1, 0, none⟩) (by with_reducible assumption)
  go_wp2_with (fail)
  refine (CT.out _).mono ?_; rintro e w10 ⟨rfl, hbn⟩
  have hk : KeptC w [(⟨w.heap.size, 0, none⟩, .int .u64 a1), (⟨w.heap.size, 1, none⟩, .int .u64 a2)] [] w10 := by
    refine KeptC.below ?_ hbn
    repeat' (first | refine KeptC.cons ?_ ?_ | refine KeptC.consF ?_ ?_ ?_ | refine KeptC.mk0 ?_)
    all_goals (first | with_reducible assumption | (go_simp; done) | (simp; omega) | exact (by repeat (first | with_reducible refine Below.setCell ?_ (by first | (simp; done) | (simp; omega) | omega) _ | with_reducible refine Below.alloc ?_ (by first | (simp; done) | (simp; omega) | omega) _ | with_reducible refine Below.drew ?_ | with_reducible exact Below.refl _ _ | with_reducible refine Below.trans ?_ (Below.mono kb9 (by first | (simp; done) | (simp; omega) | omega)))))
  clear hbn; clear kb9 kc9_0 kc9_1 kc9_2 kc9_3 kc9_4 kc9_5
  simp only [KeptC, List.forall_mem_cons] at hk; obtain ⟨kb10, ⟨kc10_0, kc10_1, _⟩, _⟩ := hk; have ks10 : w.heap.size ≤ w10.heap.size := kb10.size; have ky10_0 : w.heap.size < w10.heap.size := cell_lt (a := ⟨w.heap.size, 0, none⟩) (by with_reducible assumption)
  go_wp2_with (fail)
  refine (CR.out _).mono ?_; rintro e w11 ⟨rfl, hbn⟩
  have hk : KeptC w [(⟨w.heap.size, 0, none⟩, .int .u64 a1), (⟨w.heap.size, 1, none⟩, .int .u64 a2)] [] w11 := by
    refine KeptC.below ?_ hbn
    repeat' (first | refine KeptC.cons ?_ ?_ | refine KeptC.consF ?_ ?_ ?_ | refine KeptC.mk0 ?_)
    all_goals (first | with_reducible assumption | (go_simp; done) | (simp; omega) | exact (by repeat (first | with_reducible refine Below.setCell ?_ (by first | (simp; done) | (simp; omega) | omega) _ | with_reducible refine Below.alloc ?_ (by first | (simp; done) | (simp; omega) | omega) _ | with_reducible refine Below.drew ?_ | with_reducible exact Below.refl _ _ | with_reducible refine Below.trans ?_ (Below.mono kb10 (by first | (simp; done) | (simp; omega) | omega)))))
  clear hbn; clear kb10 kc10_0 kc10_1
  simp only [KeptC, List.forall_mem_cons] at hk; obtain ⟨kb11, ⟨kc11_0, kc11_1, _⟩, _⟩ := hk; have ks11 : w.heap.size ≤ w11.heap.size := kb11.size; have ky11_0 : w.heap.size < w11.heap.size := cell_lt (a := ⟨w.heap.size, 0, none⟩) (by with_reducible assumption)
  go_wp2_with (fail)
  refine (awake_any _).mono ?_; rintro e w12 ⟨rfl, hbn⟩
  have hk : KeptC w [] [] w12 := by
    refine KeptC.below ?_ hbn
    repeat' (first | refine KeptC.cons ?_ ?_ | refine KeptC.consF ?_ ?_ ?_ | refine KeptC.mk0 ?_)
    all_goals (first | with_reducible assumption | (go_simp; done) | (simp; omega) | exact (by repeat (first | with_reducible refine Below.setCell ?_ (by first | (simp; done) | (simp; omega) | omega) _ | with_reducible refine Below.alloc ?_ (by first | (simp; done) | (simp; omega) | omega) _ | with_reducible refine Below.drew ?_ | with_reducible exact Below.refl _ _ | with_reducible refine Below.trans ?_ (Below.mono kb11 (by first | (simp; done) | (simp; omega) | omega)))))
  clear hbn; clear kb11 kc11_0 kc11_1
  simp only [KeptC, List.forall_mem_cons] at hk; obtain ⟨kb12, _, _⟩ := hk; have ks12 : w.heap.size ≤ w12.heap.size := kb12.size
  go_wp2
  go_ret
  exact ⟨rfl, kb12⟩
set_option maxRecDepth 100000 in
set_option maxHeartbeats 8000000 in
theorem orders_lt2_f (a1 a2 b1 b2 c1 c2 s1 s2 : Int) (str : ByteArray) (LAB : Hid (∀ w, Calls Try.prog 29 #[.agg #[.int .u64 a1, .int .u64 a2], .agg #[.int .u64 b1, .int .u64 b2]] w fun e w' => e = .returned (.bool true) ∧ Below w.heap.size w w'))
    (LBA : Hid (∀ w, Calls Try.prog 29 #[.agg #[.int .u64 b1, .int .u64 b2], .agg #[.int .u64 a1, .int .u64 a2]] w fun e w' => e = .returned (.bool false) ∧ Below w.heap.size w w'))
    (LBC : Hid (∀ w, Calls Try.prog 29 #[.agg #[.int .u64 b1, .int .u64 b2], .agg #[.int .u64 c1, .int .u64 c2]] w fun e w' => e = .returned (.bool false) ∧ Below w.heap.size w w'))
    (CP : Hid (∀ w, Calls Try.prog 24 #[.agg #[.int .u64 a1, .int .u64 a2], .agg #[.int .u64 b1, .int .u64 b2]] w fun e w' => e = .returned (.tuple #[.agg #[.int .u64 s1, .int .u64 s2], .bool false]) ∧ Below w.heap.size w w'))
    (CQ : Hid (∀ w, Calls Try.prog 24 #[.agg #[.int .u64 b1, .int .u64 b2], .agg #[.int .u64 a1, .int .u64 a2]] w fun e w' => e = .returned (.tuple #[.agg #[.int .u64 s1, .int .u64 s2], .bool false]) ∧ Below w.heap.size w w'))
    (CT : Hid (∀ w, Calls Try.prog 33 #[.agg #[.int .u64 a1, .int .u64 a2]] w fun e w' => e = .returned (.string str) ∧ Below w.heap.size w w'))
    (CR : Hid (∀ w, Calls Try.prog 10 #[.string str] w fun e w' => e = .returned (.tuple #[.agg #[.int .u64 a1, .int .u64 a2], .int .i64 0]) ∧ Below w.heap.size w w')) (w : World) :
    Calls Try.prog 9 #[.agg #[.int .u64 a1, .int .u64 a2], .agg #[.int .u64 b1, .int .u64 b2], .agg #[.int .u64 c1, .int .u64 c2]] w fun e w' => e = .returned (.bool true) ∧ Below w.heap.size w w' := by
  go_enter Try.func9, Try.ntmps9
  go_wp2_with (fail)
  refine (LAB.out _).mono ?_; rintro e w1 ⟨rfl, hbn⟩
  have hk : KeptC w [(⟨w.heap.size, 0, none⟩, .int .u64 a1), (⟨w.heap.size, 1, none⟩, .int .u64 a2), (⟨w.heap.size + 1, 0, none⟩, .int .u64 b1), (⟨w.heap.size + 1, 1, none⟩, .int .u64 b2), (⟨w.heap.size + 1 + 1, 0, none⟩, .int .u64 c1), (⟨w.heap.size + 1 + 1, 1, none⟩, .int .u64 c2)] [] w1 := by
    refine KeptC.below ?_ hbn
    repeat' (first | refine KeptC.cons ?_ ?_ | refine KeptC.consF ?_ ?_ ?_ | refine KeptC.mk0 ?_)
    all_goals (first | with_reducible assumption | (go_simp; done) | (simp; omega) | exact (by repeat (first | with_reducible refine Below.setCell ?_ (by first | (simp; done) | (simp; omega) | omega) _ | with_reducible refine Below.alloc ?_ (by first | (simp; done) | (simp; omega) | omega) _ | with_reducible refine Below.drew ?_ | with_reducible exact Below.refl _ _)))
  clear hbn
  simp only [KeptC, List.forall_mem_cons] at hk; obtain ⟨kb1, ⟨kc1_0, kc1_1, kc1_2, kc1_3, kc1_4, kc1_5, _⟩, _⟩ := hk; have ks1 : w.heap.size ≤ w1.heap.size := kb1.size; have ky1_0 : w.heap.size < w1.heap.size := cell_lt (a := ⟨w.heap.size, 0, none⟩) (by with_reducible assumption); have ky1_1 : w.heap.size + 1 < w1.heap.size := cell_lt (a := ⟨w.heap.size + 1, 0, none⟩) (by with_reducible assumption); have ky1_2 : w.heap.size + 1 + 1 < w1.heap.size := cell_lt (a := ⟨w.heap.size + 1 + 1, 0, none⟩) (by with_reducible assumption)
  go_wp2_with (fail)
  refine (LBA.out _).mono ?_; rintro e w2 ⟨rfl, hbn⟩
  have hk : KeptC w [(⟨w.heap.size, 0, none⟩, .int .u64 a1), (⟨w.heap.size, 1, none⟩, .int .u64 a2), (⟨w.heap.size + 1, 0, none⟩, .int .u64 b1), (⟨w.heap.size + 1, 1, none⟩, .int .u64 b2), (⟨w.heap.size + 1 + 1, 0, none⟩, .int .u64 c1), (⟨w.heap.size + 1 + 1, 1, none⟩, .int .u64 c2)] [] w2 := by
    refine KeptC.below ?_ hbn
    repeat' (first | refine KeptC.cons ?_ ?_ | refine KeptC.consF ?_ ?_ ?_ | refine KeptC.mk0 ?_)
    all_goals (first | with_reducible assumption | (go_simp; done) | (simp; omega) | exact (by repeat (first | with_reducible refine Below.setCell ?_ (by first | (simp; done) | (simp; omega) | omega) _ | with_reducible refine Below.alloc ?_ (by first | (simp; done) | (simp; omega) | omega) _ | with_reducible refine Below.drew ?_ | with_reducible exact Below.refl _ _ | with_reducible refine Below.trans ?_ (Below.mono kb1 (by first | (simp; done) | (simp; omega) | omega)))))
  clear hbn; clear kb1 kc1_0 kc1_1 kc1_2 kc1_3 kc1_4 kc1_5
  simp only [KeptC, List.forall_mem_cons] at hk; obtain ⟨kb2, ⟨kc2_0, kc2_1, kc2_2, kc2_3, kc2_4, kc2_5, _⟩, _⟩ := hk; have ks2 : w.heap.size ≤ w2.heap.size := kb2.size; have ky2_0 : w.heap.size < w2.heap.size := cell_lt (a := ⟨w.heap.size, 0, none⟩) (by with_reducible assumption); have ky2_1 : w.heap.size + 1 < w2.heap.size := cell_lt (a := ⟨w.heap.size + 1, 0, none⟩) (by with_reducible assumption); have ky2_2 : w.heap.size + 1 + 1 < w2.heap.size := cell_lt (a := ⟨w.heap.size + 1 + 1, 0, none⟩) (by with_reducible assumption)
  go_wp2_with (fail)
  refine (LAB.out _).mono ?_; rintro e w3 ⟨rfl, hbn⟩
  have hk : KeptC w [(⟨w.heap.size, 0, none⟩, .int .u64 a1), (⟨w.heap.size, 1, none⟩, .int .u64 a2), (⟨w.heap.size + 1, 0, none⟩, .int .u64 b1), (⟨w.heap.size + 1, 1, none⟩, .int .u64 b2), (⟨w.heap.size + 1 + 1, 0, none⟩, .int .u64 c1), (⟨w.heap.size + 1 + 1, 1, none⟩, .int .u64 c2)] [] w3 := by
    refine KeptC.below ?_ hbn
    repeat' (first | refine KeptC.cons ?_ ?_ | refine KeptC.consF ?_ ?_ ?_ | refine KeptC.mk0 ?_)
    all_goals (first | with_reducible assumption | (go_simp; done) | (simp; omega) | exact (by repeat (first | with_reducible refine Below.setCell ?_ (by first | (simp; done) | (simp; omega) | omega) _ | with_reducible refine Below.alloc ?_ (by first | (simp; done) | (simp; omega) | omega) _ | with_reducible refine Below.drew ?_ | with_reducible exact Below.refl _ _ | with_reducible refine Below.trans ?_ (Below.mono kb2 (by first | (simp; done) | (simp; omega) | omega)))))
  clear hbn; clear kb2 kc2_0 kc2_1 kc2_2 kc2_3 kc2_4 kc2_5
  simp only [KeptC, List.forall_mem_cons] at hk; obtain ⟨kb3, ⟨kc3_0, kc3_1, kc3_2, kc3_3, kc3_4, kc3_5, _⟩, _⟩ := hk; have ks3 : w.heap.size ≤ w3.heap.size := kb3.size; have ky3_0 : w.heap.size < w3.heap.size := cell_lt (a := ⟨w.heap.size, 0, none⟩) (by with_reducible assumption); have ky3_1 : w.heap.size + 1 < w3.heap.size := cell_lt (a := ⟨w.heap.size + 1, 0, none⟩) (by with_reducible assumption); have ky3_2 : w.heap.size + 1 + 1 < w3.heap.size := cell_lt (a := ⟨w.heap.size + 1 + 1, 0, none⟩) (by with_reducible assumption)
  go_wp2_with (fail)
  refine (LAB.out _).mono ?_; rintro e w4 ⟨rfl, hbn⟩
  have hk : KeptC w [(⟨w.heap.size, 0, none⟩, .int .u64 a1), (⟨w.heap.size, 1, none⟩, .int .u64 a2), (⟨w.heap.size + 1, 0, none⟩, .int .u64 b1), (⟨w.heap.size + 1, 1, none⟩, .int .u64 b2), (⟨w.heap.size + 1 + 1, 0, none⟩, .int .u64 c1), (⟨w.heap.size + 1 + 1, 1, none⟩, .int .u64 c2)] [] w4 := by
    refine KeptC.below ?_ hbn
    repeat' (first | refine KeptC.cons ?_ ?_ | refine KeptC.consF ?_ ?_ ?_ | refine KeptC.mk0 ?_)
    all_goals (first | with_reducible assumption | (go_simp; done) | (simp; omega) | exact (by repeat (first | with_reducible refine Below.setCell ?_ (by first | (simp; done) | (simp; omega) | omega) _ | with_reducible refine Below.alloc ?_ (by first | (simp; done) | (simp; omega) | omega) _ | with_reducible refine Below.drew ?_ | with_reducible exact Below.refl _ _ | with_reducible refine Below.trans ?_ (Below.mono kb3 (by first | (simp; done) | (simp; omega) | omega)))))
  clear hbn; clear kb3 kc3_0 kc3_1 kc3_2 kc3_3 kc3_4 kc3_5
  simp only [KeptC, List.forall_mem_cons] at hk; obtain ⟨kb4, ⟨kc4_0, kc4_1, kc4_2, kc4_3, kc4_4, kc4_5, _⟩, _⟩ := hk; have ks4 : w.heap.size ≤ w4.heap.size := kb4.size; have ky4_0 : w.heap.size < w4.heap.size := cell_lt (a := ⟨w.heap.size, 0, none⟩) (by with_reducible assumption); have ky4_1 : w.heap.size + 1 < w4.heap.size := cell_lt (a := ⟨w.heap.size + 1, 0, none⟩) (by with_reducible assumption); have ky4_2 : w.heap.size + 1 + 1 < w4.heap.size := cell_lt (a := ⟨w.heap.size + 1 + 1, 0, none⟩) (by with_reducible assumption)
  go_wp2_with (fail)
  refine (LBC.out _).mono ?_; rintro e w5 ⟨rfl, hbn⟩
  have hk : KeptC w [(⟨w.heap.size, 0, none⟩, .int .u64 a1), (⟨w.heap.size, 1, none⟩, .int .u64 a2), (⟨w.heap.size + 1, 0, none⟩, .int .u64 b1), (⟨w.heap.size + 1, 1, none⟩, .int .u64 b2), (⟨w.heap.size + 1 + 1, 0, none⟩, .int .u64 c1), (⟨w.heap.size + 1 + 1, 1, none⟩, .int .u64 c2)] [] w5 := by
    refine KeptC.below ?_ hbn
    repeat' (first | refine KeptC.cons ?_ ?_ | refine KeptC.consF ?_ ?_ ?_ | refine KeptC.mk0 ?_)
    all_goals (first | with_reducible assumption | (go_simp; done) | (simp; omega) | exact (by repeat (first | with_reducible refine Below.setCell ?_ (by first | (simp; done) | (simp; omega) | omega) _ | with_reducible refine Below.alloc ?_ (by first | (simp; done) | (simp; omega) | omega) _ | with_reducible refine Below.drew ?_ | with_reducible exact Below.refl _ _ | with_reducible refine Below.trans ?_ (Below.mono kb4 (by first | (simp; done) | (simp; omega) | omega)))))
  clear hbn; clear kb4 kc4_0 kc4_1 kc4_2 kc4_3 kc4_4 kc4_5
  simp only [KeptC, List.forall_mem_cons] at hk; obtain ⟨kb5, ⟨kc5_0, kc5_1, kc5_2, kc5_3, kc5_4, kc5_5, _⟩, _⟩ := hk; have ks5 : w.heap.size ≤ w5.heap.size := kb5.size; have ky5_0 : w.heap.size < w5.heap.size := cell_lt (a := ⟨w.heap.size, 0, none⟩) (by with_reducible assumption); have ky5_1 : w.heap.size + 1 < w5.heap.size := cell_lt (a := ⟨w.heap.size + 1, 0, none⟩) (by with_reducible assumption); have ky5_2 : w.heap.size + 1 + 1 < w5.heap.size := cell_lt (a := ⟨w.heap.size + 1 + 1, 0, none⟩) (by with_reducible assumption)
  go_wp2_with (fail)
  refine (CP.out _).mono ?_; rintro e w6 ⟨rfl, hbn⟩
  have hk : KeptC w [(⟨w.heap.size, 0, none⟩, .int .u64 a1), (⟨w.heap.size, 1, none⟩, .int .u64 a2), (⟨w.heap.size + 1, 0, none⟩, .int .u64 b1), (⟨w.heap.size + 1, 1, none⟩, .int .u64 b2), (⟨w.heap.size + 1 + 1, 0, none⟩, .int .u64 c1), (⟨w.heap.size + 1 + 1, 1, none⟩, .int .u64 c2)] [] w6 := by
    refine KeptC.below ?_ hbn
    repeat' (first | refine KeptC.cons ?_ ?_ | refine KeptC.consF ?_ ?_ ?_ | refine KeptC.mk0 ?_)
    all_goals (first | with_reducible assumption | (go_simp; done) | (simp; omega) | exact (by repeat (first | with_reducible refine Below.setCell ?_ (by first | (simp; done) | (simp; omega) | omega) _ | with_reducible refine Below.alloc ?_ (by first | (simp; done) | (simp; omega) | omega) _ | with_reducible refine Below.drew ?_ | with_reducible exact Below.refl _ _ | with_reducible refine Below.trans ?_ (Below.mono kb5 (by first | (simp; done) | (simp; omega) | omega)))))
  clear hbn; clear kb5 kc5_0 kc5_1 kc5_2 kc5_3 kc5_4 kc5_5
  simp only [KeptC, List.forall_mem_cons] at hk; obtain ⟨kb6, ⟨kc6_0, kc6_1, kc6_2, kc6_3, kc6_4, kc6_5, _⟩, _⟩ := hk; have ks6 : w.heap.size ≤ w6.heap.size := kb6.size; have ky6_0 : w.heap.size < w6.heap.size := cell_lt (a := ⟨w.heap.size, 0, none⟩) (by with_reducible assumption); have ky6_1 : w.heap.size + 1 < w6.heap.size := cell_lt (a := ⟨w.heap.size + 1, 0, none⟩) (by with_reducible assumption); have ky6_2 : w.heap.size + 1 + 1 < w6.heap.size := cell_lt (a := ⟨w.heap.size + 1 + 1, 0, none⟩) (by with_reducible assumption)
  go_wp2_with (fail)
  refine (CQ.out _).mono ?_; rintro e w7 ⟨rfl, hbn⟩
  have hk : KeptC w [(⟨w.heap.size, 0, none⟩, .int .u64 a1), (⟨w.heap.size, 1, none⟩, .int .u64 a2), (⟨w.heap.size + 1, 0, none⟩, .int .u64 b1), (⟨w.heap.size + 1, 1, none⟩, .int .u64 b2), (⟨w.heap.size + 1 + 1, 0, none⟩, .int .u64 c1), (⟨w.heap.size + 1 + 1, 1, none⟩, .int .u64 c2), (⟨w6.heap.size, 0, none⟩, .int .u64 s1), (⟨w6.heap.size, 1, none⟩, .int .u64 s2)] [] w7 := by
    refine KeptC.below ?_ hbn
    repeat' (first | refine KeptC.cons ?_ ?_ | refine KeptC.consF ?_ ?_ ?_ | refine KeptC.mk0 ?_)
    all_goals (first | with_reducible assumption | (go_simp; done) | (simp; omega) | exact (by repeat (first | with_reducible refine Below.setCell ?_ (by first | (simp; done) | (simp; omega) | omega) _ | with_reducible refine Below.alloc ?_ (by first | (simp; done) | (simp; omega) | omega) _ | with_reducible refine Below.drew ?_ | with_reducible exact Below.refl _ _ | with_reducible refine Below.trans ?_ (Below.mono kb6 (by first | (simp; done) | (simp; omega) | omega)))))
  clear hbn; clear kb6 kc6_0 kc6_1 kc6_2 kc6_3 kc6_4 kc6_5
  simp only [KeptC, List.forall_mem_cons] at hk; obtain ⟨kb7, ⟨kc7_0, kc7_1, kc7_2, kc7_3, kc7_4, kc7_5, kc7_6, kc7_7, _⟩, _⟩ := hk; have ks7 : w.heap.size ≤ w7.heap.size := kb7.size; have ky7_0 : w.heap.size < w7.heap.size := cell_lt (a := ⟨w.heap.size, 0, none⟩) (by with_reducible assumption); have ky7_1 : w.heap.size + 1 < w7.heap.size := cell_lt (a := ⟨w.heap.size + 1, 0, none⟩) (by with_reducible assumption); have ky7_2 : w.heap.size + 1 + 1 < w7.heap.size := cell_lt (a := ⟨w.heap.size + 1 + 1, 0, none⟩) (by with_reducible assumption); have ky7_3 : w6.heap.size < w7.heap.size := cell_lt (a := ⟨w6.heap.size, 0, none⟩) (by with_reducible assumption)
  go_wp2_with (fail)
  refine (CT.out _).mono ?_; rintro e w8 ⟨rfl, hbn⟩
  have hk : KeptC w [(⟨w.heap.size, 0, none⟩, .int .u64 a1), (⟨w.heap.size, 1, none⟩, .int .u64 a2)] [] w8 := by
    refine KeptC.below ?_ hbn
    repeat' (first | refine KeptC.cons ?_ ?_ | refine KeptC.consF ?_ ?_ ?_ | refine KeptC.mk0 ?_)
    all_goals (first | with_reducible assumption | (go_simp; done) | (simp; omega) | exact (by repeat (first | with_reducible refine Below.setCell ?_ (by first | (simp; done) | (simp; omega) | omega) _ | with_reducible refine Below.alloc ?_ (by first | (simp; done) | (simp; omega) | omega) _ | with_reducible refine Below.drew ?_ | with_reducible exact Below.refl _ _ | with_reducible refine Below.trans ?_ (Below.mono kb7 (by first | (simp; done) | (simp; omega) | omega)))))
  clear hbn; clear kb7 kc7_0 kc7_1 kc7_2 kc7_3 kc7_4 kc7_5 kc7_6 kc7_7
  simp only [KeptC, List.forall_mem_cons] at hk; obtain ⟨kb8, ⟨kc8_0, kc8_1, _⟩, _⟩ := hk; have ks8 : w.heap.size ≤ w8.heap.size := kb8.size; have ky8_0 : w.heap.size < w8.heap.size := cell_lt (a := ⟨w.heap.size, 0, none⟩) (by with_reducible assumption)
  go_wp2_with (fail)
  refine (CR.out _).mono ?_; rintro e w9 ⟨rfl, hbn⟩
  have hk : KeptC w [(⟨w.heap.size, 0, none⟩, .int .u64 a1), (⟨w.heap.size, 1, none⟩, .int .u64 a2)] [] w9 := by
    refine KeptC.below ?_ hbn
    repeat' (first | refine KeptC.cons ?_ ?_ | refine KeptC.consF ?_ ?_ ?_ | refine KeptC.mk0 ?_)
    all_goals (first | with_reducible assumption | (go_simp; done) | (simp; omega) | exact (by repeat (first | with_reducible refine Below.setCell ?_ (by first | (simp; done) | (simp; omega) | omega) _ | with_reducible refine Below.alloc ?_ (by first | (simp; done) | (simp; omega) | omega) _ | with_reducible refine Below.drew ?_ | with_reducible exact Below.refl _ _ | with_reducible refine Below.trans ?_ (Below.mono kb8 (by first | (simp; done) | (simp; omega) | omega)))))
  clear hbn; clear kb8 kc8_0 kc8_1
  simp only [KeptC, List.forall_mem_cons] at hk; obtain ⟨kb9, ⟨kc9_0, kc9_1, _⟩, _⟩ := hk; have ks9 : w.heap.size ≤ w9.heap.size := kb9.size; have ky9_0 : w.heap.size < w9.heap.size := cell_lt (a := ⟨w.heap.size, 0, none⟩) (by with_reducible assumption)
  go_wp2_with (fail)
  refine (awake_any _).mono ?_; rintro e w10 ⟨rfl, hbn⟩
  have hk : KeptC w [] [] w10 := by
    refine KeptC.below ?_ hbn
    repeat' (first | refine KeptC.cons ?_ ?_ | refine KeptC.consF ?_ ?_ ?_ | refine KeptC.mk0 ?_)
    all_goals (first | with_reducible assumption | (go_simp; done) | (simp; omega) | exact (by repeat (first | with_reducible refine Below.setCell ?_ (by first | (simp; done) | (simp; omega) | omega) _ | with_reducible refine Below.alloc ?_ (by first | (simp; done) | (simp; omega) | omega) _ | with_reducible refine Below.drew ?_ | with_reducible exact Below.refl _ _ | with_reducible refine Below.trans ?_ (Below.mono kb9 (by first | (simp; done) | (simp; omega) | omega)))))
  clear hbn; clear kb9 kc9_0 kc9_1
  simp only [KeptC, List.forall_mem_cons] at hk; obtain ⟨kb10, _, _⟩ := hk; have ks10 : w.heap.size ≤ w10.heap.size := kb10.size
  go_wp2
  go_ret
  exact ⟨rfl, kb10⟩
set_option maxRecDepth 100000 in
set_option maxHeartbeats 8000000 in
theorem orders_lt2_t (a1 a2 b1 b2 c1 c2 s1 s2 : Int) (str : ByteArray) (LAB : Hid (∀ w, Calls Try.prog 29 #[.agg #[.int .u64 a1, .int .u64 a2], .agg #[.int .u64 b1, .int .u64 b2]] w fun e w' => e = .returned (.bool true) ∧ Below w.heap.size w w'))
    (LBA : Hid (∀ w, Calls Try.prog 29 #[.agg #[.int .u64 b1, .int .u64 b2], .agg #[.int .u64 a1, .int .u64 a2]] w fun e w' => e = .returned (.bool false) ∧ Below w.heap.size w w'))
    (LBC : Hid (∀ w, Calls Try.prog 29 #[.agg #[.int .u64 b1, .int .u64 b2], .agg #[.int .u64 c1, .int .u64 c2]] w fun e w' => e = .returned (.bool false) ∧ Below w.heap.size w w'))
    (CP : Hid (∀ w, Calls Try.prog 24 #[.agg #[.int .u64 a1, .int .u64 a2], .agg #[.int .u64 b1, .int .u64 b2]] w fun e w' => e = .returned (.tuple #[.agg #[.int .u64 s1, .int .u64 s2], .bool true]) ∧ Below w.heap.size w w'))
    (CQ : Hid (∀ w, Calls Try.prog 24 #[.agg #[.int .u64 b1, .int .u64 b2], .agg #[.int .u64 a1, .int .u64 a2]] w fun e w' => e = .returned (.tuple #[.agg #[.int .u64 s1, .int .u64 s2], .bool true]) ∧ Below w.heap.size w w'))
    (CT : Hid (∀ w, Calls Try.prog 33 #[.agg #[.int .u64 a1, .int .u64 a2]] w fun e w' => e = .returned (.string str) ∧ Below w.heap.size w w'))
    (CR : Hid (∀ w, Calls Try.prog 10 #[.string str] w fun e w' => e = .returned (.tuple #[.agg #[.int .u64 a1, .int .u64 a2], .int .i64 0]) ∧ Below w.heap.size w w'))
    (CD : Hid (∀ w, Calls Try.prog 28 #[.agg #[.int .u64 s1, .int .u64 s2], .agg #[.int .u64 b1, .int .u64 b2]] w fun e w' => e = .returned (.tuple #[.agg #[.int .u64 a1, .int .u64 a2], .bool true]) ∧ Below w.heap.size w w')) (w : World) :
    Calls Try.prog 9 #[.agg #[.int .u64 a1, .int .u64 a2], .agg #[.int .u64 b1, .int .u64 b2], .agg #[.int .u64 c1, .int .u64 c2]] w fun e w' => e = .returned (.bool true) ∧ Below w.heap.size w w' := by
  go_enter Try.func9, Try.ntmps9
  go_wp2_with (fail)
  refine (LAB.out _).mono ?_; rintro e w1 ⟨rfl, hbn⟩
  have hk : KeptC w [(⟨w.heap.size, 0, none⟩, .int .u64 a1), (⟨w.heap.size, 1, none⟩, .int .u64 a2), (⟨w.heap.size + 1, 0, none⟩, .int .u64 b1), (⟨w.heap.size + 1, 1, none⟩, .int .u64 b2), (⟨w.heap.size + 1 + 1, 0, none⟩, .int .u64 c1), (⟨w.heap.size + 1 + 1, 1, none⟩, .int .u64 c2)] [] w1 := by
    refine KeptC.below ?_ hbn
    repeat' (first | refine KeptC.cons ?_ ?_ | refine KeptC.consF ?_ ?_ ?_ | refine KeptC.mk0 ?_)
    all_goals (first | with_reducible assumption | (go_simp; done) | (simp; omega) | exact (by repeat (first | with_reducible refine Below.setCell ?_ (by first | (simp; done) | (simp; omega) | omega) _ | with_reducible refine Below.alloc ?_ (by first | (simp; done) | (simp; omega) | omega) _ | with_reducible refine Below.drew ?_ | with_reducible exact Below.refl _ _)))
  clear hbn
  simp only [KeptC, List.forall_mem_cons] at hk; obtain ⟨kb1, ⟨kc1_0, kc1_1, kc1_2, kc1_3, kc1_4, kc1_5, _⟩, _⟩ := hk; have ks1 : w.heap.size ≤ w1.heap.size := kb1.size; have ky1_0 : w.heap.size < w1.heap.size := cell_lt (a := ⟨w.heap.size, 0, none⟩) (by with_reducible assumption); have ky1_1 : w.heap.size + 1 < w1.heap.size := cell_lt (a := ⟨w.heap.size + 1, 0, none⟩) (by with_reducible assumption); have ky1_2 : w.heap.size + 1 + 1 < w1.heap.size := cell_lt (a := ⟨w.heap.size + 1 + 1, 0, none⟩) (by with_reducible assumption)
  go_wp2_with (fail)
  refine (LBA.out _).mono ?_; rintro e w2 ⟨rfl, hbn⟩
  have hk : KeptC w [(⟨w.heap.size, 0, none⟩, .int .u64 a1), (⟨w.heap.size, 1, none⟩, .int .u64 a2), (⟨w.heap.size + 1, 0, none⟩, .int .u64 b1), (⟨w.heap.size + 1, 1, none⟩, .int .u64 b2), (⟨w.heap.size + 1 + 1, 0, none⟩, .int .u64 c1), (⟨w.heap.size + 1 + 1, 1, none⟩, .int .u64 c2)] [] w2 := by
    refine KeptC.below ?_ hbn
    repeat' (first | refine KeptC.cons ?_ ?_ | refine KeptC.consF ?_ ?_ ?_ | refine KeptC.mk0 ?_)
    all_goals (first | with_reducible assumption | (go_simp; done) | (simp; omega) | exact (by repeat (first | with_reducible refine Below.setCell ?_ (by first | (simp; done) | (simp; omega) | omega) _ | with_reducible refine Below.alloc ?_ (by first | (simp; done) | (simp; omega) | omega) _ | with_reducible refine Below.drew ?_ | with_reducible exact Below.refl _ _ | with_reducible refine Below.trans ?_ (Below.mono kb1 (by first | (simp; done) | (simp; omega) | omega)))))
  clear hbn; clear kb1 kc1_0 kc1_1 kc1_2 kc1_3 kc1_4 kc1_5
  simp only [KeptC, List.forall_mem_cons] at hk; obtain ⟨kb2, ⟨kc2_0, kc2_1, kc2_2, kc2_3, kc2_4, kc2_5, _⟩, _⟩ := hk; have ks2 : w.heap.size ≤ w2.heap.size := kb2.size; have ky2_0 : w.heap.size < w2.heap.size := cell_lt (a := ⟨w.heap.size, 0, none⟩) (by with_reducible assumption); have ky2_1 : w.heap.size + 1 < w2.heap.size := cell_lt (a := ⟨w.heap.size + 1, 0, none⟩) (by with_reducible assumption); have ky2_2 : w.heap.size + 1 + 1 < w2.heap.size := cell_lt (a := ⟨w.heap.size + 1 + 1, 0, none⟩) (by with_reducible assumption)
  go_wp2_with (fail)
  refine (LAB.out _).mono ?_; rintro e w3 ⟨rfl, hbn⟩
  have hk : KeptC w [(⟨w.heap.size, 0, none⟩, .int .u64 a1), (⟨w.heap.size, 1, none⟩, .int .u64 a2), (⟨w.heap.size + 1, 0, none⟩, .int .u64 b1), (⟨w.heap.size + 1, 1, none⟩, .int .u64 b2), (⟨w.heap.size + 1 + 1, 0, none⟩, .int .u64 c1), (⟨w.heap.size + 1 + 1, 1, none⟩, .int .u64 c2)] [] w3 := by
    refine KeptC.below ?_ hbn
    repeat' (first | refine KeptC.cons ?_ ?_ | refine KeptC.consF ?_ ?_ ?_ | refine KeptC.mk0 ?_)
    all_goals (first | with_reducible assumption | (go_simp; done) | (simp; omega) | exact (by repeat (first | with_reducible refine Below.setCell ?_ (by first | (simp; done) | (simp; omega) | omega) _ | with_reducible refine Below.alloc ?_ (by first | (simp; done) | (simp; omega) | omega) _ | with_reducible refine Below.drew ?_ | with_reducible exact Below.refl _ _ | with_reducible refine Below.trans ?_ (Below.mono kb2 (by first | (simp; done) | (simp; omega) | omega)))))
  clear hbn; clear kb2 kc2_0 kc2_1 kc2_2 kc2_3 kc2_4 kc2_5
  simp only [KeptC, List.forall_mem_cons] at hk; obtain ⟨kb3, ⟨kc3_0, kc3_1, kc3_2, kc3_3, kc3_4, kc3_5, _⟩, _⟩ := hk; have ks3 : w.heap.size ≤ w3.heap.size := kb3.size; have ky3_0 : w.heap.size < w3.heap.size := cell_lt (a := ⟨w.heap.size, 0, none⟩) (by with_reducible assumption); have ky3_1 : w.heap.size + 1 < w3.heap.size := cell_lt (a := ⟨w.heap.size + 1, 0, none⟩) (by with_reducible assumption); have ky3_2 : w.heap.size + 1 + 1 < w3.heap.size := cell_lt (a := ⟨w.heap.size + 1 + 1, 0, none⟩) (by with_reducible assumption)
  go_wp2_with (fail)
  refine (LAB.out _).mono ?_; rintro e w4 ⟨rfl, hbn⟩
  have hk : KeptC w [(⟨w.heap.size, 0, none⟩, .int .u64 a1), (⟨w.heap.size, 1, none⟩, .int .u64 a2), (⟨w.heap.size + 1, 0, none⟩, .int .u64 b1), (⟨w.heap.size + 1, 1, none⟩, .int .u64 b2), (⟨w.heap.size + 1 + 1, 0, none⟩, .int .u64 c1), (⟨w.heap.size + 1 + 1, 1, none⟩, .int .u64 c2)] [] w4 := by
    refine KeptC.below ?_ hbn
    repeat' (first | refine KeptC.cons ?_ ?_ | refine KeptC.consF ?_ ?_ ?_ | refine KeptC.mk0 ?_)
    all_goals (first | with_reducible assumption | (go_simp; done) | (simp; omega) | exact (by repeat (first | with_reducible refine Below.setCell ?_ (by first | (simp; done) | (simp; omega) | omega) _ | with_reducible refine Below.alloc ?_ (by first | (simp; done) | (simp; omega) | omega) _ | with_reducible refine Below.drew ?_ | with_reducible exact Below.refl _ _ | with_reducible refine Below.trans ?_ (Below.mono kb3 (by first | (simp; done) | (simp; omega) | omega)))))
  clear hbn; clear kb3 kc3_0 kc3_1 kc3_2 kc3_3 kc3_4 kc3_5
  simp only [KeptC, List.forall_mem_cons] at hk; obtain ⟨kb4, ⟨kc4_0, kc4_1, kc4_2, kc4_3, kc4_4, kc4_5, _⟩, _⟩ := hk; have ks4 : w.heap.size ≤ w4.heap.size := kb4.size; have ky4_0 : w.heap.size < w4.heap.size := cell_lt (a := ⟨w.heap.size, 0, none⟩) (by with_reducible assumption); have ky4_1 : w.heap.size + 1 < w4.heap.size := cell_lt (a := ⟨w.heap.size + 1, 0, none⟩) (by with_reducible assumption); have ky4_2 : w.heap.size + 1 + 1 < w4.heap.size := cell_lt (a := ⟨w.heap.size + 1 + 1, 0, none⟩) (by with_reducible assumption)
  go_wp2_with (fail)
  refine (LBC.out _).mono ?_; rintro e w5 ⟨rfl, hbn⟩
  have hk : KeptC w [(⟨w.heap.size, 0, none⟩, .int .u64 a1), (⟨w.heap.size, 1, none⟩, .int .u64 a2), (⟨w.heap.size + 1, 0, none⟩, .int .u64 b1), (⟨w.heap.size + 1, 1, none⟩, .int .u64 b2), (⟨w.heap.size + 1 + 1, 0, none⟩, .int .u64 c1), (⟨w.heap.size + 1 + 1, 1, none⟩, .int .u64 c2)] [] w5 := by
    refine KeptC.below ?_ hbn
    repeat' (first | refine KeptC.cons ?_ ?_ | refine KeptC.consF ?_ ?_ ?_ | refine KeptC.mk0 ?_)
    all_goals (first | with_reducible assumption | (go_simp; done) | (simp; omega) | exact (by repeat (first | with_reducible refine Below.setCell ?_ (by first | (simp; done) | (simp; omega) | omega) _ | with_reducible refine Below.alloc ?_ (by first | (simp; done) | (simp; omega) | omega) _ | with_reducible refine Below.drew ?_ | with_reducible exact Below.refl _ _ | with_reducible refine Below.trans ?_ (Below.mono kb4 (by first | (simp; done) | (simp; omega) | omega)))))
  clear hbn; clear kb4 kc4_0 kc4_1 kc4_2 kc4_3 kc4_4 kc4_5
  simp only [KeptC, List.forall_mem_cons] at hk; obtain ⟨kb5, ⟨kc5_0, kc5_1, kc5_2, kc5_3, kc5_4, kc5_5, _⟩, _⟩ := hk; have ks5 : w.heap.size ≤ w5.heap.size := kb5.size; have ky5_0 : w.heap.size < w5.heap.size := cell_lt (a := ⟨w.heap.size, 0, none⟩) (by with_reducible assumption); have ky5_1 : w.heap.size + 1 < w5.heap.size := cell_lt (a := ⟨w.heap.size + 1, 0, none⟩) (by with_reducible assumption); have ky5_2 : w.heap.size + 1 + 1 < w5.heap.size := cell_lt (a := ⟨w.heap.size + 1 + 1, 0, none⟩) (by with_reducible assumption)
  go_wp2_with (fail)
  refine (CP.out _).mono ?_; rintro e w6 ⟨rfl, hbn⟩
  have hk : KeptC w [(⟨w.heap.size, 0, none⟩, .int .u64 a1), (⟨w.heap.size, 1, none⟩, .int .u64 a2), (⟨w.heap.size + 1, 0, none⟩, .int .u64 b1), (⟨w.heap.size + 1, 1, none⟩, .int .u64 b2), (⟨w.heap.size + 1 + 1, 0, none⟩, .int .u64 c1), (⟨w.heap.size + 1 + 1, 1, none⟩, .int .u64 c2)] [] w6 := by
    refine KeptC.below ?_ hbn
    repeat' (first | refine KeptC.cons ?_ ?_ | refine KeptC.consF ?_ ?_ ?_ | refine KeptC.mk0 ?_)
    all_goals (first | with_reducible assumption | (go_simp; done) | (simp; omega) | exact (by repeat (first | with_reducible refine Below.setCell ?_ (by first | (simp; done) | (simp; omega) | omega) _ | with_reducible refine Below.alloc ?_ (by first | (simp; done) | (simp; omega) | omega) _ | with_reducible refine Below.drew ?_ | with_reducible exact Below.refl _ _ | with_reducible refine Below.trans ?_ (Below.mono kb5 (by first | (simp; done) | (simp; omega) | omega)))))
  clear hbn; clear kb5 kc5_0 kc5_1 kc5_2 kc5_3 kc5_4 kc5_5
  simp only [KeptC, List.forall_mem_cons] at hk; obtain ⟨kb6, ⟨kc6_0, kc6_1, kc6_2, kc6_3, kc6_4, kc6_5, _⟩, _⟩ := hk; have ks6 : w.heap.size ≤ w6.heap.size := kb6.size; have ky6_0 : w.heap.size < w6.heap.size := cell_lt (a := ⟨w.heap.size, 0, none⟩) (by with_reducible assumption); have ky6_1 : w.heap.size + 1 < w6.heap.size := cell_lt (a := ⟨w.heap.size + 1, 0, none⟩) (by with_reducible assumption); have ky6_2 : w.heap.size + 1 + 1 < w6.heap.size := cell_lt (a := ⟨w.heap.size + 1 + 1, 0, none⟩) (by with_reducible assumption)
  go_wp2_with (fail)
  refine (CQ.out _).mono ?_; rintro e w7 ⟨rfl, hbn⟩
  have hk : KeptC w [(⟨w.heap.size, 0, none⟩, .int .u64 a1), (⟨w.heap.size, 1, none⟩, .int .u64 a2), (⟨w.heap.size + 1, 0, none⟩, .int .u64 b1), (⟨w.heap.size + 1, 1, none⟩, .int .u64 b2), (⟨w.heap.size + 1 + 1, 0, none⟩, .int .u64 c1), (⟨w.heap.size + 1 + 1, 1, none⟩, .int .u64 c2), (⟨w6.heap.size, 0, none⟩, .int .u64 s1), (⟨w6.heap.size, 1, none⟩, .int .u64 s2)] [] w7 := by
    refine KeptC.below ?_ hbn
    repeat' (first | refine KeptC.cons ?_ ?_ | refine KeptC.consF ?_ ?_ ?_ | refine KeptC.mk0 ?_)
    all_goals (first | with_reducible assumption | (go_simp; done) | (simp; omega) | exact (by repeat (first | with_reducible refine Below.setCell ?_ (by first | (simp; done) | (simp; omega) | omega) _ | with_reducible refine Below.alloc ?_ (by first | (simp; done) | (simp; omega) | omega) _ | with_reducible refine Below.drew ?_ | with_reducible exact Below.refl _ _ | with_reducible refine Below.trans ?_ (Below.mono kb6 (by first | (simp; done) | (simp; omega) | omega)))))
  clear hbn; clear kb6 kc6_0 kc6_1 kc6_2 kc6_3 kc6_4 kc6_5
  simp only [KeptC, List.forall_mem_cons] at hk; obtain ⟨kb7, ⟨kc7_0, kc7_1, kc7_2, kc7_3, kc7_4, kc7_5, kc7_6, kc7_7, _⟩, _⟩ := hk; have ks7 : w.heap.size ≤ w7.heap.size := kb7.size; have ky7_0 : w.heap.size < w7.heap.size := cell_lt (a := ⟨w.heap.size, 0, none⟩) (by with_reducible assumption); have ky7_1 : w.heap.size + 1 < w7.heap.size := cell_lt (a := ⟨w.heap.size + 1, 0, none⟩) (by with_reducible assumption); have ky7_2 : w.heap.size + 1 + 1 < w7.heap.size := cell_lt (a := ⟨w.heap.size + 1 + 1, 0, none⟩) (by with_reducible assumption); have ky7_3 : w6.heap.size < w7.heap.size := cell_lt (a := ⟨w6.heap.size, 0, none⟩) (by with_reducible assumption)
  go_wp2_with (fail)
  refine (CD.out _).mono ?_; rintro e w8 ⟨rfl, hbn⟩
  have hk : KeptC w [(⟨w.heap.size, 0, none⟩, .int .u64 a1), (⟨w.heap.size, 1, none⟩, .int .u64 a2), (⟨w.heap.size + 1, 0, none⟩, .int .u64 b1), (⟨w.heap.size + 1, 1, none⟩, .int .u64 b2), (⟨w.heap.size + 1 + 1, 0, none⟩, .int .u64 c1), (⟨w.heap.size + 1 + 1, 1, none⟩, .int .u64 c2)] [] w8 := by
    refine KeptC.below ?_ hbn
    repeat' (first | refine KeptC.cons ?_ ?_ | refine KeptC.consF ?_ ?_ ?_ | refine KeptC.mk0 ?_)
    all_goals (first | with_reducible assumption | (go_simp; done) | (simp; omega) | exact (by repeat (first | with_reducible refine Below.setCell ?_ (by first | (simp; done) | (simp; omega) | omega) _ | with_reducible refine Below.alloc ?_ (by first | (simp; done) | (simp; omega) | omega) _ | with_reducible refine Below.drew ?_ | with_reducible exact Below.refl _ _ | with_reducible refine Below.trans ?_ (Below.mono kb7 (by first | (simp; done) | (simp; omega) | omega)))))
  clear hbn; clear kb7 kc7_0 kc7_1 kc7_2 kc7_3 kc7_4 kc7_5 kc7_6 kc7_7
  simp only [KeptC, List.forall_mem_cons] at hk; obtain ⟨kb8, ⟨kc8_0, kc8_1, kc8_2, kc8_3, kc8_4, kc8_5, _⟩, _⟩ := hk; have ks8 : w.heap.size ≤ w8.heap.size := kb8.size; have ky8_0 : w.heap.size < w8.heap.size := cell_lt (a := ⟨w.heap.size, 0, none⟩) (by with_reducible assumption); have ky8_1 : w.heap.size + 1 < w8.heap.size := cell_lt (a := ⟨w.heap.size + 1, 0, none⟩) (by with_reducible assumption); have ky8_2 : w.heap.size + 1 + 1 < w8.heap.size := cell_lt (a := ⟨w.heap.size + 1 + 1, 0, none⟩) (by with_reducible assumption)
  go_wp2_with (fail)
  refine (CT.out _).mono ?_; rintro e w9 ⟨rfl, hbn⟩
  have hk : KeptC w [(⟨w.heap.size, 0, none⟩, .int .u64 a1), (⟨w.heap.size, 1, none⟩, .int .u64 a2)] [] w9 := by
    refine KeptC.below ?_ hbn
    repeat' (first | refine KeptC.cons ?_ ?_ | refine KeptC.consF ?_ ?_ ?_ | refine KeptC.mk0 ?_)
    all_goals (first | with_reducible assumption | (go_simp; done) | (simp; omega) | exact (by repeat (first | with_reducible refine Below.setCell ?_ (by first | (simp; done) | (simp; omega) | omega) _ | with_reducible refine Below.alloc ?_ (by first | (simp; done) | (simp; omega) | omega) _ | with_reducible refine Below.drew ?_ | with_reducible exact Below.refl _ _ | with_reducible refine Below.trans ?_ (Below.mono kb8 (by first | (simp; done) | (simp; omega) | omega)))))
  clear hbn; clear kb8 kc8_0 kc8_1 kc8_2 kc8_3 kc8_4 kc8_5
  simp only [KeptC, List.forall_mem_cons] at hk; obtain ⟨kb9, ⟨kc9_0, kc9_1, _⟩, _⟩ := hk; have ks9 : w.heap.size ≤ w9.heap.size := kb9.size; have ky9_0 : w.heap.size < w9.heap.size := cell_lt (a := ⟨w.heap.size, 0, none⟩) (by with_reducible assumption)
  go_wp2_with (fail)
  refine (CR.out _).mono ?_; rintro e w10 ⟨rfl, hbn⟩
  have hk : KeptC w [(⟨w.heap.size, 0, none⟩, .int .u64 a1), (⟨w.heap.size, 1, none⟩, .int .u64 a2)] [] w10 := by
    refine KeptC.below ?_ hbn
    repeat' (first | refine KeptC.cons ?_ ?_ | refine KeptC.consF ?_ ?_ ?_ | refine KeptC.mk0 ?_)
    all_goals (first | with_reducible assumption | (go_simp; done) | (simp; omega) | exact (by repeat (first | with_reducible refine Below.setCell ?_ (by first | (simp; done) | (simp; omega) | omega) _ | with_reducible refine Below.alloc ?_ (by first | (simp; done) | (simp; omega) | omega) _ | with_reducible refine Below.drew ?_ | with_reducible exact Below.refl _ _ | with_reducible refine Below.trans ?_ (Below.mono kb9 (by first | (simp; done) | (simp; omega) | omega)))))
  clear hbn; clear kb9 kc9_0 kc9_1
  simp only [KeptC, List.forall_mem_cons] at hk; obtain ⟨kb10, ⟨kc10_0, kc10_1, _⟩, _⟩ := hk; have ks10 : w.heap.size ≤ w10.heap.size := kb10.size; have ky10_0 : w.heap.size < w10.heap.size := cell_lt (a := ⟨w.heap.size, 0, none⟩) (by with_reducible assumption)
  go_wp2_with (fail)
  refine (awake_any _).mono ?_; rintro e w11 ⟨rfl, hbn⟩
  have hk : KeptC w [] [] w11 := by
    refine KeptC.below ?_ hbn
    repeat' (first | refine KeptC.cons ?_ ?_ | refine KeptC.consF ?_ ?_ ?_ | refine KeptC.mk0 ?_)
    all_goals (first | with_reducible assumption | (go_simp; done) | (simp; omega) | exact (by repeat (first | with_reducible refine Below.setCell ?_ (by first | (simp; done) | (simp; omega) | omega) _ | with_reducible refine Below.alloc ?_ (by first | (simp; done) | (simp; omega) | omega) _ | with_reducible refine Below.drew ?_ | with_reducible exact Below.refl _ _ | with_reducible refine Below.trans ?_ (Below.mono kb10 (by first | (simp; done) | (simp; omega) | omega)))))
  clear hbn; clear kb10 kc10_0 kc10_1
  simp only [KeptC, List.forall_mem_cons] at hk; obtain ⟨kb11, _, _⟩ := hk; have ks11 : w.heap.size ≤ w11.heap.size := kb11.size
  go_wp2
  go_ret
  exact ⟨rfl, kb11⟩
set_option maxRecDepth 100000 in
set_option maxHeartbeats 8000000 in
theorem orders_gt_f (a1 a2 b1 b2 c1 c2 s1 s2 : Int) (str : ByteArray) (LAB : Hid (∀ w, Calls Try.prog 29 #[.agg #[.int .u64 a1, .int .u64 a2], .agg #[.int .u64 b1, .int .u64 b2]] w fun e w' => e = .returned (.bool false) ∧ Below w.heap.size w w'))
    (LBA : Hid (∀ w, Calls Try.prog 29 #[.agg #[.int .u64 b1, .int .u64 b2], .agg #[.int .u64 a1, .int .u64 a2]] w fun e w' => e = .returned (.bool true) ∧ Below w.heap.size w w'))
    (CP : Hid (∀ w, Calls Try.prog 24 #[.agg #[.int .u64 a1, .int .u64 a2], .agg #[.int .u64 b1, .int .u64 b2]] w fun e w' => e = .returned (.tuple #[.agg #[.int .u64 s1, .int .u64 s2], .bool false]) ∧ Below w.heap.size w w'))
    (CQ : Hid (∀ w, Calls Try.prog 24 #[.agg #[.int .u64 b1, .int .u64 b2], .agg #[.int .u64 a1, .int .u64 a2]] w fun e w' => e = .returned (.tuple #[.agg #[.int .u64 s1, .int .u64 s2], .bool false]) ∧ Below w.heap.size w w'))
    (CT : Hid (∀ w, Calls Try.prog 33 #[.agg #[.int .u64 a1, .int .u64 a2]] w fun e w' => e = .returned (.string str) ∧ Below w.heap.size w w'))
    (CR : Hid (∀ w, Calls Try.prog 10 #[.string str] w fun e w' => e = .returned (.tuple #[.agg #[.int .u64 a1, .int .u64 a2], .int .i64 0]) ∧ Below w.heap.size w w')) (w : World) :
    Calls Try.prog 9 #[.agg #[.int .u64 a1, .int .u64 a2], .agg #[.int .u64 b1, .int .u64 b2], .agg #[.int .u64 c1, .int .u64 c2]] w fun e w' => e = .returned (.bool true) ∧ Below w.heap.size w w' := by
  go_enter Try.func9, Try.ntmps9
  go_wp2_with (fail)
  refine (LAB.out _).mono ?_; rintro e w1 ⟨rfl, hbn⟩
  have hk : KeptC w [(⟨w.heap.size, 0, none⟩, .int .u64 a1), (⟨w.heap.size, 1, none⟩, .int .u64 a2), (⟨w.heap.size + 1, 0, none⟩, .int .u64 b1), (⟨w.heap.size + 1, 1, none⟩, .int .u64 b2), (⟨w.heap.size + 1 + 1, 0, none⟩, .int .u64 c1), (⟨w.heap.size + 1 + 1, 1, none⟩, .int .u64 c2)] [] w1 := by
    refine KeptC.below ?_ hbn
    repeat' (first | refine KeptC.cons ?_ ?_ | refine KeptC.consF ?_ ?_ ?_ | refine KeptC.mk0 ?_)
    all_goals (first | with_reducible assumption | (go_simp; done) | (simp; omega) | exact (by repeat (first | with_reducible refine Below.setCell ?_ (by first | (simp; done) | (simp; omega) | omega) _ | with_reducible refine Below.alloc ?_ (by first | (simp; done) | (simp; omega) | omega) _ | with_reducible refine Below.drew ?_ | with_reducible exact Below.refl _ _)))
  clear hbn
  simp only [KeptC, List.forall_mem_cons] at hk; obtain ⟨kb1, ⟨kc1_0, kc1_1, kc1_2, kc1_3, kc1_4, kc1_5, _⟩, _⟩ := hk; have ks1 : w.heap.size ≤ w1.heap.size := kb1.size; have ky1_0 : w.heap.size < w1.heap.size := cell_lt (a := ⟨w.heap.size, 0, none⟩) (by with_reducible assumption); have ky1_1 : w.heap.size + 1 < w1.heap.size := cell_lt (a := ⟨w.heap.size + 1, 0, none⟩) (by with_reducible assumption); have ky1_2 : w.heap.size + 1 + 1 < w1.heap.size := cell_lt (a := ⟨w.heap.size + 1 + 1, 0, none⟩) (by with_reducible assumption)
  go_wp2_with (fail)
  refine (LAB.out _).mono ?_; rintro e w2 ⟨rfl, hbn⟩
  have hk : KeptC w [(⟨w.heap.size, 0, none⟩, .int .u64 a1), (⟨w.heap.size, 1, none⟩, .int .u64 a2), (⟨w.heap.size + 1, 0, none⟩, .int .u64 b1), (⟨w.heap.size + 1, 1, none⟩, .int .u64 b2), (⟨w.heap.size + 1 + 1, 0, none⟩, .int .u64 c1), (⟨w.heap.size + 1 + 1, 1, none⟩, .int .u64 c2)] [] w2 := by
    refine KeptC.below ?_ hbn
    repeat' (first | refine KeptC.cons ?_ ?_ | refine KeptC.consF ?_ ?_ ?_ | refine KeptC.mk0 ?_)
    all_goals (first | with_reducible assumption | (go_simp; done) | (simp; omega) | exact (by repeat (first | with_reducible refine Below.setCell ?_ (by first | (simp; done) | (simp; omega) | omega) _ | with_reducible refine Below.alloc ?_ (by first | (simp; done) | (simp; omega) | omega) _ | with_reducible refine Below.drew ?_ | with_reducible exact Below.refl _ _ | with_reducible refine Below.trans ?_ (Below.mono kb1 (by first | (simp; done) | (simp; omega) | omega)))))
  clear hbn; clear kb1 kc1_0 kc1_1 kc1_2 kc1_3 kc1_4 kc1_5
  simp only [KeptC, List.forall_mem_cons] at hk; obtain ⟨kb2, ⟨kc2_0, kc2_1, kc2_2, kc2_3, kc2_4, kc2_5, _⟩, _⟩ := hk; have ks2 : w.heap.size ≤ w2.heap.size := kb2.size; have ky2_0 : w.heap.size < w2.heap.size := cell_lt (a := ⟨w.heap.size, 0, none⟩) (by with_reducible assumption); have ky2_1 : w.heap.size + 1 < w2.heap.size := cell_lt (a := ⟨w.heap.size + 1, 0, none⟩) (by with_reducible assumption); have ky2_2 : w.heap.size + 1 + 1 < w2.heap.size := cell_lt (a := ⟨w.heap.size + 1 + 1, 0, none⟩) (by with_reducible assumption)
  go_wp2_with (fail)
  refine (LBA.out _).mono ?_; rintro e w3 ⟨rfl, hbn⟩
  have hk : KeptC w [(⟨w.heap.size, 0, none⟩, .int .u64 a1), (⟨w.heap.size, 1, none⟩, .int .u64 a2), (⟨w.heap.size + 1, 0, none⟩, .int .u64 b1), (⟨w.heap.size + 1, 1, none⟩, .int .u64 b2), (⟨w.heap.size + 1 + 1, 0, none⟩, .int .u64 c1), (⟨w.heap.size + 1 + 1, 1, none⟩, .int .u64 c2)] [] w3 := by
    refine KeptC.below ?_ hbn
    repeat' (first | refine KeptC.cons ?_ ?_ | refine KeptC.consF ?_ ?_ ?_ | refine KeptC.mk0 ?_)
    all_goals (first | with_reducible assumption | (go_simp; done) | (simp; omega) | exact (by repeat (first | with_reducible refine Below.setCell ?_ (by first | (simp; done) | (simp; omega) | omega) _ | with_reducible refine Below.alloc ?_ (by first | (simp; done) | (simp; omega) | omega) _ | with_reducible refine Below.drew ?_ | with_reducible exact Below.refl _ _ | with_reducible refine Below.trans ?_ (Below.mono kb2 (by first | (simp; done) | (simp; omega) | omega)))))
  clear hbn; clear kb2 kc2_0 kc2_1 kc2_2 kc2_3 kc2_4 kc2_5
  simp only [KeptC, List.forall_mem_cons] at hk; obtain ⟨kb3, ⟨kc3_0, kc3_1, kc3_2, kc3_3, kc3_4, kc3_5, _⟩, _⟩ := hk; have ks3 : w.heap.size ≤ w3.heap.size := kb3.size; have ky3_0 : w.heap.size < w3.heap.size := cell_lt (a := ⟨w.heap.size, 0, none⟩) (by with_reducible assumption); have ky3_1 : w.heap.size + 1 < w3.heap.size := cell_lt (a := ⟨w.heap.size + 1, 0, none⟩) (by with_reducible assumption); have ky3_2 : w.heap.size + 1 + 1 < w3.heap.size := cell_lt (a := ⟨w.heap.size + 1 + 1, 0, none⟩) (by with_reducible assumption)
  go_wp2_with (fail)
  refine (LAB.out _).mono ?_; rintro e w4 ⟨rfl, hbn⟩
  have hk : KeptC w [(⟨w.heap.size, 0, none⟩, .int .u64 a1), (⟨w.heap.size, 1, none⟩, .int .u64 a2), (⟨w.heap.size + 1, 0, none⟩, .int .u64 b1), (⟨w.heap.size + 1, 1, none⟩, .int .u64 b2), (⟨w.heap.size + 1 + 1, 0, none⟩, .int .u64 c1), (⟨w.heap.size + 1 + 1, 1, none⟩, .int .u64 c2)] [] w4 := by
    refine KeptC.below ?_ hbn
    repeat' (first | refine KeptC.cons ?_ ?_ | refine KeptC.consF ?_ ?_ ?_ | refine KeptC.mk0 ?_)
    all_goals (first | with_reducible assumption | (go_simp; done) | (simp; omega) | exact (by repeat (first | with_reducible refine Below.setCell ?_ (by first | (simp; done) | (simp; omega) | omega) _ | with_reducible refine Below.alloc ?_ (by first | (simp; done) | (simp; omega) | omega) _ | with_reducible refine Below.drew ?_ | with_reducible exact Below.refl _ _ | with_reducible refine Below.trans ?_ (Below.mono kb3 (by first | (simp; done) | (simp; omega) | omega)))))
  clear hbn; clear kb3 kc3_0 kc3_1 kc3_2 kc3_3 kc3_4 kc3_5
  simp only [KeptC, List.forall_mem_cons] at hk; obtain ⟨kb4, ⟨kc4_0, kc4_1, kc4_2, kc4_3, kc4_4, kc4_5, _⟩, _⟩ := hk; have ks4 : w.heap.size ≤ w4.heap.size := kb4.size; have ky4_0 : w.heap.size < w4.heap.size := cell_lt (a := ⟨w.heap.size, 0, none⟩) (by with_reducible assumption); have ky4_1 : w.heap.size + 1 < w4.heap.size := cell_lt (a := ⟨w.heap.size + 1, 0, none⟩) (by with_reducible assumption); have ky4_2 : w.heap.size + 1 + 1 < w4.heap.size := cell_lt (a := ⟨w.heap.size + 1 + 1, 0, none⟩) (by with_reducible assumption)
  go_wp2_with (fail)
  refine (CP.out _).mono ?_; rintro e w5 ⟨rfl, hbn⟩
  have hk : KeptC w [(⟨w.heap.size, 0, none⟩, .int .u64 a1), (⟨w.heap.size, 1, none⟩, .int .u64 a2), (⟨w.heap.size + 1, 0, none⟩, .int .u64 b1), (⟨w.heap.size + 1, 1, none⟩, .int .u64 b2), (⟨w.heap.size + 1 + 1, 0, none⟩, .int .u64 c1), (⟨w.heap.size + 1 + 1, 1, none⟩, .int .u64 c2)] [] w5 := by
    refine KeptC.below ?_ hbn
    repeat' (first | refine KeptC.cons ?_ ?_ | refine KeptC.consF ?_ ?_ ?_ | refine KeptC.mk0 ?_)
    all_goals (first | with_reducible assumption | (go_simp; done) | (simp; omega) | exact (by repeat (first | with_reducible refine Below.setCell ?_ (by first | (simp; done) | (simp; omega) | omega) _ | with_reducible refine Below.alloc ?_ (by first | (simp; done) | (simp; omega) | omega) _ | with_reducible refine Below.drew ?_ | with_reducible exact Below.refl _ _ | with_reducible refine Below.trans ?_ (Below.mono kb4 (by first | (simp; done) | (simp; omega) | omega)))))
  clear hbn; clear kb4 kc4_0 kc4_1 kc4_2 kc4_3 kc4_4 kc4_5
  simp only [KeptC, List.forall_mem_cons] at hk; obtain ⟨kb5, ⟨kc5_0, kc5_1, kc5_2, kc5_3, kc5_4, kc5_5, _⟩, _⟩ := hk; have ks5 : w.heap.size ≤ w5.heap.size := kb5.size; have ky5_0 : w.heap.size < w5.heap.size := cell_lt (a := ⟨w.heap.size, 0, none⟩) (by with_reducible assumption); have ky5_1 : w.heap.size + 1 < w5.heap.size := cell_lt (a := ⟨w.heap.size + 1, 0, none⟩) (by with_reducible assumption); have ky5_2 : w.heap.size + 1 + 1 < w5.heap.size := cell_lt (a := ⟨w.heap.size + 1 + 1, 0, none⟩) (by with_reducible assumption)
  go_wp2_with (fail)
  refine (CQ.out _).mono ?_; rintro e w6 ⟨rfl, hbn⟩
  have hk : KeptC w [(⟨w.heap.size, 0, none⟩, .int .u64 a1), (⟨w.heap.size, 1, none⟩, .int .u64 a2), (⟨w.heap.size + 1, 0, none⟩, .int .u64 b1), (⟨w.heap.size + 1, 1, none⟩, .int .u64 b2), (⟨w.heap.size + 1 + 1, 0, none⟩, .int .u64 c1), (⟨w.heap.size + 1 + 1, 1, none⟩, .int .u64 c2), (⟨w5.heap.size, 0, none⟩, .int .u64 s1), (⟨w5.heap.size, 1, none⟩, .int .u64 s2)] [] w6 := by
    refine KeptC.below ?_ hbn
    repeat' (first | refine KeptC.cons ?_ ?_ | refine KeptC.consF ?_ ?_ ?_ | refine KeptC.mk0 ?_)
    all_goals (first | with_reducible assumption | (go_simp; done) | (simp; omega) | exact (by repeat (first | with_reducible refine Below.setCell ?_ (by first | (simp; done) | (simp; omega) | omega) _ | with_reducible refine Below.alloc ?_ (by first | (simp; done) | (simp; omega) | omega) _ | with_reducible refine Below.drew ?_ | with_reducible exact Below.refl _ _ | with_reducible refine Below.trans ?_ (Below.mono kb5 (by first | (simp; done) | (simp; omega) | omega)))))
  clear hbn; clear kb5 kc5_0 kc5_1 kc5_2 kc5_3 kc5_4 kc5_5
  simp only [KeptC, List.forall_mem_cons] at hk; obtain ⟨kb6, ⟨kc6_0, kc6_1, kc6_2, kc6_3, kc6_4, kc6_5, kc6_6, kc6_7, _⟩, _⟩ := hk; have ks6 : w.heap.size ≤ w6.heap.size := kb6.size; have ky6_0 : w.heap.size < w6.heap.size := cell_lt (a := ⟨w.heap.size, 0, none⟩) (by with_reducible assumption); have ky6_1 : w.heap.size + 1 < w6.heap.size := cell_lt (a := ⟨w.heap.size + 1, 0, none⟩) (by with_reducible assumption); have ky6_2 : w.heap.size + 1 + 1 < w6.heap.size := cell_lt (a := ⟨w.heap.size + 1 + 1, 0, none⟩) (by with_reducible assumption); have ky6_3 : w5.heap.size < w6.heap.size := cell_lt (a := ⟨w5.heap.size, 0, none⟩) (by with_reducible assumption)
  go_wp2_with (fail)
  refine (CT.out _).mono ?_; rintro e w7 ⟨rfl, hbn⟩
  have hk : KeptC w [(⟨w.heap.size, 0, none⟩, .int .u64 a1), (⟨w.heap.size, 1, none⟩, .int .u64 a2)] [] w7 := by
    refine KeptC.below ?_ hbn
    repeat' (first | refine KeptC.cons ?_ ?_ | refine KeptC.consF ?_ ?_ ?_ | refine KeptC.mk0 ?_)
    all_goals (first | with_reducible assumption | (go_simp; done) | (simp; omega) | exact (by repeat (first | with_reducible refine Below.setCell ?_ (by first | (simp; done) | (simp; omega) | omega) _ | with_reducible refine Below.alloc ?_ (by first | (simp; done) | (simp; omega) | omega) _ | with_reducible refine Below.drew ?_ | with_reducible exact Below.refl _ _ | with_reducible refine Below.trans ?_ (Below.mono kb6 (by first | (simp; done) | (simp; omega) | omega)))))
  clear hbn; clear kb6 kc6_0 kc6_1 kc6_2 kc6_3 kc6_4 kc6_5 kc6_6 kc6_7
  simp only [KeptC, List.forall_mem_cons] at hk; obtain ⟨kb7, ⟨kc7_0, kc7_1, _⟩, _⟩ := hk; have ks7 : w.heap.size ≤ w7.heap.size := kb7.size; have ky7_0 : w.heap.size < w7.heap.size := cell_lt (a := ⟨w.heap.size, 0, none⟩) (by with_reducible assumption)
  go_wp2_with (fail)
  refine (CR.out _).mono ?_; rintro e w8 ⟨rfl, hbn⟩
  have hk : KeptC w [(⟨w.heap.size, 0, none⟩, .int .u64 a1), (⟨w.heap.size, 1, none⟩, .int .u64 a2)] [] w8 := by
    refine KeptC.below ?_ hbn
    repeat' (first | refine KeptC.cons ?_ ?_ | refine KeptC.consF ?_ ?_ ?_ | refine KeptC.mk0 ?_)
    all_goals (first | with_reducible assumption | (go_simp; done) | (simp; omega) | exact (by repeat (first | with_reducible refine Below.setCell ?_ (by first | (simp; done) | (simp; omega) | omega) _ | with_reducible refine Below.alloc ?_ (by first | (simp; done) | (simp; omega) | omega) _ | with_reducible refine Below.drew ?_ | with_reducible exact Below.refl _ _ | with_reducible refine Below.trans ?_ (Below.mono kb7 (by first | (simp; done) | (simp; omega) | omega)))))
  clear hbn; clear kb7 kc7_0 kc7_1
  simp only [KeptC, List.forall_mem_cons] at hk; obtain ⟨kb8, ⟨kc8_0, kc8_1, _⟩, _⟩ := hk; have ks8 : w.heap.size ≤ w8.heap.size := kb8.size; have ky8_0 : w.heap.size < w8.heap.size := cell_lt (a := ⟨w.heap.size, 0, none⟩) (by with_reducible assumption)
  go_wp2_with (fail)
  refine (awake_any _).mono ?_; rintro e w9 ⟨rfl, hbn⟩
  have hk : KeptC w [] [] w9 := by
    refine KeptC.below ?_ hbn
    repeat' (first | refine KeptC.cons ?_ ?_ | refine KeptC.consF ?_ ?_ ?_ | refine KeptC.mk0 ?_)
    all_goals (first | with_reducible assumption | (go_simp; done) | (simp; omega) | exact (by repeat (first | with_reducible refine Below.setCell ?_ (by first | (simp; done) | (simp; omega) | omega) _ | with_reducible refine Below.alloc ?_ (by first | (simp; done) | (simp; omega) | omega) _ | with_reducible refine Below.drew ?_ | with_reducible exact Below.refl _ _ | with_reducible refine Below.trans ?_ (Below.mono kb8 (by first | (simp; done) | (simp; omega) | omega)))))
  clear hbn; clear kb8 kc8_0 kc8_1
  simp only [KeptC, List.forall_mem_cons] at hk; obtain ⟨kb9, _, _⟩ := hk; have ks9 : w.heap.size ≤ w9.heap.size := kb9.size
  go_wp2
  go_ret
  exact ⟨rfl, kb9⟩
set_option maxRecDepth 100000 in
set_option maxHeartbeats 8000000 in
theorem orders_gt_t (a1 a2 b1 b2 c1 c2 s1 s2 : Int) (str : ByteArray) (LAB : Hid (∀ w, Calls Try.prog 29 #[.agg #[.int .u64 a1, .int .u64 a2], .agg #[.int .u64 b1, .int .u64 b2]] w fun e w' => e = .returned (.bool false) ∧ Below w.heap.size w w'))
    (LBA : Hid (∀ w, Calls Try.prog 29 #[.agg #[.int .u64 b1, .int .u64 b2], .agg #[.int .u64 a1, .int .u64 a2]] w fun e w' => e = .returned (.bool true) ∧ Below w.heap.size w w'))
    (CP : Hid (∀ w, Calls Try.prog 24 #[.agg #[.int .u64 a1, .int .u64 a2], .agg #[.int .u64 b1, .int .u64 b2]] w fun e w' => e = .returned (.tuple #[.agg #[.int .u64 s1, .int .u64 s2], .bool true]) ∧ Below w.heap.size w w'))
    (CQ : Hid (∀ w, Calls Try.prog 24 #[.agg #[.int .u64 b1, .int .u64 b2], .agg #[.int .u64 a1, .int .u64 a2]] w fun e w' => e = .returned (.tuple #[.agg #[.int .u64 s1, .int .u64 s2], .bool true]) ∧ Below w.heap.size w w'))
    (CT : Hid (∀ w, Calls Try.prog 33 #[.agg #[.int .u64 a1, .int .u64 a2]] w fun e w' => e = .returned (.string str) ∧ Below w.heap.size w w'))
    (CR : Hid (∀ w, Calls Try.prog 10 #[.string str] w fun e w' => e = .returned (.tuple #[.agg #[.int .u64 a1, .int .u64 a2], .int .i64 0]) ∧ Below w.heap.size w w'))
    (CD : Hid (∀ w, Calls Try.prog 28 #[.agg #[.int .u64 s1, .int .u64 s2], .agg #[.int .u64 b1, .int .u64 b2]] w fun e w' => e = .returned (.tuple #[.agg #[.int .u64 a1, .int .u64 a2], .bool true]) ∧ Below w.heap.size w w')) (w : World) :
    Calls Try.prog 9 #[.agg #[.int .u64 a1, .int .u64 a2], .agg #[.int .u64 b1, .int .u64 b2], .agg #[.int .u64 c1, .int .u64 c2]] w fun e w' => e = .returned (.bool true) ∧ Below w.heap.size w w' := by
  go_enter Try.func9, Try.ntmps9
  go_wp2_with (fail)
  refine (LAB.out _).mono ?_; rintro e w1 ⟨rfl, hbn⟩
  have hk : KeptC w [(⟨w.heap.size, 0, none⟩, .int .u64 a1), (⟨w.heap.size, 1, none⟩, .int .u64 a2), (⟨w.heap.size + 1, 0, none⟩, .int .u64 b1), (⟨w.heap.size + 1, 1, none⟩, .int .u64 b2), (⟨w.heap.size + 1 + 1, 0, none⟩, .int .u64 c1), (⟨w.heap.size + 1 + 1, 1, none⟩, .int .u64 c2)] [] w1 := by
    refine KeptC.below ?_ hbn
    repeat' (first | refine KeptC.cons ?_ ?_ | refine KeptC.consF ?_ ?_ ?_ | refine KeptC.mk0 ?_)
    all_goals (first | with_reducible assumption | (go_simp; done) | (simp; omega) | exact (by repeat (first | with_reducible refine Below.setCell ?_ (by first | (simp; done) | (simp; omega) | omega) _ | with_reducible refine Below.alloc ?_ (by first | (simp; done) | (simp; omega) | omega) _ | with_reducible refine Below.drew ?_ | with_reducible exact Below.refl _ _)))
  clear hbn
  simp only [KeptC, List.forall_mem_cons] at hk; obtain ⟨kb1, ⟨kc1_0, kc1_1, kc1_2, kc1_3, kc1_4, kc1_5, _⟩, _⟩ := hk; have ks1 : w.heap.size ≤ w1.heap.size := kb1.size; have ky1_0 : w.heap.size < w1.heap.size := cell_lt (a := ⟨w.heap.size, 0, none⟩) (by with_reducible assumption); have ky1_1 : w.heap.size + 1 < w1.heap.size := cell_lt (a := ⟨w.heap.size + 1, 0, none⟩) (by with_reducible assumption); have ky1_2 : w.heap.size + 1 + 1 < w1.heap.size := cell_lt (a := ⟨w.heap.size + 1 + 1, 0, none⟩) (by with_reducible assumption)
  go_wp2_with (fail)
  refine (LAB.out _).mono ?_; rintro e w2 ⟨rfl, hbn⟩
  have hk : KeptC w [(⟨w.heap.size, 0, none⟩, .int .u64 a1), (⟨w.heap.size, 1, none⟩, .int .u64 a2), (⟨w.heap.size + 1, 0, none⟩, .int .u64 b1), (⟨w.heap.size + 1, 1, none⟩, .int .u64 b2), (⟨w.heap.size + 1 + 1, 0, none⟩, .int .u64 c1), (⟨w.heap.size + 1 + 1, 1, none⟩, .int .u64 c2)] [] w2 := by
    refine KeptC.below ?_ hbn
    repeat' (first | refine KeptC.cons ?_ ?_ | refine KeptC.consF ?_ ?_ ?_ | refine KeptC.mk0 ?_)
    all_goals (first | with_reducible assumption | (go_simp; done) | (simp; omega) | exact (by repeat (first | with_reducible refine Below.setCell ?_ (by first | (simp; done) | (simp; omega) | omega) _ | with_reducible refine Below.alloc ?_ (by first | (simp; done) | (simp; omega) | omega) _ | with_reducible refine Below.drew ?_ | with_reducible exact Below.refl _ _ | with_reducible refine Below.trans ?_ (Below.mono kb1 (by first | (simp; done) | (simp; omega) | omega)))))
  clear hbn; clear kb1 kc1_0 kc1_1 kc1_2 kc1_3 kc1_4 kc1_5
  simp only [KeptC, List.forall_mem_cons] at hk; obtain ⟨kb2, ⟨kc2_0, kc2_1, kc2_2, kc2_3, kc2_4, kc2_5, _⟩, _⟩ := hk; have ks2 : w.heap.size ≤ w2.heap.size := kb2.size; have ky2_0 : w.heap.size < w2.heap.size := cell_lt (a := ⟨w.heap.size, 0, none⟩) (by with_reducible assumption); have ky2_1 : w.heap.size + 1 < w2.heap.size := cell_lt (a := ⟨w.heap.size + 1, 0, none⟩) (by with_reducible assumption); have ky2_2 : w.heap.size + 1 + 1 < w2.heap.size := cell_lt (a := ⟨w.heap.size + 1 + 1, 0, none⟩) (by with_reducible assumption)
  go_wp2_with (fail)
  refine (LBA.out _).mono ?_; rintro e w3 ⟨rfl, hbn⟩
  have hk : KeptC w [(⟨w.heap.size, 0, none⟩, .int .u64 a1), (⟨w.heap.size, 1, none⟩, .int .u64 a2), (⟨w.heap.size + 1, 0, none⟩, .int .u64 b1), (⟨w.heap.size + 1, 1, none⟩, .int .u64 b2), (⟨w.heap.size + 1 + 1, 0, none⟩, .int .u64 c1), (⟨w.heap.size + 1 + 1, 1, none⟩, .int .u64 c2)] [] w3 := by
    refine KeptC.below ?_ hbn
    repeat' (first | refine KeptC.cons ?_ ?_ | refine KeptC.consF ?_ ?_ ?_ | refine KeptC.mk0 ?_)
    all_goals (first | with_reducible assumption | (go_simp; done) | (simp; omega) | exact (by repeat (first | with_reducible refine Below.setCell ?_ (by first | (simp; done) | (simp; omega) | omega) _ | with_reducible refine Below.alloc ?_ (by first | (simp; done) | (simp; omega) | omega) _ | with_reducible refine Below.drew ?_ | with_reducible exact Below.refl _ _ | with_reducible refine Below.trans ?_ (Below.mono kb2 (by first | (simp; done) | (simp; omega) | omega)))))
  clear hbn; clear kb2 kc2_0 kc2_1 kc2_2 kc2_3 kc2_4 kc2_5
  simp only [KeptC, List.forall_mem_cons] at hk; obtain ⟨kb3, ⟨kc3_0, kc3_1, kc3_2, kc3_3, kc3_4, kc3_5, _⟩, _⟩ := hk; have ks3 : w.heap.size ≤ w3.heap.size := kb3.size; have ky3_0 : w.heap.size < w3.heap.size := cell_lt (a := ⟨w.heap.size, 0, none⟩) (by with_reducible assumption); have ky3_1 : w.heap.size + 1 < w3.heap.size := cell_lt (a := ⟨w.heap.size + 1, 0, none⟩) (by with_reducible assumption); have ky3_2 : w.heap.size + 1 + 1 < w3.heap.size := cell_lt (a := ⟨w.heap.size + 1 + 1, 0, none⟩) (by with_reducible assumption)
  go_wp2_with (fail)
  refine (LAB.out _).mono ?_; rintro e w4 ⟨rfl, hbn⟩
  have hk : KeptC w [(⟨w.heap.size, 0, none⟩, .int .u64 a1), (⟨w.heap.size, 1, none⟩, .int .u64 a2), (⟨w.heap.size + 1, 0, none⟩, .int .u64 b1), (⟨w.heap.size + 1, 1, none⟩, .int .u64 b2), (⟨w.heap.size + 1 + 1, 0, none⟩, .int .u64 c1), (⟨w.heap.size + 1 + 1, 1, none⟩, .int .u64 c2)] [] w4 := by
    refine KeptC.below ?_ hbn
    repeat' (first | refine KeptC.cons ?_ ?_ | refine KeptC.consF ?_ ?_ ?_ | refine KeptC.mk0 ?_)
    all_goals (first | with_reducible assumption | (go_simp; done) | (simp; omega) | exact (by repeat (first | with_reducible refine Below.setCell ?_ (by first | (simp; done) | (simp; omega) | omega) _ | with_reducible refine Below.alloc ?_ (by first | (simp; done) | (simp; omega) | omega) _ | with_reducible refine Below.drew ?_ | with_reducible exact Below.refl _ _ | with_reducible refine Below.trans ?_ (Below.mono kb3 (by first | (simp; done) | (simp; omega) | omega)))))
  clear hbn; clear kb3 kc3_0 kc3_1 kc3_2 kc3_3 kc3_4 kc3_5
  simp only [KeptC, List.forall_mem_cons] at hk; obtain ⟨kb4, ⟨kc4_0, kc4_1, kc4_2, kc4_3, kc4_4, kc4_5, _⟩, _⟩ := hk; have ks4 : w.heap.size ≤ w4.heap.size := kb4.size; have ky4_0 : w.heap.size < w4.heap.size := cell_lt (a := ⟨w.heap.size, 0, none⟩) (by with_reducible assumption); have ky4_1 : w.heap.size + 1 < w4.heap.size := cell_lt (a := ⟨w.heap.size + 1, 0, none⟩) (by with_reducible assumption); have ky4_2 : w.heap.size + 1 + 1 < w4.heap.size := cell_lt (a := ⟨w.heap.size + 1 + 1, 0, none⟩) (by with_reducible assumption)
  go_wp2_with (fail)
  refine (CP.out _).mono ?_; rintro e w5 ⟨rfl, hbn⟩
  have hk : KeptC w [(⟨w.heap.size, 0, none⟩, .int .u64 a1), (⟨w.heap.size, 1, none⟩, .int .u64 a2), (⟨w.heap.size + 1, 0, none⟩, .int .u64 b1), (⟨w.heap.size + 1, 1, none⟩, .int .u64 b2), (⟨w.heap.size + 1 + 1, 0, none⟩, .int .u64 c1), (⟨w.heap.size + 1 + 1, 1, none⟩, .int .u64 c2)] [] w5 := by
    refine KeptC.below ?_ hbn
    repeat' (first | refine KeptC.cons ?_ ?_ | refine KeptC.consF ?_ ?_ ?_ | refine KeptC.mk0 ?_)
    all_goals (first | with_reducible assumption | (go_simp; done) | (simp; omega) | exact (by repeat (first | with_reducible refine Below.setCell ?_ (by first | (simp; done) | (simp; omega) | omega) _ | with_reducible refine Below.alloc ?_ (by first | (simp; done) | (simp; omega) | omega) _ | with_reducible refine Below.drew ?_ | with_reducible exact Below.refl _ _ | with_reducible refine Below.trans ?_ (Below.mono kb4 (by first | (simp; done) | (simp; omega) | omega)))))
  clear hbn; clear kb4 kc4_0 kc4_1 kc4_2 kc4_3 kc4_4 kc4_5
  simp only [KeptC, List.forall_mem_cons] at hk; obtain ⟨kb5, ⟨kc5_0, kc5_1, kc5_2, kc5_3, kc5_4, kc5_5, _⟩, _⟩ := hk; have ks5 : w.heap.size ≤ w5.heap.size := kb5.size; have ky5_0 : w.heap.size < w5.heap.size := cell_lt (a := ⟨w.heap.size, 0, none⟩) (by with_reducible assumption); have ky5_1 : w.heap.size + 1 < w5.heap.size := cell_lt (a := ⟨w.heap.size + 1, 0, none⟩) (by with_reducible assumption); have ky5_2 : w.heap.size + 1 + 1 < w5.heap.size := cell_lt (a := ⟨w.heap.size + 1 + 1, 0, none⟩) (by with_reducible assumption)
  go_wp2_with (fail)
  refine (CQ.out _).mono ?_; rintro e w6 ⟨rfl, hbn⟩
  have hk : KeptC w [(⟨w.heap.size, 0, none⟩, .int .u64 a1), (⟨w.heap.size, 1, none⟩, .int .u64 a2), (⟨w.heap.size + 1, 0, none⟩, .int .u64 b1), (⟨w.heap.size + 1, 1, none⟩, .int .u64 b2), (⟨w.heap.size + 1 + 1, 0, none⟩, .int .u64 c1), (⟨w.heap.size + 1 + 1, 1, none⟩, .int .u64 c2), (⟨w5.heap.size, 0, none⟩, .int .u64 s1), (⟨w5.heap.size, 1, none⟩, .int .u64 s2)] [] w6 := by
    refine KeptC.below ?_ hbn
    repeat' (first | refine KeptC.cons ?_ ?_ | refine KeptC.consF ?_ ?_ ?_ | refine KeptC.mk0 ?_)
    all_goals (first | with_reducible assumption | (go_simp; done) | (simp; omega) | exact (by repeat (first | with_reducible refine Below.setCell ?_ (by first | (simp; done) | (simp; omega) | omega) _ | with_reducible refine Below.alloc ?_ (by first | (simp; done) | (simp; omega) | omega) _ | with_reducible refine Below.drew ?_ | with_reducible exact Below.refl _ _ | with_reducible refine Below.trans ?_ (Below.mono kb5 (by first | (simp; done) | (simp; omega) | omega)))))
  clear hbn; clear kb5 kc5_0 kc5_1 kc5_2 kc5_3 kc5_4 kc5_5
  simp only [KeptC, List.forall_mem_cons] at hk; obtain ⟨kb6, ⟨kc6_0, kc6_1, kc6_2, kc6_3, kc6_4, kc6_5, kc6_6, kc6_7, _⟩, _⟩ := hk; have ks6 : w.heap.size ≤ w6.heap.size := kb6.size; have ky6_0 : w.heap.size < w6.heap.size := cell_lt (a := ⟨w.heap.size, 0, none⟩) (by with_reducible assumption); have ky6_1 : w.heap.size + 1 < w6.heap.size := cell_lt (a := ⟨w.heap.size + 1, 0, none⟩) (by with_reducible assumption); have ky6_2 : w.heap.size + 1 + 1 < w6.heap.size := cell_lt (a := ⟨w.heap.size + 1 + 1, 0, none⟩) (by with_reducible assumption); have ky6_3 : w5.heap.size < w6.heap.size := cell_lt (a := ⟨w5.heap.size, 0, none⟩) (by with_reducible assumption)
  go_wp2_with (fail)
  refine (CD.out _).mono ?_; rintro e w7 ⟨rfl, hbn⟩
  have hk : KeptC w [(⟨w.heap.size, 0, none⟩, .int .u64 a1), (⟨w.heap.size, 1, none⟩, .int .u64 a2), (⟨w.heap.size + 1, 0, none⟩, .int .u64 b1), (⟨w.heap.size + 1, 1, none⟩, .int .u64 b2), (⟨w.heap.size + 1 + 1, 0, none⟩, .int .u64 c1), (⟨w.heap.size + 1 + 1, 1, none⟩, .int .u64 c2)] [] w7 := by
    refine KeptC.below ?_ hbn
    repeat' (first | refine KeptC.cons ?_ ?_ | refine KeptC.consF ?_ ?_ ?_ | refine KeptC.mk0 ?_)
    all_goals (first | with_reducible assumption | (go_simp; done) | (simp; omega) | exact (by repeat (first | with_reducible refine Below.setCell ?_ (by first | (simp; done) | (simp; omega) | omega) _ | with_reducible refine Below.alloc ?_ (by first | (simp; done) | (simp; omega) | omega) _ | with_reducible refine Below.drew ?_ | with_reducible exact Below.refl _ _ | with_reducible refine Below.trans ?_ (Below.mono kb6 (by first | (simp; done) | (simp; omega) | omega)))))
  clear hbn; clear kb6 kc6_0 kc6_1 kc6_2 kc6_3 kc6_4 kc6_5 kc6_6 kc6_7
  simp only [KeptC, List.forall_mem_cons] at hk; obtain ⟨kb7, ⟨kc7_0, kc7_1, kc7_2, kc7_3, kc7_4, kc7_5, _⟩, _⟩ := hk; have ks7 : w.heap.size ≤ w7.heap.size := kb7.size; have ky7_0 : w.heap.size < w7.heap.size := cell_lt (a := ⟨w.heap.size, 0, none⟩) (by with_reducible assumption); have ky7_1 : w.heap.size + 1 < w7.heap.size := cell_lt (a := ⟨w.heap.size + 1, 0, none⟩) (by with_reducible assumption); have ky7_2 : w.heap.size + 1 + 1 < w7.heap.size := cell_lt (a := ⟨w.heap.size + 1 + 1, 0, none⟩) (by with_reducible assumption)
  go_wp2_with (fail)
  refine (CT.out _).mono ?_; rintro e w8 ⟨rfl, hbn⟩
  have hk : KeptC w [(⟨w.heap.size, 0, none⟩, .int .u64 a1), (⟨w.heap.size, 1, none⟩, .int .u64 a2)] [] w8 := by
    refine KeptC.below ?_ hbn
    repeat' (first | refine KeptC.cons ?_ ?_ | refine KeptC.consF ?_ ?_ ?_ | refine KeptC.mk0 ?_)
    all_goals (first | with_reducible assumption | (go_simp; done) | (simp; omega) | exact (by repeat (first | with_reducible refine Below.setCell ?_ (by first | (simp; done) | (simp; omega) | omega) _ | with_reducible refine Below.alloc ?_ (by first | (simp; done) | (simp; omega) | omega) _ | with_reducible refine Below.drew ?_ | with_reducible exact Below.refl _ _ | with_reducible refine Below.trans ?_ (Below.mono kb7 (by first | (simp; done) | (simp; omega) | omega)))))
  clear hbn; clear kb7 kc7_0 kc7_1 kc7_2 kc7_3 kc7_4 kc7_5
  simp only [KeptC, List.forall_mem_cons] at hk; obtain ⟨kb8, ⟨kc8_0, kc8_1, _⟩, _⟩ := hk; have ks8 : w.heap.size ≤ w8.heap.size := kb8.size; have ky8_0 : w.heap.size < w8.heap.size := cell_lt (a := ⟨w.heap.size, 0, none⟩) (by with_reducible assumption)
  go_wp2_with (fail)
  refine (CR.out _).mono ?_; rintro e w9 ⟨rfl, hbn⟩
  have hk : KeptC w [(⟨w.heap.size, 0, none⟩, .int .u64 a1), (⟨w.heap.size, 1, none⟩, .int .u64 a2)] [] w9 := by
    refine KeptC.below ?_ hbn
    repeat' (first | refine KeptC.cons ?_ ?_ | refine KeptC.consF ?_ ?_ ?_ | refine KeptC.mk0 ?_)
    all_goals (first | with_reducible assumption | (go_simp; done) | (simp; omega) | exact (by repeat (first | with_reducible refine Below.setCell ?_ (by first | (simp; done) | (simp; omega) | omega) _ | with_reducible refine Below.alloc ?_ (by first | (simp; done) | (simp; omega) | omega) _ | with_reducible refine Below.drew ?_ | with_reducible exact Below.refl _ _ | with_reducible refine Below.trans ?_ (Below.mono kb8 (by first | (simp; done) | (simp; omega) | omega)))))
  clear hbn; clear kb8 kc8_0 kc8_1
  simp only [KeptC, List.forall_mem_cons] at hk; obtain ⟨kb9, ⟨kc9_0, kc9_1, _⟩, _⟩ := hk; have ks9 : w.heap.size ≤ w9.heap.size := kb9.size; have ky9_0 : w.heap.size < w9.heap.size := cell_lt (a := ⟨w.heap.size, 0, none⟩) (by with_reducible assumption)
  go_wp2_with (fail)
  refine (awake_any _).mono ?_; rintro e w10 ⟨rfl, hbn⟩
  have hk : KeptC w [] [] w10 := by
    refine KeptC.below ?_ hbn
    repeat' (first | refine KeptC.cons ?_ ?_ | refine KeptC.consF ?_ ?_ ?_ | refine KeptC.mk0 ?_)
    all_goals (first | with_reducible assumption | (go_simp; done) | (simp; omega) | exact (by repeat (first | with_reducible refine Below.setCell ?_ (by first | (simp; done) | (simp; omega) | omega) _ | with_reducible refine Below.alloc ?_ (by first | (simp; done) | (simp; omega) | omega) _ | with_reducible refine Below.drew ?_ | with_reducible exact Below.refl _ _ | with_reducible refine Below.trans ?_ (Below.mono kb9 (by first | (simp; done) | (simp; omega) | omega)))))
  clear hbn; clear kb9 kc9_0 kc9_1
  simp only [KeptC, List.forall_mem_cons] at hk; obtain ⟨kb10, _, _⟩ := hk; have ks10 : w.heap.size ≤ w10.heap.size := kb10.size
  go_wp2
  go_ret
  exact ⟨rfl, kb10⟩
set_option maxRecDepth 100000 in
set_option maxHeartbeats 8000000 in
theorem orders_eq_f (a1 a2 c1 c2 s1 s2 : Int) (str : ByteArray) (LAB : Hid (∀ w, Calls Try.prog 29 #[.agg #[.int .u64 a1, .int .u64 a2], .agg #[.int .u64 a1, .int .u64 a2]] w fun e w' => e = .returned (.bool false) ∧ Below w.heap.size w w'))
    (LBA : Hid (∀ w, Calls Try.prog 29 #[.agg #[.int .u64 a1, .int .u64 a2], .agg #[.int .u64 a1, .int .u64 a2]] w fun e w' => e = .returned (.bool false) ∧ Below w.heap.size w w'))
    (CP : Hid (∀ w, Calls Try.prog 24 #[.agg #[.int .u64 a1, .int .u64 a2], .agg #[.int .u64 a1, .int .u64 a2]] w fun e w' => e = .returned (.tuple #[.agg #[.int .u64 s1, .int .u64 s2], .bool false]) ∧ Below w.heap.size w w'))
    (CQ : Hid (∀ w, Calls Try.prog 24 #[.agg #[.int .u64 a1, .int .u64 a2], .agg #[.int .u64 a1, .int .u64 a2]] w fun e w' => e = .returned (.tuple #[.agg #[.int .u64 s1, .int .u64 s2], .bool false]) ∧ Below w.heap.size w w'))
    (CT : Hid (∀ w, Calls Try.prog 33 #[.agg #[.int .u64 a1, .int .u64 a2]] w fun e w' => e = .returned (.string str) ∧ Below w.heap.size w w'))
    (CR : Hid (∀ w, Calls Try.prog 10 #[.string str] w fun e w' => e = .returned (.tuple #[.agg #[.int .u64 a1, .int .u64 a2], .int .i64 0]) ∧ Below w.heap.size w w')) (w : World) :
    Calls Try.prog 9 #[.agg #[.int .u64 a1, .int .u64 a2], .agg #[.int .u64 a1, .int .u64 a2], .agg #[.int .u64 c1, .int .u64 c2]] w fun e w' => e = .returned (.bool true) ∧ Below w.heap.size w w' := by
  go_enter Try.func9, Try.ntmps9
  go_wp2_with (fail)
  refine (LAB.out _).mono ?_; rintro e w1 ⟨rfl, hbn⟩
  have hk : KeptC w [(⟨w.heap.size, 0, none⟩, .int .u64 a1), (⟨w.heap.size, 1, none⟩, .int .u64 a2), (⟨w.heap.size + 1, 0, none⟩, .int .u64 a1), (⟨w.heap.size + 1, 1, none⟩, .int .u64 a2), (⟨w.heap.size + 1 + 1, 0, none⟩, .int .u64 c1), (⟨w.heap.size + 1 + 1, 1, none⟩, .int .u64 c2)] [] w1 := by
    refine KeptC.below ?_ hbn
    repeat' (first | refine KeptC.cons ?_ ?_ | refine KeptC.consF ?_ ?_ ?_ | refine KeptC.mk0 ?_)
    all_goals (first | with_reducible assumption | (go_simp; done) | (simp; omega) | exact (by repeat (first | with_reducible refine Below.setCell ?_ (by first | (simp; done) | (simp; omega) | omega) _ | with_reducible refine Below.alloc ?_ (by first | (simp; done) | (simp; omega) | omega) _ | with_reducible refine Below.drew ?_ | with_reducible exact Below.refl _ _)))
  clear hbn
  simp only [KeptC, List.forall_mem_cons] at hk; obtain ⟨kb1, ⟨kc1_0, kc1_1, kc1_2, kc1_3, kc1_4, kc1_5, _⟩, _⟩ := hk; have ks1 : w.heap.size ≤ w1.heap.size := kb1.size; have ky1_0 : w.heap.size < w1.heap.size := cell_lt (a := ⟨w.heap.size, 0, none⟩) (by with_reducible assumption); have ky1_1 : w.heap.size + 1 < w1.heap.size := cell_lt (a := ⟨w.heap.size + 1, 0, none⟩) (by with_reducible assumption); have ky1_2 : w.heap.size + 1 + 1 < w1.heap.size := cell_lt (a := ⟨w.heap.size + 1 + 1, 0, none⟩) (by with_reducible assumption)
  go_wp2_with (fail)
  refine (LAB.out _).mono ?_; rintro e w2 ⟨rfl, hbn⟩
  have hk : KeptC w [(⟨w.heap.size, 0, none⟩, .int .u64 a1), (⟨w.heap.size, 1, none⟩, .int .u64 a2), (⟨w.heap.size + 1, 0, none⟩, .int .u64 a1), (⟨w.heap.size + 1, 1, none⟩, .int .u64 a2), (⟨w.heap.size + 1 + 1, 0, none⟩, .int .u64 c1), (⟨w.heap.size + 1 + 1, 1, none⟩, .int .u64 c2)] [] w2 := by
    refine KeptC.below ?_ hbn
    repeat' (first | refine KeptC.cons ?_ ?_ | refine KeptC.consF ?_ ?_ ?_ | refine KeptC.mk0 ?_)
    all_goals (first | with_reducible assumption | (go_simp; done) | (simp; omega) | exact (by repeat (first | with_reducible refine Below.setCell ?_ (by first | (simp; done) | (simp; omega) | omega) _ | with_reducible refine Below.alloc ?_ (by first | (simp; done) | (simp; omega) | omega) _ | with_reducible refine Below.drew ?_ | with_reducible exact Below.refl _ _ | with_reducible refine Below.trans ?_ (Below.mono kb1 (by first | (simp; done) | (simp; omega) | omega)))))
  clear hbn; clear kb1 kc1_0 kc1_1 kc1_2 kc1_3 kc1_4 kc1_5
  simp only [KeptC, List.forall_mem_cons] at hk; obtain ⟨kb2, ⟨kc2_0, kc2_1, kc2_2, kc2_3, kc2_4, kc2_5, _⟩, _⟩ := hk; have ks2 : w.heap.size ≤ w2.heap.size := kb2.size; have ky2_0 : w.heap.size < w2.heap.size := cell_lt (a := ⟨w.heap.size, 0, none⟩) (by with_reducible assumption); have ky2_1 : w.heap.size + 1 < w2.heap.size := cell_lt (a := ⟨w.heap.size + 1, 0, none⟩) (by with_reducible assumption); have ky2_2 : w.heap.size + 1 + 1 < w2.heap.size := cell_lt (a := ⟨w.heap.size + 1 + 1, 0, none⟩) (by with_reducible assumption)
  go_wp2_with (fail)
  refine (LBA.out _).mono ?_; rintro e w3 ⟨rfl, hbn⟩
  have hk : KeptC w [(⟨w.heap.size, 0, none⟩, .int .u64 a1), (⟨w.heap.size, 1, none⟩, .int .u64 a2), (⟨w.heap.size + 1, 0, none⟩, .int .u64 a1), (⟨w.heap.size + 1, 1, none⟩, .int .u64 a2), (⟨w.heap.size + 1 + 1, 0, none⟩, .int .u64 c1), (⟨w.heap.size + 1 + 1, 1, none⟩, .int .u64 c2)] [] w3 := by
    refine KeptC.below ?_ hbn
    repeat' (first | refine KeptC.cons ?_ ?_ | refine KeptC.consF ?_ ?_ ?_ | refine KeptC.mk0 ?_)
    all_goals (first | with_reducible assumption | (go_simp; done) | (simp; omega) | exact (by repeat (first | with_reducible refine Below.setCell ?_ (by first | (simp; done) | (simp; omega) | omega) _ | with_reducible refine Below.alloc ?_ (by first | (simp; done) | (simp; omega) | omega) _ | with_reducible refine Below.drew ?_ | with_reducible exact Below.refl _ _ | with_reducible refine Below.trans ?_ (Below.mono kb2 (by first | (simp; done) | (simp; omega) | omega)))))
  clear hbn; clear kb2 kc2_0 kc2_1 kc2_2 kc2_3 kc2_4 kc2_5
  simp only [KeptC, List.forall_mem_cons] at hk; obtain ⟨kb3, ⟨kc3_0, kc3_1, kc3_2, kc3_3, kc3_4, kc3_5, _⟩, _⟩ := hk; have ks3 : w.heap.size ≤ w3.heap.size := kb3.size; have ky3_0 : w.heap.size < w3.heap.size := cell_lt (a := ⟨w.heap.size, 0, none⟩) (by with_reducible assumption); have ky3_1 : w.heap.size + 1 < w3.heap.size := cell_lt (a := ⟨w.heap.size + 1, 0, none⟩) (by with_reducible assumption); have ky3_2 : w.heap.size + 1 + 1 < w3.heap.size := cell_lt (a := ⟨w.heap.size + 1 + 1, 0, none⟩) (by with_reducible assumption)
  go_wp2_with (fail)
  refine (LAB.out _).mono ?_; rintro e w4 ⟨rfl, hbn⟩
  have hk : KeptC w [(⟨w.heap.size, 0, none⟩, .int .u64 a1), (⟨w.heap.size, 1, none⟩, .int .u64 a2), (⟨w.heap.size + 1, 0, none⟩, .int .u64 a1), (⟨w.heap.size + 1, 1, none⟩, .int .u64 a2), (⟨w.heap.size + 1 + 1, 0, none⟩, .int .u64 c1), (⟨w.heap.size + 1 + 1, 1, none⟩, .int .u64 c2)] [] w4 := by
    refine KeptC.below ?_ hbn
    repeat' (first | refine KeptC.cons ?_ ?_ | refine KeptC.consF ?_ ?_ ?_ | refine KeptC.mk0 ?_)
    all_goals (first | with_reducible assumption | (go_simp; done) | (simp; omega) | exact (by repeat (first | with_reducible refine Below.setCell ?_ (by first | (simp; done) | (simp; omega) | omega) _ | with_reducible refine Below.alloc ?_ (by first | (simp; done) | (simp; omega) | omega) _ | with_reducible refine Below.drew ?_ | with_reducible exact Below.refl _ _ | with_reducible refine Below.trans ?_ (Below.mono kb3 (by first | (simp; done) | (simp; omega) | omega)))))
  clear hbn; clear kb3 kc3_0 kc3_1 kc3_2 kc3_3 kc3_4 kc3_5
  simp only [KeptC, List.forall_mem_cons] at hk; obtain ⟨kb4, ⟨kc4_0, kc4_1, kc4_2, kc4_3, kc4_4, kc4_5, _⟩, _⟩ := hk; have ks4 : w.heap.size ≤ w4.heap.size := kb4.size; have ky4_0 : w.heap.size < w4.heap.size := cell_lt (a := ⟨w.heap.size, 0, none⟩) (by with_reducible assumption); have ky4_1 : w.heap.size + 1 < w4.heap.size := cell_lt (a := ⟨w.heap.size + 1, 0, none⟩) (by with_reducible assumption); have ky4_2 : w.heap.size + 1 + 1 < w4.heap.size := cell_lt (a := ⟨w.heap.size + 1 + 1, 0, none⟩) (by with_reducible assumption)
  go_wp2_with (fail)
  refine (CP.out _).mono ?_; rintro e w5 ⟨rfl, hbn⟩
  have hk : KeptC w [(⟨w.heap.size, 0, none⟩, .int .u64 a1), (⟨w.heap.size, 1, none⟩, .int .u64 a2), (⟨w.heap.size + 1, 0, none⟩, .int .u64 a1), (⟨w.heap.size + 1, 1, none⟩, .int .u64 a2), (⟨w.heap.size + 1 + 1, 0, none⟩, .int .u64 c1), (⟨w.heap.size + 1 + 1, 1, none⟩, .int .u64 c2)] [] w5 := by
    refine KeptC.below ?_ hbn
    repeat' (first | refine KeptC.cons ?_ ?_ | refine KeptC.consF ?_ ?_ ?_ | refine KeptC.mk0 ?_)
    all_goals (first | with_reducible assumption | (go_simp; done) | (simp; omega) | exact (by repeat (first | with_reducible refine Below.setCell ?_ (by first | (simp; done) | (simp; omega) | omega) _ | with_reducible refine Below.alloc ?_ (by first | (simp; done) | (simp; omega) | omega) _ | with_reducible refine Below.drew ?_ | with_reducible exact Below.refl _ _ | with_reducible refine Below.trans ?_ (Below.mono kb4 (by first | (simp; done) | (simp; omega) | omega)))))
  clear hbn; clear kb4 kc4_0 kc4_1 kc4_2 kc4_3 kc4_4 kc4_5
  simp only [KeptC, List.forall_mem_cons] at hk; obtain ⟨kb5, ⟨kc5_0, kc5_1, kc5_2, kc5_3, kc5_4, kc5_5, _⟩, _⟩ := hk; have ks5 : w.heap.size ≤ w5.heap.size := kb5.size; have ky5_0 : w.heap.size < w5.heap.size := cell_lt (a := ⟨w.heap.size, 0, none⟩) (by with_reducible assumption); have ky5_1 : w.heap.size + 1 < w5.heap.size := cell_lt (a := ⟨w.heap.size + 1, 0, none⟩) (by with_reducible assumption); have ky5_2 : w.heap.size + 1 + 1 < w5.heap.size := cell_lt (a := ⟨w.heap.size + 1 + 1, 0, none⟩) (by with_reducible assumption)
  go_wp2_with (fail)
  refine (CQ.out _).mono ?_; rintro e w6 ⟨rfl, hbn⟩
  have hk : KeptC w [(⟨w.heap.size, 0, none⟩, .int .u64 a1), (⟨w.heap.size, 1, none⟩, .int .u64 a2), (⟨w.heap.size + 1, 0, none⟩, .int .u64 a1), (⟨w.heap.size + 1, 1, none⟩, .int .u64 a2), (⟨w.heap.size + 1 + 1, 0, none⟩, .int .u64 c1), (⟨w.heap.size + 1 + 1, 1, none⟩, .int .u64 c2), (⟨w5.heap.size, 0, none⟩, .int .u64 s1), (⟨w5.heap.size, 1, none⟩, .int .u64 s2)] [] w6 := by
    refine KeptC.below ?_ hbn
    repeat' (first | refine KeptC.cons ?_ ?_ | refine KeptC.consF ?_ ?_ ?_ | refine KeptC.mk0 ?_)
    all_goals (first | with_reducible assumption | (go_simp; done) | (simp; omega) | exact (by repeat (first | with_reducible refine Below.setCell ?_ (by first | (simp; done) | (simp; omega) | omega) _ | with_reducible refine Below.alloc ?_ (by first | (simp; done) | (simp; omega) | omega) _ | with_reducible refine Below.drew ?_ | with_reducible exact Below.refl _ _ | with_reducible refine Below.trans ?_ (Below.mono kb5 (by first | (simp; done) | (simp; omega) | omega)))))
  clear hbn; clear kb5 kc5_0 kc5_1 kc5_2 kc5_3 kc5_4 kc5_5
  simp only [KeptC, List.forall_mem_cons] at hk; obtain ⟨kb6, ⟨kc6_0, kc6_1, kc6_2, kc6_3, kc6_4, kc6_5, kc6_6, kc6_7, _⟩, _⟩ := hk; have ks6 : w.heap.size ≤ w6.heap.size := kb6.size; have ky6_0 : w.heap.size < w6.heap.size := cell_lt (a := ⟨w.heap.size, 0, none⟩) (by with_reducible assumption); have ky6_1 : w.heap.size + 1 < w6.heap.size := cell_lt (a := ⟨w.heap.size + 1, 0, none⟩) (by with_reducible assumption); have ky6_2 : w.heap.size + 1 + 1 < w6.heap.size := cell_lt (a := ⟨w.heap.size + 1 + 1, 0, none⟩) (by with_reducible assumption); have ky6_3 : w5.heap.size < w6.heap.size := cell_lt (a := ⟨w5.heap.size, 0, none⟩) (by with_reducible assumption)
  go_wp2_with (fail)
  refine (CT.out _).mono ?_; rintro e w7 ⟨rfl, hbn⟩
  have hk : KeptC w [(⟨w.heap.size, 0, none⟩, .int .u64 a1), (⟨w.heap.size, 1, none⟩, .int .u64 a2)] [] w7 := by
    refine KeptC.below ?_ hbn
    repeat' (first | refine KeptC.cons ?_ ?_ | refine KeptC.consF ?_ ?_ ?_ | refine KeptC.mk0 ?_)
    all_goals (first | with_reducible assumption | (go_simp; done) | (simp; omega) | exact (by repeat (first | with_reducible refine Below.setCell ?_ (by first | (simp; done) | (simp; omega) | omega) _ | with_reducible refine Below.alloc ?_ (by first | (simp; done) | (simp; omega) | omega) _ | with_reducible refine Below.drew ?_ | with_reducible exact Below.refl _ _ | with_reducible refine Below.trans ?_ (Below.mono kb6 (by first | (simp; done) | (simp; omega) | omega)))))
  clear hbn; clear kb6 kc6_0 kc6_1 kc6_2 kc6_3 kc6_4 kc6_5 kc6_6 kc6_7
  simp only [KeptC, List.forall_mem_cons] at hk; obtain ⟨kb7, ⟨kc7_0, kc7_1, _⟩, _⟩ := hk; have ks7 : w.heap.size ≤ w7.heap.size := kb7.size; have ky7_0 : w.heap.size < w7.heap.size := cell_lt (a := ⟨w.heap.size, 0, none⟩) (by with_reducible assumption)
  go_wp2_with (fail)
  refine (CR.out _).mono ?_; rintro e w8 ⟨rfl, hbn⟩
  have hk : KeptC w [(⟨w.heap.size, 0, none⟩, .int .u64 a1), (⟨w.heap.size, 1, none⟩, .int .u64 a2)] [] w8 := by
    refine KeptC.below ?_ hbn
    repeat' (first | refine KeptC.cons ?_ ?_ | refine KeptC.consF ?_ ?_ ?_ | refine KeptC.mk0 ?_)
    all_goals (first | with_reducible assumption | (go_simp; done) | (simp; omega) | exact (by repeat (first | with_reducible refine Below.setCell ?_ (by first | (simp; done) | (simp; omega) | omega) _ | with_reducible refine Below.alloc ?_ (by first | (simp; done) | (simp; omega) | omega) _ | with_reducible refine Below.drew ?_ | with_reducible exact Below.refl _ _ | with_reducible refine Below.trans ?_ (Below.mono kb7 (by first | (simp; done) | (simp; omega) | omega)))))
  clear hbn; clear kb7 kc7_0 kc7_1
  simp only [KeptC, List.forall_mem_cons] at hk; obtain ⟨kb8, ⟨kc8_0, kc8_1, _⟩, _⟩ := hk; have ks8 : w.heap.size ≤ w8.heap.size := kb8.size; have ky8_0 : w.heap.size < w8.heap.size := cell_lt (a := ⟨w.heap.size, 0, none⟩) (by with_reducible assumption)
  go_wp2_with (fail)
  refine (awake_any _).mono ?_; rintro e w9 ⟨rfl, hbn⟩
  have hk : KeptC w [] [] w9 := by
    refine KeptC.below ?_ hbn
    repeat' (first | refine KeptC.cons ?_ ?_ | refine KeptC.consF ?_ ?_ ?_ | refine KeptC.mk0 ?_)
    all_goals (first | with_reducible assumption | (go_simp; done) | (simp; omega) | exact (by repeat (first | with_reducible refine Below.setCell ?_ (by first | (simp; done) | (simp; omega) | omega) _ | with_reducible refine Below.alloc ?_ (by first | (simp; done) | (simp; omega) | omega) _ | with_reducible refine Below.drew ?_ | with_reducible exact Below.refl _ _ | with_reducible refine Below.trans ?_ (Below.mono kb8 (by first | (simp; done) | (simp; omega) | omega)))))
  clear hbn; clear kb8 kc8_0 kc8_1
  simp only [KeptC, List.forall_mem_cons] at hk; obtain ⟨kb9, _, _⟩ := hk; have ks9 : w.heap.size ≤ w9.heap.size := kb9.size
  go_wp2
  go_ret
  exact ⟨rfl, kb9⟩
set_option maxRecDepth 100000 in
set_option maxHeartbeats 8000000 in
theorem orders_eq_t (a1 a2 c1 c2 s1 s2 : Int) (str : ByteArray) (LAB : Hid (∀ w, Calls Try.prog 29 #[.agg #[.int .u64 a1, .int .u64 a2], .agg #[.int .u64 a1, .int .u64 a2]] w fun e w' => e = .returned (.bool false) ∧ Below w.heap.size w w'))
    (LBA : Hid (∀ w, Calls Try.prog 29 #[.agg #[.int .u64 a1, .int .u64 a2], .agg #[.int .u64 a1, .int .u64 a2]] w fun e w' => e = .returned (.bool false) ∧ Below w.heap.size w w'))
    (CP : Hid (∀ w, Calls Try.prog 24 #[.agg #[.int .u64 a1, .int .u64 a2], .agg #[.int .u64 a1, .int .u64 a2]] w fun e w' => e = .returned (.tuple #[.agg #[.int .u64 s1, .int .u64 s2], .bool true]) ∧ Below w.heap.size w w'))
    (CQ : Hid (∀ w, Calls Try.prog 24 #[.agg #[.int .u64 a1, .int .u64 a2], .agg #[.int .u64 a1, .int .u64 a2]] w fun e w' => e = .returned (.tuple #[.agg #[.int .u64 s1, .int .u64 s2], .bool true]) ∧ Below w.heap.size w w'))
    (CT : Hid (∀ w, Calls Try.prog 33 #[.agg #[.int .u64 a1, .int .u64 a2]] w fun e w' => e = .returned (.string str) ∧ Below w.heap.size w w'))
    (CR : Hid (∀ w, Calls Try.prog 10 #[.string str] w fun e w' => e = .returned (.tuple #[.agg #[.int .u64 a1, .int .u64 a2], .int .i64 0]) ∧ Below w.heap.size w w'))
    (CD : Hid (∀ w, Calls Try.prog 28 #[.agg #[.int .u64 s1, .int .u64 s2], .agg #[.int .u64 a1, .int .u64 a2]] w fun e w' => e = .returned (.tuple #[.agg #[.int .u64 a1, .int .u64 a2], .bool true]) ∧ Below w.heap.size w w')) (w : World) :
    Calls Try.prog 9 #[.agg #[.int .u64 a1, .int .u64 a2], .agg #[.int .u64 a1, .int .u64 a2], .agg #[.int .u64 c1, .int .u64 c2]] w fun e w' => e = .returned (.bool true) ∧ Below w.heap.size w w' := by
  go_enter Try.func9, Try.ntmps9
  go_wp2_with (fail)
  refine (LAB.out _).mono ?_; rintro e w1 ⟨rfl, hbn⟩
  have hk : KeptC w [(⟨w.heap.size, 0, none⟩, .int .u64 a1), (⟨w.heap.size, 1, none⟩, .int .u64 a2), (⟨w.heap.size + 1, 0, none⟩, .int .u64 a1), (⟨w.heap.size + 1, 1, none⟩, .int .u64 a2), (⟨w.heap.size + 1 + 1, 0, none⟩, .int .u64 c1), (⟨w.heap.size + 1 + 1, 1, none⟩, .int .u64 c2)] [] w1 := by
    refine KeptC.below ?_ hbn
    repeat' (first | refine KeptC.cons ?_ ?_ | refine KeptC.consF ?_ ?_ ?_ | refine KeptC.mk0 ?_)
    all_goals (first | with_reducible assumption | (go_simp; done) | (simp; omega) | exact (by repeat (first | with_reducible refine Below.setCell ?_ (by first | (simp; done) | (simp; omega) | omega) _ | with_reducible refine Below.alloc ?_ (by first | (simp; done) | (simp; omega) | omega) _ | with_reducible refine Below.drew ?_ | with_reducible exact Below.refl _ _)))
  clear hbn
  simp only [KeptC, List.forall_mem_cons] at hk; obtain ⟨kb1, ⟨kc1_0, kc1_1, kc1_2, kc1_3, kc1_4, kc1_5, _⟩, _⟩ := hk; have ks1 : w.heap.size ≤ w1.heap.size := kb1.size; have ky1_0 : w.heap.size < w1.heap.size := cell_lt (a := ⟨w.heap.size, 0, none⟩) (by with_reducible assumption); have ky1_1 : w.heap.size + 1 < w1.heap.size := cell_lt (a := ⟨w.heap.size + 1, 0, none⟩) (by with_reducible assumption); have ky1_2 : w.heap.size + 1 + 1 < w1.heap.size := cell_lt (a := ⟨w.heap.size + 1 + 1, 0, none⟩) (by with_reducible assumption)
  go_wp2_with (fail)
  refine (LAB.out _).mono ?_; rintro e w2 ⟨rfl, hbn⟩
  have hk : KeptC w [(⟨w.heap.size, 0, none⟩, .int .u64 a1), (⟨w.heap.size, 1, none⟩, .int .u64 a2), (⟨w.heap.size + 1, 0, none⟩, .int .u64 a1), (⟨w.heap.size + 1, 1, none⟩, .int .u64 a2), (⟨w.heap.size + 1 + 1, 0, none⟩, .int .u64 c1), (⟨w.heap.size + 1 + 1, 1, none⟩, .int .u64 c2)] [] w2 := by
    refine KeptC.below ?_ hbn
    repeat' (first | refine KeptC.cons ?_ ?_ | refine KeptC.consF ?_ ?_ ?_ | refine KeptC.mk0 ?_)
    all_goals (first | with_reducible assumption | (go_simp; done) | (simp; omega) | exact (by repeat (first | with_reducible refine Below.setCell ?_ (by first | (simp; done) | (simp; omega) | omega) _ | with_reducible refine Below.alloc ?_ (by first | (simp; done) | (simp; omega) | omega) _ | with_reducible refine Below.drew ?_ | with_reducible exact Below.refl _ _ | with_reducible refine Below.trans ?_ (Below.mono kb1 (by first | (simp; done) | (simp; omega) | omega)))))
  clear hbn; clear kb1 kc1_0 kc1_1 kc1_2 kc1_3 kc1_4 kc1_5
  simp only [KeptC, List.forall_mem_cons] at hk; obtain ⟨kb2, ⟨kc2_0, kc2_1, kc2_2, kc2_3, kc2_4, kc2_5, _⟩, _⟩ := hk; have ks2 : w.heap.size ≤ w2.heap.size := kb2.size; have ky2_0 : w.heap.size < w2.heap.size := cell_lt (a := ⟨w.heap.size, 0, none⟩) (by with_reducible assumption); have ky2_1 : w.heap.size + 1 < w2.heap.size := cell_lt (a := ⟨w.heap.size + 1, 0, none⟩) (by with_reducible assumption); have ky2_2 : w.heap.size + 1 + 1 < w2.heap.size := cell_lt (a := ⟨w.heap.size + 1 + 1, 0, none⟩) (by with_reducible assumption)
  go_wp2_with (fail)
  refine (LBA.out _).mono ?_; rintro e w3 ⟨rfl, hbn⟩
  have hk : KeptC w [(⟨w.heap.size, 0, none⟩, .int .u64 a1), (⟨w.heap.size, 1, none⟩, .int .u64 a2), (⟨w.heap.size + 1, 0, none⟩, .int .u64 a1), (⟨w.heap.size + 1, 1, none⟩, .int .u64 a2), (⟨w.heap.size + 1 + 1, 0, none⟩, .int .u64 c1), (⟨w.heap.size + 1 + 1, 1, none⟩, .int .u64 c2)] [] w3 := by
    refine KeptC.below ?_ hbn
    repeat' (first | refine KeptC.cons ?_ ?_ | refine KeptC.consF ?_ ?_ ?_ | refine KeptC.mk0 ?_)
    all_goals (first | with_reducible assumption | (go_simp; done) | (simp; omega) | exact (by repeat (first | with_reducible refine Below.setCell ?_ (by first | (simp; done) | (simp; omega) | omega) _ | with_reducible refine Below.alloc ?_ (by first | (simp; done) | (simp; omega) | omega) _ | with_reducible refine Below.drew ?_ | with_reducible exact Below.refl _ _ | with_reducible refine Below.trans ?_ (Below.mono kb2 (by first | (simp; done) | (simp; omega) | omega)))))
  clear hbn; clear kb2 kc2_0 kc2_1 kc2_2 kc2_3 kc2_4 kc2_5
  simp only [KeptC, List.forall_mem_cons] at hk; obtain ⟨kb3, ⟨kc3_0, kc3_1, kc3_2, kc3_3, kc3_4, kc3_5, _⟩, _⟩ := hk; have ks3 : w.heap.size ≤ w3.heap.size := kb3.size; have ky3_0 : w.heap.size < w3.heap.size := cell_lt (a := ⟨w.heap.size, 0, none⟩) (by with_reducible assumption); have ky3_1 : w.heap.size + 1 < w3.heap.size := cell_lt (a := ⟨w.heap.size + 1, 0, none⟩) (by with_reducible assumption); have ky3_2 : w.heap.size + 1 + 1 < w3.heap.size := cell_lt (a := ⟨w.heap.size + 1 + 1, 0, none⟩) (by with_reducible assumption)
  go_wp2_with (fail)
  refine (LAB.out _).mono ?_; rintro e w4 ⟨rfl, hbn⟩
  have hk : KeptC w [(⟨w.heap.size, 0, none⟩, .int .u64 a1), (⟨w.heap.size, 1, none⟩, .int .u64 a2), (⟨w.heap.size + 1, 0, none⟩, .int .u64 a1), (⟨w.heap.size + 1, 1, none⟩, .int .u64 a2), (⟨w.heap.size + 1 + 1, 0, none⟩, .int .u64 c1), (⟨w.heap.size + 1 + 1, 1, none⟩, .int .u64 c2)] [] w4 := by
    refine KeptC.below ?_ hbn
    repeat' (first | refine KeptC.cons ?_ ?_ | refine KeptC.consF ?_ ?_ ?_ | refine KeptC.mk0 ?_)
    all_goals (first | with_reducible assumption | (go_simp; done) | (simp; omega) | exact (by repeat (first | with_reducible refine Below.setCell ?_ (by first | (simp; done) | (simp; omega) | omega) _ | with_reducible refine Below.alloc ?_ (by first | (simp; done) | (simp; omega) | omega) _ | with_reducible refine Below.drew ?_ | with_reducible exact Below.refl _ _ | with_reducible refine Below.trans ?_ (Below.mono kb3 (by first | (simp; done) | (simp; omega) | omega)))))
  clear hbn; clear kb3 kc3_0 kc3_1 kc3_2 kc3_3 kc3_4 kc3_5
  simp only [KeptC, List.forall_mem_cons] at hk; obtain ⟨kb4, ⟨kc4_0, kc4_1, kc4_2, kc4_3, kc4_4, kc4_5, _⟩, _⟩ := hk; have ks4 : w.heap.size ≤ w4.heap.size := kb4.size; have ky4_0 : w.heap.size < w4.heap.size := cell_lt (a := ⟨w.heap.size, 0, none⟩) (by with_reducible assumption); have ky4_1 : w.heap.size + 1 < w4.heap.size := cell_lt (a := ⟨w.heap.size + 1, 0, none⟩) (by with_reducible assumption); have ky4_2 : w.heap.size + 1 + 1 < w4.heap.size := cell_lt (a := ⟨w.heap.size + 1 + 1, 0, none⟩) (by with_reducible assumption)
  go_wp2_with (fail)
  refine (CP.out _).mono ?_; rintro e w5 ⟨rfl, hbn⟩
  have hk : KeptC w [(⟨w.heap.size, 0, none⟩, .int .u64 a1), (⟨w.heap.size, 1, none⟩, .int .u64 a2), (⟨w.heap.size + 1, 0, none⟩, .int .u64 a1), (⟨w.heap.size + 1, 1, none⟩, .int .u64 a2), (⟨w.heap.size + 1 + 1, 0, none⟩, .int .u64 c1), (⟨w.heap.size + 1 + 1, 1, none⟩, .int .u64 c2)] [] w5 := by
    refine KeptC.below ?_ hbn
    repeat' (first | refine KeptC.cons ?_ ?_ | refine KeptC.consF ?_ ?_ ?_ | refine KeptC.mk0 ?_)
    all_goals (first | with_reducible assumption | (go_simp; done) | (simp; omega) | exact (by repeat (first | with_reducible refine Below.setCell ?_ (by first | (simp; done) | (simp; omega) | omega) _ | with_reducible refine Below.alloc ?_ (by first | (simp; done) | (simp; omega) | omega) _ | with_reducible refine Below.drew ?_ | with_reducible exact Below.refl _ _ | with_reducible refine Below.trans ?_ (Below.mono kb4 (by first | (simp; done) | (simp; omega) | omega)))))
  clear hbn; clear kb4 kc4_0 kc4_1 kc4_2 kc4_3 kc4_4 kc4_5
  simp only [KeptC, List.forall_mem_cons] at hk; obtain ⟨kb5, ⟨kc5_0, kc5_1, kc5_2, kc5_3, kc5_4, kc5_5, _⟩, _⟩ := hk; have ks5 : w.heap.size ≤ w5.heap.size := kb5.size; have ky5_0 : w.heap.size < w5.heap.size := cell_lt (a := ⟨w.heap.size, 0, none⟩) (by with_reducible assumption); have ky5_1 : w.heap.size + 1 < w5.heap.size := cell_lt (a := ⟨w.heap.size + 1, 0, none⟩) (by with_reducible assumption); have ky5_2 : w.heap.size + 1 + 1 < w5.heap.size := cell_lt (a := ⟨w.heap.size + 1 + 1, 0, none⟩) (by with_reducible assumption)
  go_wp2_with (fail)
  refine (CQ.out _).mono ?_; rintro e w6 ⟨rfl, hbn⟩
  have hk : KeptC w [(⟨w.heap.size, 0, none⟩, .int .u64 a1), (⟨w.heap.size, 1, none⟩, .int .u64 a2), (⟨w.heap.size + 1, 0, none⟩, .int .u64 a1), (⟨w.heap.size + 1, 1, none⟩, .int .u64 a2), (⟨w.heap.size + 1 + 1, 0, none⟩, .int .u64 c1), (⟨w.heap.size + 1 + 1, 1, none⟩, .int .u64 c2), (⟨w5.heap.size, 0, none⟩, .int .u64 s1), (⟨w5.heap.size, 1, none⟩, .int .u64 s2)] [] w6 := by
    refine KeptC.below ?_ hbn
    repeat' (first | refine KeptC.cons ?_ ?_ | refine KeptC.consF ?_ ?_ ?_ | refine KeptC.mk0 ?_)
    all_goals (first | with_reducible assumption | (go_simp; done) | (simp; omega) | exact (by repeat (first | with_reducible refine Below.setCell ?_ (by first | (simp; done) | (simp; omega) | omega) _ | with_reducible refine Below.alloc ?_ (by first | (simp; done) | (simp; omega) | omega) _ | with_reducible refine Below.drew ?_ | with_reducible exact Below.refl _ _ | with_reducible refine Below.trans ?_ (Below.mono kb5 (by first | (simp; done) | (simp; omega) | omega)))))
  clear hbn; clear kb5 kc5_0 kc5_1 kc5_2 kc5_3 kc5_4 kc5_5
  simp only [KeptC, List.forall_mem_cons] at hk; obtain ⟨kb6, ⟨kc6_0, kc6_1, kc6_2, kc6_3, kc6_4, kc6_5, kc6_6, kc6_7, _⟩, _⟩ := hk; have ks6 : w.heap.size ≤ w6.heap.size := kb6.size; have ky6_0 : w.heap.size < w6.heap.size := cell_lt (a := ⟨w.heap.size, 0, none⟩) (by with_reducible assumption); have ky6_1 : w.heap.size + 1 < w6.heap.size := cell_lt (a := ⟨w.heap.size + 1, 0, none⟩) (by with_reducible assumption); have ky6_2 : w.heap.size + 1 + 1 < w6.heap.size := cell_lt (a := ⟨w.heap.size + 1 + 1, 0, none⟩) (by with_reducible assumption); have ky6_3 : w5.heap.size < w6.heap.size := cell_lt (a := ⟨w5.heap.size, 0, none⟩) (by with_reducible assumption)
  go_wp2_with (fail)
  refine (CD.out _).mono ?_; rintro e w7 ⟨rfl, hbn⟩
  have hk : KeptC w [(⟨w.heap.size, 0, none⟩, .int .u64 a1), (⟨w.heap.size, 1, none⟩, .int .u64 a2), (⟨w.heap.size + 1, 0, none⟩, .int .u64 a1), (⟨w.heap.size + 1, 1, none⟩, .int .u64 a2), (⟨w.heap.size + 1 + 1, 0, none⟩, .int .u64 c1), (⟨w.heap.size + 1 + 1, 1, none⟩, .int .u64 c2)] [] w7 := by
    refine KeptC.below ?_ hbn
    repeat' (first | refine KeptC.cons ?_ ?_ | refine KeptC.consF ?_ ?_ ?_ | refine KeptC.mk0 ?_)
    all_goals (first | with_reducible assumption | (go_simp; done) | (simp; omega) | exact (by repeat (first | with_reducible refine Below.setCell ?_ (by first | (simp; done) | (simp; omega) | omega) _ | with_reducible refine Below.alloc ?_ (by first | (simp; done) | (simp; omega) | omega) _ | with_reducible refine Below.drew ?_ | with_reducible exact Below.refl _ _ | with_reducible refine Below.trans ?_ (Below.mono kb6 (by first | (simp; done) | (simp; omega) | omega)))))
  clear hbn; clear kb6 kc6_0 kc6_1 kc6_2 kc6_3 kc6_4 kc6_5 kc6_6 kc6_7
  simp only [KeptC, List.forall_mem_cons] at hk; obtain ⟨kb7, ⟨kc7_0, kc7_1, kc7_2, kc7_3, kc7_4, kc7_5, _⟩, _⟩ := hk; have ks7 : w.heap.size ≤ w7.heap.size := kb7.size; have ky7_0 : w.heap.size < w7.heap.size := cell_lt (a := ⟨w.heap.size, 0, none⟩) (by with_reducible assumption); have ky7_1 : w.heap.size + 1 < w7.heap.size := cell_lt (a := ⟨w.heap.size + 1, 0, none⟩) (by with_reducible assumption); have ky7_2 : w.heap.size + 1 + 1 < w7.heap.size := cell_lt (a := ⟨w.heap.size + 1 + 1, 0, none⟩) (by with_reducible assumption)
  go_wp2_with (fail)
  refine (CT.out _).mono ?_; rintro e w8 ⟨rfl, hbn⟩
  have hk : KeptC w [(⟨w.heap.size, 0, none⟩, .int .u64 a1), (⟨w.heap.size, 1, none⟩, .int .u64 a2)] [] w8 := by
    refine KeptC.below ?_ hbn
    repeat' (first | refine KeptC.cons ?_ ?_ | refine KeptC.consF ?_ ?_ ?_ | refine KeptC.mk0 ?_)
    all_goals (first | with_reducible assumption | (go_simp; done) | (simp; omega) | exact (by repeat (first | with_reducible refine Below.setCell ?_ (by first | (simp; done) | (simp; omega) | omega) _ | with_reducible refine Below.alloc ?_ (by first | (simp; done) | (simp; omega) | omega) _ | with_reducible refine Below.drew ?_ | with_reducible exact Below.refl _ _ | with_reducible refine Below.trans ?_ (Below.mono kb7 (by first | (simp; done) | (simp; omega) | omega)))))
  clear hbn; clear kb7 kc7_0 kc7_1 kc7_2 kc7_3 kc7_4 kc7_5
  simp only [KeptC, List.forall_mem_cons] at hk; obtain ⟨kb8, ⟨kc8_0, kc8_1, _⟩, _⟩ := hk; have ks8 : w.heap.size ≤ w8.heap.size := kb8.size; have ky8_0 : w.heap.size < w8.heap.size := cell_lt (a := ⟨w.heap.size, 0, none⟩) (by with_reducible assumption)
  go_wp2_with (fail)
  refine (CR.out _).mono ?_; rintro e w9 ⟨rfl, hbn⟩
  have hk : KeptC w [(⟨w.heap.size, 0, none⟩, .int .u64 a1), (⟨w.heap.size, 1, none⟩, .int .u64 a2)] [] w9 := by
    refine KeptC.below ?_ hbn
    repeat' (first | refine KeptC.cons ?_ ?_ | refine KeptC.consF ?_ ?_ ?_ | refine KeptC.mk0 ?_)
    all_goals (first | with_reducible assumption | (go_simp; done) | (simp; omega) | exact (by repeat (first | with_reducible refine Below.setCell ?_ (by first | (simp; done) | (simp; omega) | omega) _ | with_reducible refine Below.alloc ?_ (by first | (simp; done) | (simp; omega) | omega) _ | with_reducible refine Below.drew ?_ | with_reducible exact Below.refl _ _ | with_reducible refine Below.trans ?_ (Below.mono kb8 (by first | (simp; done) | (simp; omega) | omega)))))
  clear hbn; clear kb8 kc8_0 kc8_1
  simp only [KeptC, List.forall_mem_cons] at hk; obtain ⟨kb9, ⟨kc9_0, kc9_1, _⟩, _⟩ := hk; have ks9 : w.heap.size ≤ w9.heap.size := kb9.size; have ky9_0 : w.heap.size < w9.heap.size := cell_lt (a := ⟨w.heap.size, 0, none⟩) (by with_reducible assumption)
  go_wp2_with (fail)
  refine (awake_any _).mono ?_; rintro e w10 ⟨rfl, hbn⟩
  have hk : KeptC w [] [] w10 := by
    refine KeptC.below ?_ hbn
    repeat' (first | refine KeptC.cons ?_ ?_ | refine KeptC.consF ?_ ?_ ?_ | refine KeptC.mk0 ?_)
    all_goals (first | with_reducible assumption | (go_simp; done) | (simp; omega) | exact (by repeat (first | with_reducible refine Below.setCell ?_ (by first | (simp; done) | (simp; omega) | omega) _ | with_reducible refine Below.alloc ?_ (by first | (simp; done) | (simp; omega) | omega) _ | with_reducible refine Below.drew ?_ | with_reducible exact Below.refl _ _ | with_reducible refine Below.trans ?_ (Below.mono kb9 (by first | (simp; done) | (simp; omega) | omega)))))
  clear hbn; clear kb9 kc9_0 kc9_1
  simp only [KeptC, List.forall_mem_cons] at hk; obtain ⟨kb10, _, _⟩ := hk; have ks10 : w.heap.size ≤ w10.heap.size := kb10.size
  go_wp2
  go_ret
  exact ⟨rfl, kb10⟩
theorem lessTo {x1 x2 y1 y2 : Int} {v : Bool} (h : lessW ⟨x1, x2⟩ ⟨y1, y2⟩ = v) : Hid (∀ w, Calls Try.prog 29 #[.agg #[.int .u64 x1, .int .u64 x2], .agg #[.int .u64 y1, .int .u64 y2]] w fun e w' => e = .returned (.bool v) ∧ Below w.heap.size w w') :=
  Lib.hid (fun w => by rw [← h]; exact wless_any x1 x2 y1 y2 w)
theorem plusTo {x1 x2 y1 y2 s1 s2 : Int} {v : Bool} (hx1 : Word x1) (hx2 : Word x2) (hy1 : Word y1) (hy2 : Word y2) (h : plusW ⟨x1, x2⟩ ⟨y1, y2⟩ = (⟨s1, s2⟩, v)) : Hid (∀ w, Calls Try.prog 24 #[.agg #[.int .u64 x1, .int .u64 x2], .agg #[.int .u64 y1, .int .u64 y2]] w fun e w' => e = .returned (.tuple #[.agg #[.int .u64 s1, .int .u64 s2], .bool v]) ∧ Below w.heap.size w w') :=
  Lib.hid (fun w => by have := wplus_any x1 x2 y1 y2 w hx1 hx2 hy1 hy2; rw [h] at this; exact this)
theorem dropTo {x1 x2 y1 y2 s1 s2 : Int} {v : Bool} (hx1 : Word x1) (hx2 : Word x2) (hy1 : Word y1) (hy2 : Word y2) (h : dropW ⟨x1, x2⟩ ⟨y1, y2⟩ = (⟨s1, s2⟩, v)) : Hid (∀ w, Calls Try.prog 28 #[.agg #[.int .u64 x1, .int .u64 x2], .agg #[.int .u64 y1, .int .u64 y2]] w fun e w' => e = .returned (.tuple #[.agg #[.int .u64 s1, .int .u64 s2], .bool v]) ∧ Below w.heap.size w w') :=
  Lib.hid (fun w => by have := wdrop_any x1 x2 y1 y2 w hx1 hx2 hy1 hy2; rw [h] at this; exact this)
theorem plus_ok (a b : W) : (plusW a b).1.ok := by
  unfold plusW
  split
  · exact addW_ok a b
  · exact zeroW_ok
theorem numOrders_any (a1 a2 b1 b2 c1 c2 : Int) (w : World) (ha1 : Word a1) (ha2 : Word a2) (hb1 : Word b1) (hb2 : Word b2) (hc1 : Word c1) (hc2 : Word c2) :
    Calls Try.prog 9 #[.agg #[.int .u64 a1, .int .u64 a2], .agg #[.int .u64 b1, .int .u64 b2], .agg #[.int .u64 c1, .int .u64 c2]] w fun e w' => e = .returned (.bool true) ∧ Below w.heap.size w w' := by
  obtain ⟨na, ha, wa⟩ := word_wide ha1 ha2
  obtain ⟨nb, hb, wb⟩ := word_wide hb1 hb2
  obtain ⟨nc, hc, wc⟩ := word_wide hc1 hc2
  have lab : lessW ⟨a1, a2⟩ ⟨b1, b2⟩ = decide (na < nb) := by rw [← wa, ← wb]; exact wide_less na nb ha hb
  have lba : lessW ⟨b1, b2⟩ ⟨a1, a2⟩ = decide (nb < na) := by rw [← wa, ← wb]; exact wide_less nb na hb ha
  have lbc : lessW ⟨b1, b2⟩ ⟨c1, c2⟩ = decide (nb < nc) := by rw [← wc, ← wb]; exact wide_less nb nc hb hc
  have lac : lessW ⟨a1, a2⟩ ⟨c1, c2⟩ = decide (na < nc) := by rw [← wa, ← wc]; exact wide_less na nc ha hc
  have ct : Hid (∀ w, Calls Try.prog 33 #[.agg #[.int .u64 a1, .int .u64 a2]] w fun e w' => e = .returned (.string ⟨(digs na).toArray⟩) ∧ Below w.heap.size w w') :=
    Lib.hid (fun w => by have := text_any na ha w; rw [wa] at this; exact this)
  have cr : Hid (∀ w, Calls Try.prog 10 #[.string ⟨(digs na).toArray⟩] w fun e w' => e = .returned (.tuple #[.agg #[.int .u64 a1, .int .u64 a2], .int .i64 0]) ∧ Below w.heap.size w w') :=
    Lib.hid (fun w => by
      have hl : (digs na).length ≤ 39 := digs_len 38 na (Nat.lt_trans ha M128_pow)
      have := parse_any ⟨(digs na).toArray⟩ w (by show (digs na).toArray.size ≤ maxLen; unfold maxLen; simp; omega)
      rw [show (⟨(digs na).toArray⟩ : ByteArray).data.toList = digs na by simp, parse_text na ha, wa] at this
      exact this)
  have hpd := plus_drop na nb ha hb
  rw [wa, wb] at hpd
  have hpo := plus_ok ⟨a1, a2⟩ ⟨b1, b2⟩
  have hpc := plus_comm ⟨a1, a2⟩ ⟨b1, b2⟩
  generalize hs : plusW ⟨a1, a2⟩ ⟨b1, b2⟩ = s at *
  obtain ⟨⟨s1, s2⟩, ok⟩ := s
  have cp := plusTo ha1 ha2 hb1 hb2 hs
  have cq := plusTo hb1 hb2 ha1 ha2 hpc.symm
  rcases Nat.lt_trichotomy na nb with h | h | h
  · rw [decide_eq_true h] at lab
    rw [decide_eq_false (by omega)] at lba
    by_cases h2 : nb < nc
    · rw [decide_eq_true h2] at lbc
      rw [decide_eq_true (by omega)] at lac
      cases ok with
      | false => exact orders_lt1_f a1 a2 b1 b2 c1 c2 s1 s2 _ (lessTo lab) (lessTo lba) (lessTo lbc) (lessTo lac) cp cq ct cr w
      | true => exact orders_lt1_t a1 a2 b1 b2 c1 c2 s1 s2 _ (lessTo lab) (lessTo lba) (lessTo lbc) (lessTo lac) cp cq ct cr (dropTo hpo.1 hpo.2 hb1 hb2 (hpd rfl)) w
    · rw [decide_eq_false h2] at lbc
      cases ok with
      | false => exact orders_lt2_f a1 a2 b1 b2 c1 c2 s1 s2 _ (lessTo lab) (lessTo lba) (lessTo lbc) cp cq ct cr w
      | true => exact orders_lt2_t a1 a2 b1 b2 c1 c2 s1 s2 _ (lessTo lab) (lessTo lba) (lessTo lbc) cp cq ct cr (dropTo hpo.1 hpo.2 hb1 hb2 (hpd rfl)) w
  · subst h
    rw [wa] at wb
    simp only [W.mk.injEq] at wb
    obtain ⟨rfl, rfl⟩ := wb
    rw [decide_eq_false (by omega)] at lab lba
    cases ok with
    | false => exact orders_eq_f a1 a2 c1 c2 s1 s2 _ (lessTo lab) (lessTo lba) cp cq ct cr w
    | true => exact orders_eq_t a1 a2 c1 c2 s1 s2 _ (lessTo lab) (lessTo lba) cp cq ct cr (dropTo hpo.1 hpo.2 hb1 hb2 (hpd rfl)) w
  · rw [decide_eq_false (by omega)] at lab
    rw [decide_eq_true h] at lba
    cases ok with
    | false => exact orders_gt_f a1 a2 b1 b2 c1 c2 s1 s2 _ (lessTo lab) (lessTo lba) cp cq ct cr w
    | true => exact orders_gt_t a1 a2 b1 b2 c1 c2 s1 s2 _ (lessTo lab) (lessTo lba) cp cq ct cr (dropTo hpo.1 hpo.2 hb1 hb2 (hpd rfl)) w
theorem numOrders_lifted (os : Os) (started : os.Started) (H : Type) (enc : TypeId × Value → H) :
    ReturnsInHanded {} Try.checked os 9 .any (Rows.numOrdersSpec.pre6 enc Try.prog Try.f9 Rows.numOrdersRow.domain false) (Rows.numOrdersSpec.post enc Try.prog Try.f9 false true false false) := by
  refine returnsInHanded_of_change_sized (C := Try.checked) own started (by kernel_rfl) Try.func9
    (ChangeSpec.witness6 (enc := enc) (C := Try.checked) false ⟨#[], #[.agg #[.int .u64 0, .int .u64 0], .agg #[.int .u64 0, .int .u64 0], .agg #[.int .u64 0, .int .u64 0]], []⟩ 8 (by kernel_rfl) (by kernel_rfl) (by kernel_rfl) (by kernel_rfl)) ?_
  intro W base args ds gs before hval hW _ hsz _
  have hW' := hW
  obtain ⟨p, q, hA, hV, rfl, hfz, hnd⟩ := hW
  obtain ⟨rfl, rfl⟩ := trodVars_none hV
  rw [Try.params9] at hA hval
  obtain ⟨v0, vs0, d0, ds0, p0, q0, hargs, rfl, rfl, h0, r0⟩ := trodAll_cons hA
  obtain ⟨v1, vs1, d1, ds1, p1, q1, rfl, rfl, rfl, h1, r1⟩ := trodAll_cons r0
  obtain ⟨v2, vs2, d2, ds2, p2, q2, rfl, rfl, rfl, h2, r2⟩ := trodAll_cons r1
  obtain ⟨rfl, rfl, rfl⟩ := trodAll_nil r2
  obtain rfl : args = #[v0, v1, v2] := by cases args; simp_all
  obtain ⟨a1, a2, rfl, u1, u2⟩ := open_wide (hval 0 _ v0 rfl rfl) h0
  obtain ⟨b1, b2, rfl, u3, u4⟩ := open_wide (hval 1 _ v1 rfl rfl) h1
  obtain ⟨c1, c2, rfl, u5, u6⟩ := open_wide (hval 2 _ v2 rfl rfl) h2
  refine (numOrders_any a1 a2 b1 b2 c1 c2 W u1 u2 u3 u4 u5 u6).mono fun e W' ⟨he, hg⟩ => ?_
  subst he
  exact ⟨_, rfl, law_post laidOut rfl (by kernel_rfl) rfl Try.underlying4 rfl hW' hg⟩

theorem numOrders_holds : Rows.NumOrdersSaid :=
  OpenClaim.holds_of_wide 9 Try.f9 rfl rfl rfl rfl rfl rfl rfl ⟨rfl, rfl, rfl, rfl, rfl⟩ rfl rfl rfl rfl rfl (by kernel_rfl) Try.func9 (by kernel_rfl)
    (of_decide_eq_true (by kernel_rfl)) (by unfold Func.isWrapper; first | (rw [if_pos (by decide +kernel)]; kernel_rfl) | (rw [if_neg (by decide +kernel)]; exact ⟨rfl, rfl⟩))
    (fun os started H enc _ => numOrders_lifted os started H enc)

end Go.Proofs.Ytmgpknadefhikaa
