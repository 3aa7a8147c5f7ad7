/- Whatever two extreme values, number and value: eddylaw16's ExtHolds returns true; whatever the node, its input and four extreme values: ExtTicks. No conditions. -/
import Derived.Test.YtdiccafoajjbmaaL16a
namespace Go.Proofs.Ytdiccafoajjbmaa
open Go.ChangeShapes Go.WideShapes Go.ChangeAt Go.RowKit Go.Joins Go.BigFrame
set_option linter.unusedVariables false
set_option maxHeartbeats 4000000 in
theorem holds_fxfr (id x : Int) (ha : Bool) (va oa aa : Int) (hb : Bool) (vb ob ab : Int) (rb : Bool) (X1 : Hid (∀ w, Calls Try.prog 7 #[.agg #[.bool ha, .int .i64 va, .int .i64 oa, .int .i64 aa]] w fun e w' => e = .returned (.bool false) ∧ Below w.heap.size w w')) (F1 : Hid (∀ w, Calls Try.prog 8 #[.agg #[.bool ha, .int .i64 va, .int .i64 oa, .int .i64 aa]] w fun e w' => e = .returned (.bool false) ∧ Below w.heap.size w w')) (X2 : Hid (∀ w, Calls Try.prog 7 #[.agg #[.bool hb, .int .i64 vb, .int .i64 ob, .int .i64 ab]] w fun e w' => e = .returned (.bool rb) ∧ Below w.heap.size w w')) (F2 : Hid (∀ w, Calls Try.prog 8 #[.agg #[.bool hb, .int .i64 vb, .int .i64 ob, .int .i64 ab]] w fun e w' => e = .returned (.bool rb) ∧ Below w.heap.size w w')) (N1 : Hid (∀ w, Calls Try.prog 9 #[.int .i64 id] w fun e w' => e = .returned (.bool false) ∧ Below w.heap.size w w')) (w : World) :
    Calls Try.prog 3 #[.agg #[.bool ha, .int .i64 va, .int .i64 oa, .int .i64 aa], .agg #[.bool hb, .int .i64 vb, .int .i64 ob, .int .i64 ab], .int .i64 id, .int .i64 x] w fun e w' => e = .returned (.bool true) ∧ Below w.heap.size w w' := by
  go_enter Try.func3, Try.ntmps3
  go_wp2
  refine wp_region_quietC_lit (KeptC w [(⟨w.heap.size, 0, none⟩, .bool ha), (⟨w.heap.size, 1, none⟩, .int .i64 va), (⟨w.heap.size, 2, none⟩, .int .i64 oa), (⟨w.heap.size, 3, none⟩, .int .i64 aa), (⟨w.heap.size + 1, 0, none⟩, .bool hb), (⟨w.heap.size + 1, 1, none⟩, .int .i64 vb), (⟨w.heap.size + 1, 2, none⟩, .int .i64 ob), (⟨w.heap.size + 1, 3, none⟩, .int .i64 ab)] []) (by kernel_rfl) (by kernel_rfl) ?_ ?_
  · refine KeptC.drewn ?_
    repeat' (first | refine KeptC.cons ?_ ?_ | refine KeptC.consF ?_ ?_ ?_ | refine KeptC.mk0 ?_)
    all_goals (first | with_reducible assumption | (go_simp; done) | (simp; omega) | exact (by repeat (first | with_reducible refine Below.setCell ?_ (by first | (simp; done) | (simp; omega) | omega) _ | with_reducible refine Below.alloc ?_ (by first | (simp; done) | (simp; omega) | omega) _ | with_reducible refine Below.drew ?_ | with_reducible exact Below.refl _ _)))
  repeat (first
    | go_big_quiet_skip
    | (go_big_quiet_want; (apply quietC_run); (· intro w' hw'; (have hk' := hw'; simp only [KeptC, List.forall_mem_cons] at hk'; go_split_ands); go_simp; first | done | rfl); (simp only [Act.put, List.setIfInBounds_toArray, List.set_cons_zero, List.set_cons_succ]; go_big_quiet_on))
    | (go_big_quiet_want; (apply quietC_call); (· intro w' hw'; go_simp; first | done | exact ⟨rfl, rfl⟩ | rfl); (· intro w' hw'; first | ((with_reducible refine (X1.out _).mono ?_); rintro e w2 ⟨rfl, hb⟩; exact ⟨rfl, hw'.below hb⟩) | ((with_reducible refine (X2.out _).mono ?_); rintro e w2 ⟨rfl, hb⟩; exact ⟨rfl, hw'.below hb⟩) | ((with_reducible refine (F1.out _).mono ?_); rintro e w2 ⟨rfl, hb⟩; exact ⟨rfl, hw'.below hb⟩) | ((with_reducible refine (F2.out _).mono ?_); rintro e w2 ⟨rfl, hb⟩; exact ⟨rfl, hw'.below hb⟩)); (simp only [Act.put, List.setIfInBounds_toArray, List.set_cons_zero, List.set_cons_succ]; go_big_quiet_on)))
  refine wpQuiet_nil ?_
  intro w9 hk9
  (have hk' := hk9; simp only [KeptC, List.forall_mem_cons] at hk'; go_split_ands); have hkB9 := hk9.1
  have hz9_0 : w.heap.size < w9.heap.size := cell_lt (a := ⟨w.heap.size, 0, none⟩) (by assumption)
  have hz9_1 : w.heap.size + 1 < w9.heap.size := cell_lt (a := ⟨w.heap.size + 1, 0, none⟩) (by assumption)
  go_wp2_with (fail)
  refine (N1.out _).mono ?_; rintro e w1 ⟨rfl, hb1⟩; obtain ⟨hc1, hf1⟩ := bcell hb1; have hz1 := hb1.size; (try simp at hz1); have hz1_0 : w.heap.size < w1.heap.size := (by omega); have hz1_1 : w.heap.size + 1 < w1.heap.size := (by omega)
  go_wp2_with (fail)
  refine (F1.out _).mono ?_; rintro e w2 ⟨rfl, hb2⟩; obtain ⟨hc2, hf2⟩ := bcell hb2; have hz2 := hb2.size; (try simp at hz2); have hz2_0 : w.heap.size < w2.heap.size := (by omega); have hz2_1 : w.heap.size + 1 < w2.heap.size := (by omega)
  go_wp2_with (fail)
  refine (awake_any _).mono ?_; rintro e w3 ⟨rfl, hb3⟩; obtain ⟨hc3, hf3⟩ := bcell hb3; have hz3 := hb3.size; (try simp at hz3); have hz3_0 : w.heap.size < w3.heap.size := (by omega); have hz3_1 : w.heap.size + 1 < w3.heap.size := (by omega)
  go_wp2
  go_ret
  exact ⟨rfl, (by repeat (first | with_reducible refine Below.setCell ?_ (by first | (simp; done) | (simp; omega) | omega) _ | with_reducible refine Below.alloc ?_ (by first | (simp; done) | (simp; omega) | omega) _ | with_reducible refine Below.drew ?_ | with_reducible exact Below.refl _ _ | with_reducible refine Below.trans ?_ (Below.mono hkB9 (by first | (simp; done) | (simp; omega) | omega)) | with_reducible refine Below.trans ?_ (Below.mono hb1 (by first | (simp; done) | (simp; omega) | omega)) | with_reducible refine Below.trans ?_ (Below.mono hb2 (by first | (simp; done) | (simp; omega) | omega)) | with_reducible refine Below.trans ?_ (Below.mono hb3 (by first | (simp; done) | (simp; omega) | omega))))⟩
set_option maxHeartbeats 4000000 in
theorem holds_fxtf (id x : Int) (ha : Bool) (va oa aa : Int) (hb : Bool) (vb ob ab : Int) (X1 : Hid (∀ w, Calls Try.prog 7 #[.agg #[.bool ha, .int .i64 va, .int .i64 oa, .int .i64 aa]] w fun e w' => e = .returned (.bool true) ∧ Below w.heap.size w w')) (F1 : Hid (∀ w, Calls Try.prog 8 #[.agg #[.bool ha, .int .i64 va, .int .i64 oa, .int .i64 aa]] w fun e w' => e = .returned (.bool true) ∧ Below w.heap.size w w')) (X2 : Hid (∀ w, Calls Try.prog 7 #[.agg #[.bool hb, .int .i64 vb, .int .i64 ob, .int .i64 ab]] w fun e w' => e = .returned (.bool false) ∧ Below w.heap.size w w')) (F2 : Hid (∀ w, Calls Try.prog 8 #[.agg #[.bool hb, .int .i64 vb, .int .i64 ob, .int .i64 ab]] w fun e w' => e = .returned (.bool false) ∧ Below w.heap.size w w')) (N1 : Hid (∀ w, Calls Try.prog 9 #[.int .i64 id] w fun e w' => e = .returned (.bool false) ∧ Below w.heap.size w w')) (w : World) :
    Calls Try.prog 3 #[.agg #[.bool ha, .int .i64 va, .int .i64 oa, .int .i64 aa], .agg #[.bool hb, .int .i64 vb, .int .i64 ob, .int .i64 ab], .int .i64 id, .int .i64 x] w fun e w' => e = .returned (.bool true) ∧ Below w.heap.size w w' := by
  go_enter Try.func3, Try.ntmps3
  go_wp2
  refine wp_region_quietC_lit (KeptC w [(⟨w.heap.size, 0, none⟩, .bool ha), (⟨w.heap.size, 1, none⟩, .int .i64 va), (⟨w.heap.size, 2, none⟩, .int .i64 oa), (⟨w.heap.size, 3, none⟩, .int .i64 aa), (⟨w.heap.size + 1, 0, none⟩, .bool hb), (⟨w.heap.size + 1, 1, none⟩, .int .i64 vb), (⟨w.heap.size + 1, 2, none⟩, .int .i64 ob), (⟨w.heap.size + 1, 3, none⟩, .int .i64 ab)] []) (by kernel_rfl) (by kernel_rfl) ?_ ?_
  · refine KeptC.drewn ?_
    repeat' (first | refine KeptC.cons ?_ ?_ | refine KeptC.consF ?_ ?_ ?_ | refine KeptC.mk0 ?_)
    all_goals (first | with_reducible assumption | (go_simp; done) | (simp; omega) | exact (by repeat (first | with_reducible refine Below.setCell ?_ (by first | (simp; done) | (simp; omega) | omega) _ | with_reducible refine Below.alloc ?_ (by first | (simp; done) | (simp; omega) | omega) _ | with_reducible refine Below.drew ?_ | with_reducible exact Below.refl _ _)))
  repeat (first
    | go_big_quiet_skip
    | (go_big_quiet_want; (apply quietC_run); (· intro w' hw'; (have hk' := hw'; simp only [KeptC, List.forall_mem_cons] at hk'; go_split_ands); go_simp; first | done | rfl); (simp only [Act.put, List.setIfInBounds_toArray, List.set_cons_zero, List.set_cons_succ]; go_big_quiet_on))
    | (go_big_quiet_want; (apply quietC_call); (· intro w' hw'; go_simp; first | done | exact ⟨rfl, rfl⟩ | rfl); (· intro w' hw'; first | ((with_reducible refine (X1.out _).mono ?_); rintro e w2 ⟨rfl, hb⟩; exact ⟨rfl, hw'.below hb⟩) | ((with_reducible refine (X2.out _).mono ?_); rintro e w2 ⟨rfl, hb⟩; exact ⟨rfl, hw'.below hb⟩) | ((with_reducible refine (F1.out _).mono ?_); rintro e w2 ⟨rfl, hb⟩; exact ⟨rfl, hw'.below hb⟩) | ((with_reducible refine (F2.out _).mono ?_); rintro e w2 ⟨rfl, hb⟩; exact ⟨rfl, hw'.below hb⟩)); (simp only [Act.put, List.setIfInBounds_toArray, List.set_cons_zero, List.set_cons_succ]; go_big_quiet_on)))
  refine wpQuiet_nil ?_
  intro w9 hk9
  (have hk' := hk9; simp only [KeptC, List.forall_mem_cons] at hk'; go_split_ands); have hkB9 := hk9.1
  have hz9_0 : w.heap.size < w9.heap.size := cell_lt (a := ⟨w.heap.size, 0, none⟩) (by assumption)
  have hz9_1 : w.heap.size + 1 < w9.heap.size := cell_lt (a := ⟨w.heap.size + 1, 0, none⟩) (by assumption)
  go_wp2_with (fail)
  refine (N1.out _).mono ?_; rintro e w1 ⟨rfl, hb1⟩; obtain ⟨hc1, hf1⟩ := bcell hb1; have hz1 := hb1.size; (try simp at hz1); have hz1_0 : w.heap.size < w1.heap.size := (by omega); have hz1_1 : w.heap.size + 1 < w1.heap.size := (by omega)
  go_wp2_with (fail)
  refine (F1.out _).mono ?_; rintro e w2 ⟨rfl, hb2⟩; obtain ⟨hc2, hf2⟩ := bcell hb2; have hz2 := hb2.size; (try simp at hz2); have hz2_0 : w.heap.size < w2.heap.size := (by omega); have hz2_1 : w.heap.size + 1 < w2.heap.size := (by omega)
  go_wp2_with (fail)
  refine (F2.out _).mono ?_; rintro e w3 ⟨rfl, hb3⟩; obtain ⟨hc3, hf3⟩ := bcell hb3; have hz3 := hb3.size; (try simp at hz3); have hz3_0 : w.heap.size < w3.heap.size := (by omega); have hz3_1 : w.heap.size + 1 < w3.heap.size := (by omega)
  go_wp2_with (fail)
  refine (awake_any _).mono ?_; rintro e w4 ⟨rfl, hb4⟩; obtain ⟨hc4, hf4⟩ := bcell hb4; have hz4 := hb4.size; (try simp at hz4); have hz4_0 : w.heap.size < w4.heap.size := (by omega); have hz4_1 : w.heap.size + 1 < w4.heap.size := (by omega)
  go_wp2
  go_ret
  exact ⟨rfl, (by repeat (first | with_reducible refine Below.setCell ?_ (by first | (simp; done) | (simp; omega) | omega) _ | with_reducible refine Below.alloc ?_ (by first | (simp; done) | (simp; omega) | omega) _ | with_reducible refine Below.drew ?_ | with_reducible exact Below.refl _ _ | with_reducible refine Below.trans ?_ (Below.mono hkB9 (by first | (simp; done) | (simp; omega) | omega)) | with_reducible refine Below.trans ?_ (Below.mono hb1 (by first | (simp; done) | (simp; omega) | omega)) | with_reducible refine Below.trans ?_ (Below.mono hb2 (by first | (simp; done) | (simp; omega) | omega)) | with_reducible refine Below.trans ?_ (Below.mono hb3 (by first | (simp; done) | (simp; omega) | omega)) | with_reducible refine Below.trans ?_ (Below.mono hb4 (by first | (simp; done) | (simp; omega) | omega))))⟩
set_option maxHeartbeats 4000000 in
theorem holds_fxtt (id x : Int) (ha : Bool) (va oa aa : Int) (hb : Bool) (vb ob ab : Int) (hp : Bool) (vp op ap : Int) (hq : Bool) (vq oq aq : Int) (hr : Bool) (vr og ar : Int) (X1 : Hid (∀ w, Calls Try.prog 7 #[.agg #[.bool ha, .int .i64 va, .int .i64 oa, .int .i64 aa]] w fun e w' => e = .returned (.bool true) ∧ Below w.heap.size w w')) (F1 : Hid (∀ w, Calls Try.prog 8 #[.agg #[.bool ha, .int .i64 va, .int .i64 oa, .int .i64 aa]] w fun e w' => e = .returned (.bool true) ∧ Below w.heap.size w w')) (X2 : Hid (∀ w, Calls Try.prog 7 #[.agg #[.bool hb, .int .i64 vb, .int .i64 ob, .int .i64 ab]] w fun e w' => e = .returned (.bool true) ∧ Below w.heap.size w w')) (F2 : Hid (∀ w, Calls Try.prog 8 #[.agg #[.bool hb, .int .i64 vb, .int .i64 ob, .int .i64 ab]] w fun e w' => e = .returned (.bool true) ∧ Below w.heap.size w w')) (N1 : Hid (∀ w, Calls Try.prog 9 #[.int .i64 id] w fun e w' => e = .returned (.bool false) ∧ Below w.heap.size w w')) (L1 : Hid (∀ w, Calls Try.prog 14 #[.agg #[.bool ha, .int .i64 va, .int .i64 oa, .int .i64 aa], .agg #[.bool hb, .int .i64 vb, .int .i64 ob, .int .i64 ab]] w fun e w' => e = .returned (.agg #[.bool hp, .int .i64 vp, .int .i64 op, .int .i64 ap]) ∧ Below w.heap.size w w')) (L2 : Hid (∀ w, Calls Try.prog 15 #[.agg #[.bool ha, .int .i64 va, .int .i64 oa, .int .i64 aa], .agg #[.bool hb, .int .i64 vb, .int .i64 ob, .int .i64 ab]] w fun e w' => e = .returned (.agg #[.bool hp, .int .i64 vp, .int .i64 op, .int .i64 ap]) ∧ Below w.heap.size w w')) (G1 : Hid (∀ w, Calls Try.prog 16 #[.agg #[.bool ha, .int .i64 va, .int .i64 oa, .int .i64 aa], .agg #[.bool hb, .int .i64 vb, .int .i64 ob, .int .i64 ab]] w fun e w' => e = .returned (.agg #[.bool hq, .int .i64 vq, .int .i64 oq, .int .i64 aq]) ∧ Below w.heap.size w w')) (G2 : Hid (∀ w, Calls Try.prog 17 #[.agg #[.bool ha, .int .i64 va, .int .i64 oa, .int .i64 aa], .agg #[.bool hb, .int .i64 vb, .int .i64 ob, .int .i64 ab]] w fun e w' => e = .returned (.agg #[.bool hq, .int .i64 vq, .int .i64 oq, .int .i64 aq]) ∧ Below w.heap.size w w')) (O1 : Hid (∀ w, Calls Try.prog 18 #[.agg #[.bool ha, .int .i64 va, .int .i64 oa, .int .i64 aa]] w fun e w' => e = .returned (.agg #[.bool hr, .int .i64 vr, .int .i64 og, .int .i64 ar]) ∧ Below w.heap.size w w')) (O2 : Hid (∀ w, Calls Try.prog 19 #[.agg #[.bool ha, .int .i64 va, .int .i64 oa, .int .i64 aa]] w fun e w' => e = .returned (.agg #[.bool hr, .int .i64 vr, .int .i64 og, .int .i64 ar]) ∧ Below w.heap.size w w')) (w : World) :
    Calls Try.prog 3 #[.agg #[.bool ha, .int .i64 va, .int .i64 oa, .int .i64 aa], .agg #[.bool hb, .int .i64 vb, .int .i64 ob, .int .i64 ab], .int .i64 id, .int .i64 x] w fun e w' => e = .returned (.bool true) ∧ Below w.heap.size w w' := by
  go_enter Try.func3, Try.ntmps3
  go_wp2
  refine wp_region_quietC_lit (KeptC w [(⟨w.heap.size, 0, none⟩, .bool ha), (⟨w.heap.size, 1, none⟩, .int .i64 va), (⟨w.heap.size, 2, none⟩, .int .i64 oa), (⟨w.heap.size, 3, none⟩, .int .i64 aa), (⟨w.heap.size + 1, 0, none⟩, .bool hb), (⟨w.heap.size + 1, 1, none⟩, .int .i64 vb), (⟨w.heap.size + 1, 2, none⟩, .int .i64 ob), (⟨w.heap.size + 1, 3, none⟩, .int .i64 ab)] []) (by kernel_rfl) (by kernel_rfl) ?_ ?_
  · refine KeptC.drewn ?_
    repeat' (first | refine KeptC.cons ?_ ?_ | refine KeptC.consF ?_ ?_ ?_ | refine KeptC.mk0 ?_)
    all_goals (first | with_reducible assumption | (go_simp; done) | (simp; omega) | exact (by repeat (first | with_reducible refine Below.setCell ?_ (by first | (simp; done) | (simp; omega) | omega) _ | with_reducible refine Below.alloc ?_ (by first | (simp; done) | (simp; omega) | omega) _ | with_reducible refine Below.drew ?_ | with_reducible exact Below.refl _ _)))
  repeat (first
    | go_big_quiet_skip
    | (go_big_quiet_want; (apply quietC_run); (· intro w' hw'; (have hk' := hw'; simp only [KeptC, List.forall_mem_cons] at hk'; go_split_ands); go_simp; first | done | rfl); (simp only [Act.put, List.setIfInBounds_toArray, List.set_cons_zero, List.set_cons_succ]; go_big_quiet_on))
    | (go_big_quiet_want; (apply quietC_call); (· intro w' hw'; go_simp; first | done | exact ⟨rfl, rfl⟩ | rfl); (· intro w' hw'; first | ((with_reducible refine (X1.out _).mono ?_); rintro e w2 ⟨rfl, hb⟩; exact ⟨rfl, hw'.below hb⟩) | ((with_reducible refine (X2.out _).mono ?_); rintro e w2 ⟨rfl, hb⟩; exact ⟨rfl, hw'.below hb⟩) | ((with_reducible refine (F1.out _).mono ?_); rintro e w2 ⟨rfl, hb⟩; exact ⟨rfl, hw'.below hb⟩) | ((with_reducible refine (F2.out _).mono ?_); rintro e w2 ⟨rfl, hb⟩; exact ⟨rfl, hw'.below hb⟩)); (simp only [Act.put, List.setIfInBounds_toArray, List.set_cons_zero, List.set_cons_succ]; go_big_quiet_on)))
  refine wpQuiet_nil ?_
  intro w9 hk9
  (have hk' := hk9; simp only [KeptC, List.forall_mem_cons] at hk'; go_split_ands); have hkB9 := hk9.1
  have hz9_0 : w.heap.size < w9.heap.size := cell_lt (a := ⟨w.heap.size, 0, none⟩) (by assumption)
  have hz9_1 : w.heap.size + 1 < w9.heap.size := cell_lt (a := ⟨w.heap.size + 1, 0, none⟩) (by assumption)
  go_wp2_with (fail)
  refine (N1.out _).mono ?_; rintro e w1 ⟨rfl, hb1⟩; obtain ⟨hc1, hf1⟩ := bcell hb1; have hz1 := hb1.size; (try simp at hz1); have hz1_0 : w.heap.size < w1.heap.size := (by omega); have hz1_1 : w.heap.size + 1 < w1.heap.size := (by omega)
  go_wp2_with (fail)
  refine (F1.out _).mono ?_; rintro e w2 ⟨rfl, hb2⟩; obtain ⟨hc2, hf2⟩ := bcell hb2; have hz2 := hb2.size; (try simp at hz2); have hz2_0 : w.heap.size < w2.heap.size := (by omega); have hz2_1 : w.heap.size + 1 < w2.heap.size := (by omega)
  go_wp2_with (fail)
  refine (F2.out _).mono ?_; rintro e w3 ⟨rfl, hb3⟩; obtain ⟨hc3, hf3⟩ := bcell hb3; have hz3 := hb3.size; (try simp at hz3); have hz3_0 : w.heap.size < w3.heap.size := (by omega); have hz3_1 : w.heap.size + 1 < w3.heap.size := (by omega)
  go_wp2
  refine wp_region_quietC_lit (KeptC w [(⟨w.heap.size, 0, none⟩, .bool ha), (⟨w.heap.size, 1, none⟩, .int .i64 va), (⟨w.heap.size, 2, none⟩, .int .i64 oa), (⟨w.heap.size, 3, none⟩, .int .i64 aa), (⟨w.heap.size + 1, 0, none⟩, .bool hb), (⟨w.heap.size + 1, 1, none⟩, .int .i64 vb), (⟨w.heap.size + 1, 2, none⟩, .int .i64 ob), (⟨w.heap.size + 1, 3, none⟩, .int .i64 ab)] []) (by kernel_rfl) (by kernel_rfl) ?_ ?_
  · refine KeptC.drewn ?_
    repeat' (first | refine KeptC.cons ?_ ?_ | refine KeptC.consF ?_ ?_ ?_ | refine KeptC.mk0 ?_)
    all_goals (first | with_reducible assumption | (go_simp; done) | (simp; omega) | exact (by repeat (first | with_reducible refine Below.setCell ?_ (by first | (simp; done) | (simp; omega) | omega) _ | with_reducible refine Below.alloc ?_ (by first | (simp; done) | (simp; omega) | omega) _ | with_reducible refine Below.drew ?_ | with_reducible exact Below.refl _ _ | with_reducible refine Below.trans ?_ (Below.mono hkB9 (by first | (simp; done) | (simp; omega) | omega)) | with_reducible refine Below.trans ?_ (Below.mono hb1 (by first | (simp; done) | (simp; omega) | omega)) | with_reducible refine Below.trans ?_ (Below.mono hb2 (by first | (simp; done) | (simp; omega) | omega)) | with_reducible refine Below.trans ?_ (Below.mono hb3 (by first | (simp; done) | (simp; omega) | omega)))))
  repeat (first
    | go_big_quiet_skip
    | (go_big_quiet_want; (apply quietC_run); (· intro w' hw'; (have hk' := hw'; simp only [KeptC, List.forall_mem_cons] at hk'; go_split_ands); go_simp; first | done | rfl); (simp only [Act.put, List.setIfInBounds_toArray, List.set_cons_zero, List.set_cons_succ]; go_big_quiet_on))
    | (go_big_quiet_want; (apply quietC_call); (· intro w' hw'; go_simp; first | done | exact ⟨rfl, rfl⟩ | rfl); (· intro w' hw'; first | ((with_reducible refine (L1.out _).mono ?_); rintro e w2 ⟨rfl, hb⟩; exact ⟨rfl, hw'.below hb⟩) | ((with_reducible refine (L2.out _).mono ?_); rintro e w2 ⟨rfl, hb⟩; exact ⟨rfl, hw'.below hb⟩) | ((with_reducible refine (G1.out _).mono ?_); rintro e w2 ⟨rfl, hb⟩; exact ⟨rfl, hw'.below hb⟩) | ((with_reducible refine (G2.out _).mono ?_); rintro e w2 ⟨rfl, hb⟩; exact ⟨rfl, hw'.below hb⟩) | ((with_reducible refine (O1.out _).mono ?_); rintro e w2 ⟨rfl, hb⟩; exact ⟨rfl, hw'.below hb⟩) | ((with_reducible refine (O2.out _).mono ?_); rintro e w2 ⟨rfl, hb⟩; exact ⟨rfl, hw'.below hb⟩) | ((with_reducible refine (awake_any _).mono ?_); rintro e w2 ⟨rfl, hb⟩; exact ⟨rfl, hw'.below hb⟩)); (simp only [Act.put, List.setIfInBounds_toArray, List.set_cons_zero, List.set_cons_succ]; go_big_quiet_on)))
  refine wpQuiet_nil ?_
  intro w8 hk8
  (have hk' := hk8; simp only [KeptC, List.forall_mem_cons] at hk'; go_split_ands); have hkB8 := hk8.1
  have hz8_0 : w.heap.size < w8.heap.size := cell_lt (a := ⟨w.heap.size, 0, none⟩) (by assumption)
  have hz8_1 : w.heap.size + 1 < w8.heap.size := cell_lt (a := ⟨w.heap.size + 1, 0, none⟩) (by assumption)
  go_wp2
  go_ret
  exact ⟨rfl, hkB8⟩
set_option maxHeartbeats 4000000 in
theorem holds_tffr (id x : Int) (ha : Bool) (va oa aa : Int) (hb : Bool) (vb ob ab : Int) (rb : Bool) (X1 : Hid (∀ w, Calls Try.prog 7 #[.agg #[.bool ha, .int .i64 va, .int .i64 oa, .int .i64 aa]] w fun e w' => e = .returned (.bool false) ∧ Below w.heap.size w w')) (F1 : Hid (∀ w, Calls Try.prog 8 #[.agg #[.bool ha, .int .i64 va, .int .i64 oa, .int .i64 aa]] w fun e w' => e = .returned (.bool false) ∧ Below w.heap.size w w')) (X2 : Hid (∀ w, Calls Try.prog 7 #[.agg #[.bool hb, .int .i64 vb, .int .i64 ob, .int .i64 ab]] w fun e w' => e = .returned (.bool rb) ∧ Below w.heap.size w w')) (F2 : Hid (∀ w, Calls Try.prog 8 #[.agg #[.bool hb, .int .i64 vb, .int .i64 ob, .int .i64 ab]] w fun e w' => e = .returned (.bool rb) ∧ Below w.heap.size w w')) (N1 : Hid (∀ w, Calls Try.prog 9 #[.int .i64 id] w fun e w' => e = .returned (.bool true) ∧ Below w.heap.size w w')) (N2 : Hid (∀ w, Calls Try.prog 10 #[.int .i64 x] w fun e w' => e = .returned (.bool false) ∧ Below w.heap.size w w')) (w : World) :
    Calls Try.prog 3 #[.agg #[.bool ha, .int .i64 va, .int .i64 oa, .int .i64 aa], .agg #[.bool hb, .int .i64 vb, .int .i64 ob, .int .i64 ab], .int .i64 id, .int .i64 x] w fun e w' => e = .returned (.bool true) ∧ Below w.heap.size w w' := by
  go_enter Try.func3, Try.ntmps3
  go_wp2
  refine wp_region_quietC_lit (KeptC w [(⟨w.heap.size, 0, none⟩, .bool ha), (⟨w.heap.size, 1, none⟩, .int .i64 va), (⟨w.heap.size, 2, none⟩, .int .i64 oa), (⟨w.heap.size, 3, none⟩, .int .i64 aa), (⟨w.heap.size + 1, 0, none⟩, .bool hb), (⟨w.heap.size + 1, 1, none⟩, .int .i64 vb), (⟨w.heap.size + 1, 2, none⟩, .int .i64 ob), (⟨w.heap.size + 1, 3, none⟩, .int .i64 ab)] []) (by kernel_rfl) (by kernel_rfl) ?_ ?_
  · refine KeptC.drewn ?_
    repeat' (first | refine KeptC.cons ?_ ?_ | refine KeptC.consF ?_ ?_ ?_ | refine KeptC.mk0 ?_)
    all_goals (first | with_reducible assumption | (go_simp; done) | (simp; omega) | exact (by repeat (first | with_reducible refine Below.setCell ?_ (by first | (simp; done) | (simp; omega) | omega) _ | with_reducible refine Below.alloc ?_ (by first | (simp; done) | (simp; omega) | omega) _ | with_reducible refine Below.drew ?_ | with_reducible exact Below.refl _ _)))
  repeat (first
    | go_big_quiet_skip
    | (go_big_quiet_want; (apply quietC_run); (· intro w' hw'; (have hk' := hw'; simp only [KeptC, List.forall_mem_cons] at hk'; go_split_ands); go_simp; first | done | rfl); (simp only [Act.put, List.setIfInBounds_toArray, List.set_cons_zero, List.set_cons_succ]; go_big_quiet_on))
    | (go_big_quiet_want; (apply quietC_call); (· intro w' hw'; go_simp; first | done | exact ⟨rfl, rfl⟩ | rfl); (· intro w' hw'; first | ((with_reducible refine (X1.out _).mono ?_); rintro e w2 ⟨rfl, hb⟩; exact ⟨rfl, hw'.below hb⟩) | ((with_reducible refine (X2.out _).mono ?_); rintro e w2 ⟨rfl, hb⟩; exact ⟨rfl, hw'.below hb⟩) | ((with_reducible refine (F1.out _).mono ?_); rintro e w2 ⟨rfl, hb⟩; exact ⟨rfl, hw'.below hb⟩) | ((with_reducible refine (F2.out _).mono ?_); rintro e w2 ⟨rfl, hb⟩; exact ⟨rfl, hw'.below hb⟩)); (simp only [Act.put, List.setIfInBounds_toArray, List.set_cons_zero, List.set_cons_succ]; go_big_quiet_on)))
  refine wpQuiet_nil ?_
  intro w9 hk9
  (have hk' := hk9; simp only [KeptC, List.forall_mem_cons] at hk'; go_split_ands); have hkB9 := hk9.1
  have hz9_0 : w.heap.size < w9.heap.size := cell_lt (a := ⟨w.heap.size, 0, none⟩) (by assumption)
  have hz9_1 : w.heap.size + 1 < w9.heap.size := cell_lt (a := ⟨w.heap.size + 1, 0, none⟩) (by assumption)
  go_wp2_with (fail)
  refine (N1.out _).mono ?_; rintro e w1 ⟨rfl, hb1⟩; obtain ⟨hc1, hf1⟩ := bcell hb1; have hz1 := hb1.size; (try simp at hz1); have hz1_0 : w.heap.size < w1.heap.size := (by omega); have hz1_1 : w.heap.size + 1 < w1.heap.size := (by omega)
  go_wp2_with (fail)
  refine (N2.out _).mono ?_; rintro e w2 ⟨rfl, hb2⟩; obtain ⟨hc2, hf2⟩ := bcell hb2; have hz2 := hb2.size; (try simp at hz2); have hz2_0 : w.heap.size < w2.heap.size := (by omega); have hz2_1 : w.heap.size + 1 < w2.heap.size := (by omega)
  go_wp2_with (fail)
  refine (F1.out _).mono ?_; rintro e w3 ⟨rfl, hb3⟩; obtain ⟨hc3, hf3⟩ := bcell hb3; have hz3 := hb3.size; (try simp at hz3); have hz3_0 : w.heap.size < w3.heap.size := (by omega); have hz3_1 : w.heap.size + 1 < w3.heap.size := (by omega)
  go_wp2_with (fail)
  refine (awake_any _).mono ?_; rintro e w4 ⟨rfl, hb4⟩; obtain ⟨hc4, hf4⟩ := bcell hb4; have hz4 := hb4.size; (try simp at hz4); have hz4_0 : w.heap.size < w4.heap.size := (by omega); have hz4_1 : w.heap.size + 1 < w4.heap.size := (by omega)
  go_wp2
  go_ret
  exact ⟨rfl, (by repeat (first | with_reducible refine Below.setCell ?_ (by first | (simp; done) | (simp; omega) | omega) _ | with_reducible refine Below.alloc ?_ (by first | (simp; done) | (simp; omega) | omega) _ | with_reducible refine Below.drew ?_ | with_reducible exact Below.refl _ _ | with_reducible refine Below.trans ?_ (Below.mono hkB9 (by first | (simp; done) | (simp; omega) | omega)) | with_reducible refine Below.trans ?_ (Below.mono hb1 (by first | (simp; done) | (simp; omega) | omega)) | with_reducible refine Below.trans ?_ (Below.mono hb2 (by first | (simp; done) | (simp; omega) | omega)) | with_reducible refine Below.trans ?_ (Below.mono hb3 (by first | (simp; done) | (simp; omega) | omega)) | with_reducible refine Below.trans ?_ (Below.mono hb4 (by first | (simp; done) | (simp; omega) | omega))))⟩
set_option maxHeartbeats 4000000 in
theorem holds_tftf (id x : Int) (ha : Bool) (va oa aa : Int) (hb : Bool) (vb ob ab : Int) (X1 : Hid (∀ w, Calls Try.prog 7 #[.agg #[.bool ha, .int .i64 va, .int .i64 oa, .int .i64 aa]] w fun e w' => e = .returned (.bool true) ∧ Below w.heap.size w w')) (F1 : Hid (∀ w, Calls Try.prog 8 #[.agg #[.bool ha, .int .i64 va, .int .i64 oa, .int .i64 aa]] w fun e w' => e = .returned (.bool true) ∧ Below w.heap.size w w')) (X2 : Hid (∀ w, Calls Try.prog 7 #[.agg #[.bool hb, .int .i64 vb, .int .i64 ob, .int .i64 ab]] w fun e w' => e = .returned (.bool false) ∧ Below w.heap.size w w')) (F2 : Hid (∀ w, Calls Try.prog 8 #[.agg #[.bool hb, .int .i64 vb, .int .i64 ob, .int .i64 ab]] w fun e w' => e = .returned (.bool false) ∧ Below w.heap.size w w')) (N1 : Hid (∀ w, Calls Try.prog 9 #[.int .i64 id] w fun e w' => e = .returned (.bool true) ∧ Below w.heap.size w w')) (N2 : Hid (∀ w, Calls Try.prog 10 #[.int .i64 x] w fun e w' => e = .returned (.bool false) ∧ Below w.heap.size w w')) (w : World) :
    Calls Try.prog 3 #[.agg #[.bool ha, .int .i64 va, .int .i64 oa, .int .i64 aa], .agg #[.bool hb, .int .i64 vb, .int .i64 ob, .int .i64 ab], .int .i64 id, .int .i64 x] w fun e w' => e = .returned (.bool true) ∧ Below w.heap.size w w' := by
  go_enter Try.func3, Try.ntmps3
  go_wp2
  refine wp_region_quietC_lit (KeptC w [(⟨w.heap.size, 0, none⟩, .bool ha), (⟨w.heap.size, 1, none⟩, .int .i64 va), (⟨w.heap.size, 2, none⟩, .int .i64 oa), (⟨w.heap.size, 3, none⟩, .int .i64 aa), (⟨w.heap.size + 1, 0, none⟩, .bool hb), (⟨w.heap.size + 1, 1, none⟩, .int .i64 vb), (⟨w.heap.size + 1, 2, none⟩, .int .i64 ob), (⟨w.heap.size + 1, 3, none⟩, .int .i64 ab)] []) (by kernel_rfl) (by kernel_rfl) ?_ ?_
  · refine KeptC.drewn ?_
    repeat' (first | refine KeptC.cons ?_ ?_ | refine KeptC.consF ?_ ?_ ?_ | refine KeptC.mk0 ?_)
    all_goals (first | with_reducible assumption | (go_simp; done) | (simp; omega) | exact (by repeat (first | with_reducible refine Below.setCell ?_ (by first | (simp; done) | (simp; omega) | omega) _ | with_reducible refine Below.alloc ?_ (by first | (simp; done) | (simp; omega) | omega) _ | with_reducible refine Below.drew ?_ | with_reducible exact Below.refl _ _)))
  repeat (first
    | go_big_quiet_skip
    | (go_big_quiet_want; (apply quietC_run); (· intro w' hw'; (have hk' := hw'; simp only [KeptC, List.forall_mem_cons] at hk'; go_split_ands); go_simp; first | done | rfl); (simp only [Act.put, List.setIfInBounds_toArray, List.set_cons_zero, List.set_cons_succ]; go_big_quiet_on))
    | (go_big_quiet_want; (apply quietC_call); (· intro w' hw'; go_simp; first | done | exact ⟨rfl, rfl⟩ | rfl); (· intro w' hw'; first | ((with_reducible refine (X1.out _).mono ?_); rintro e w2 ⟨rfl, hb⟩; exact ⟨rfl, hw'.below hb⟩) | ((with_reducible refine (X2.out _).mono ?_); rintro e w2 ⟨rfl, hb⟩; exact ⟨rfl, hw'.below hb⟩) | ((with_reducible refine (F1.out _).mono ?_); rintro e w2 ⟨rfl, hb⟩; exact ⟨rfl, hw'.below hb⟩) | ((with_reducible refine (F2.out _).mono ?_); rintro e w2 ⟨rfl, hb⟩; exact ⟨rfl, hw'.below hb⟩)); (simp only [Act.put, List.setIfInBounds_toArray, List.set_cons_zero, List.set_cons_succ]; go_big_quiet_on)))
  refine wpQuiet_nil ?_
  intro w9 hk9
  (have hk' := hk9; simp only [KeptC, List.forall_mem_cons] at hk'; go_split_ands); have hkB9 := hk9.1
  have hz9_0 : w.heap.size < w9.heap.size := cell_lt (a := ⟨w.heap.size, 0, none⟩) (by assumption)
  have hz9_1 : w.heap.size + 1 < w9.heap.size := cell_lt (a := ⟨w.heap.size + 1, 0, none⟩) (by assumption)
  go_wp2_with (fail)
  refine (N1.out _).mono ?_; rintro e w1 ⟨rfl, hb1⟩; obtain ⟨hc1, hf1⟩ := bcell hb1; have hz1 := hb1.size; (try simp at hz1); have hz1_0 : w.heap.size < w1.heap.size := (by omega); have hz1_1 : w.heap.size + 1 < w1.heap.size := (by omega)
  go_wp2_with (fail)
  refine (N2.out _).mono ?_; rintro e w2 ⟨rfl, hb2⟩; obtain ⟨hc2, hf2⟩ := bcell hb2; have hz2 := hb2.size; (try simp at hz2); have hz2_0 : w.heap.size < w2.heap.size := (by omega); have hz2_1 : w.heap.size + 1 < w2.heap.size := (by omega)
  go_wp2_with (fail)
  refine (F1.out _).mono ?_; rintro e w3 ⟨rfl, hb3⟩; obtain ⟨hc3, hf3⟩ := bcell hb3; have hz3 := hb3.size; (try simp at hz3); have hz3_0 : w.heap.size < w3.heap.size := (by omega); have hz3_1 : w.heap.size + 1 < w3.heap.size := (by omega)
  go_wp2_with (fail)
  refine (F2.out _).mono ?_; rintro e w4 ⟨rfl, hb4⟩; obtain ⟨hc4, hf4⟩ := bcell hb4; have hz4 := hb4.size; (try simp at hz4); have hz4_0 : w.heap.size < w4.heap.size := (by omega); have hz4_1 : w.heap.size + 1 < w4.heap.size := (by omega)
  go_wp2_with (fail)
  refine (awake_any _).mono ?_; rintro e w5 ⟨rfl, hb5⟩; obtain ⟨hc5, hf5⟩ := bcell hb5; have hz5 := hb5.size; (try simp at hz5); have hz5_0 : w.heap.size < w5.heap.size := (by omega); have hz5_1 : w.heap.size + 1 < w5.heap.size := (by omega)
  go_wp2
  go_ret
  exact ⟨rfl, (by repeat (first | with_reducible refine Below.setCell ?_ (by first | (simp; done) | (simp; omega) | omega) _ | with_reducible refine Below.alloc ?_ (by first | (simp; done) | (simp; omega) | omega) _ | with_reducible refine Below.drew ?_ | with_reducible exact Below.refl _ _ | with_reducible refine Below.trans ?_ (Below.mono hkB9 (by first | (simp; done) | (simp; omega) | omega)) | with_reducible refine Below.trans ?_ (Below.mono hb1 (by first | (simp; done) | (simp; omega) | omega)) | with_reducible refine Below.trans ?_ (Below.mono hb2 (by first | (simp; done) | (simp; omega) | omega)) | with_reducible refine Below.trans ?_ (Below.mono hb3 (by first | (simp; done) | (simp; omega) | omega)) | with_reducible refine Below.trans ?_ (Below.mono hb4 (by first | (simp; done) | (simp; omega) | omega)) | with_reducible refine Below.trans ?_ (Below.mono hb5 (by first | (simp; done) | (simp; omega) | omega))))⟩
set_option maxHeartbeats 4000000 in
theorem holds_tftt (id x : Int) (ha : Bool) (va oa aa : Int) (hb : Bool) (vb ob ab : Int) (hp : Bool) (vp op ap : Int) (hq : Bool) (vq oq aq : Int) (hr : Bool) (vr og ar : Int) (X1 : Hid (∀ w, Calls Try.prog 7 #[.agg #[.bool ha, .int .i64 va, .int .i64 oa, .int .i64 aa]] w fun e w' => e = .returned (.bool true) ∧ Below w.heap.size w w')) (F1 : Hid (∀ w, Calls Try.prog 8 #[.agg #[.bool ha, .int .i64 va, .int .i64 oa, .int .i64 aa]] w fun e w' => e = .returned (.bool true) ∧ Below w.heap.size w w')) (X2 : Hid (∀ w, Calls Try.prog 7 #[.agg #[.bool hb, .int .i64 vb, .int .i64 ob, .int .i64 ab]] w fun e w' => e = .returned (.bool true) ∧ Below w.heap.size w w')) (F2 : Hid (∀ w, Calls Try.prog 8 #[.agg #[.bool hb, .int .i64 vb, .int .i64 ob, .int .i64 ab]] w fun e w' => e = .returned (.bool true) ∧ Below w.heap.size w w')) (N1 : Hid (∀ w, Calls Try.prog 9 #[.int .i64 id] w fun e w' => e = .returned (.bool true) ∧ Below w.heap.size w w')) (N2 : Hid (∀ w, Calls Try.prog 10 #[.int .i64 x] w fun e w' => e = .returned (.bool false) ∧ Below w.heap.size w w')) (L1 : Hid (∀ w, Calls Try.prog 14 #[.agg #[.bool ha, .int .i64 va, .int .i64 oa, .int .i64 aa], .agg #[.bool hb, .int .i64 vb, .int .i64 ob, .int .i64 ab]] w fun e w' => e = .returned (.agg #[.bool hp, .int .i64 vp, .int .i64 op, .int .i64 ap]) ∧ Below w.heap.size w w')) (L2 : Hid (∀ w, Calls Try.prog 15 #[.agg #[.bool ha, .int .i64 va, .int .i64 oa, .int .i64 aa], .agg #[.bool hb, .int .i64 vb, .int .i64 ob, .int .i64 ab]] w fun e w' => e = .returned (.agg #[.bool hp, .int .i64 vp, .int .i64 op, .int .i64 ap]) ∧ Below w.heap.size w w')) (G1 : Hid (∀ w, Calls Try.prog 16 #[.agg #[.bool ha, .int .i64 va, .int .i64 oa, .int .i64 aa], .agg #[.bool hb, .int .i64 vb, .int .i64 ob, .int .i64 ab]] w fun e w' => e = .returned (.agg #[.bool hq, .int .i64 vq, .int .i64 oq, .int .i64 aq]) ∧ Below w.heap.size w w')) (G2 : Hid (∀ w, Calls Try.prog 17 #[.agg #[.bool ha, .int .i64 va, .int .i64 oa, .int .i64 aa], .agg #[.bool hb, .int .i64 vb, .int .i64 ob, .int .i64 ab]] w fun e w' => e = .returned (.agg #[.bool hq, .int .i64 vq, .int .i64 oq, .int .i64 aq]) ∧ Below w.heap.size w w')) (O1 : Hid (∀ w, Calls Try.prog 18 #[.agg #[.bool ha, .int .i64 va, .int .i64 oa, .int .i64 aa]] w fun e w' => e = .returned (.agg #[.bool hr, .int .i64 vr, .int .i64 og, .int .i64 ar]) ∧ Below w.heap.size w w')) (O2 : Hid (∀ w, Calls Try.prog 19 #[.agg #[.bool ha, .int .i64 va, .int .i64 oa, .int .i64 aa]] w fun e w' => e = .returned (.agg #[.bool hr, .int .i64 vr, .int .i64 og, .int .i64 ar]) ∧ Below w.heap.size w w')) (w : World) :
    Calls Try.prog 3 #[.agg #[.bool ha, .int .i64 va, .int .i64 oa, .int .i64 aa], .agg #[.bool hb, .int .i64 vb, .int .i64 ob, .int .i64 ab], .int .i64 id, .int .i64 x] w fun e w' => e = .returned (.bool true) ∧ Below w.heap.size w w' := by
  go_enter Try.func3, Try.ntmps3
  go_wp2
  refine wp_region_quietC_lit (KeptC w [(⟨w.heap.size, 0, none⟩, .bool ha), (⟨w.heap.size, 1, none⟩, .int .i64 va), (⟨w.heap.size, 2, none⟩, .int .i64 oa), (⟨w.heap.size, 3, none⟩, .int .i64 aa), (⟨w.heap.size + 1, 0, none⟩, .bool hb), (⟨w.heap.size + 1, 1, none⟩, .int .i64 vb), (⟨w.heap.size + 1, 2, none⟩, .int .i64 ob), (⟨w.heap.size + 1, 3, none⟩, .int .i64 ab)] []) (by kernel_rfl) (by kernel_rfl) ?_ ?_
  · refine KeptC.drewn ?_
    repeat' (first | refine KeptC.cons ?_ ?_ | refine KeptC.consF ?_ ?_ ?_ | refine KeptC.mk0 ?_)
    all_goals (first | with_reducible assumption | (go_simp; done) | (simp; omega) | exact (by repeat (first | with_reducible refine Below.setCell ?_ (by first | (simp; done) | (simp; omega) | omega) _ | with_reducible refine Below.alloc ?_ (by first | (simp; done) | (simp; omega) | omega) _ | with_reducible refine Below.drew ?_ | with_reducible exact Below.refl _ _)))
  repeat (first
    | go_big_quiet_skip
    | (go_big_quiet_want; (apply quietC_run); (· intro w' hw'; (have hk' := hw'; simp only [KeptC, List.forall_mem_cons] at hk'; go_split_ands); go_simp; first | done | rfl); (simp only [Act.put, List.setIfInBounds_toArray, List.set_cons_zero, List.set_cons_succ]; go_big_quiet_on))
    | (go_big_quiet_want; (apply quietC_call); (· intro w' hw'; go_simp; first | done | exact ⟨rfl, rfl⟩ | rfl); (· intro w' hw'; first | ((with_reducible refine (X1.out _).mono ?_); rintro e w2 ⟨rfl, hb⟩; exact ⟨rfl, hw'.below hb⟩) | ((with_reducible refine (X2.out _).mono ?_); rintro e w2 ⟨rfl, hb⟩; exact ⟨rfl, hw'.below hb⟩) | ((with_reducible refine (F1.out _).mono ?_); rintro e w2 ⟨rfl, hb⟩; exact ⟨rfl, hw'.below hb⟩) | ((with_reducible refine (F2.out _).mono ?_); rintro e w2 ⟨rfl, hb⟩; exact ⟨rfl, hw'.below hb⟩)); (simp only [Act.put, List.setIfInBounds_toArray, List.set_cons_zero, List.set_cons_succ]; go_big_quiet_on)))
  refine wpQuiet_nil ?_
  intro w9 hk9
  (have hk' := hk9; simp only [KeptC, List.forall_mem_cons] at hk'; go_split_ands); have hkB9 := hk9.1
  have hz9_0 : w.heap.size < w9.heap.size := cell_lt (a := ⟨w.heap.size, 0, none⟩) (by assumption)
  have hz9_1 : w.heap.size + 1 < w9.heap.size := cell_lt (a := ⟨w.heap.size + 1, 0, none⟩) (by assumption)
  go_wp2_with (fail)
  refine (N1.out _).mono ?_; rintro e w1 ⟨rfl, hb1⟩; obtain ⟨hc1, hf1⟩ := bcell hb1; have hz1 := hb1.size; (try simp at hz1); have hz1_0 : w.heap.size < w1.heap.size := (by omega); have hz1_1 : w.heap.size + 1 < w1.heap.size := (by omega)
  go_wp2_with (fail)
  refine (N2.out _).mono ?_; rintro e w2 ⟨rfl, hb2⟩; obtain ⟨hc2, hf2⟩ := bcell hb2; have hz2 := hb2.size; (try simp at hz2); have hz2_0 : w.heap.size < w2.heap.size := (by omega); have hz2_1 : w.heap.size + 1 < w2.heap.size := (by omega)
  go_wp2_with (fail)
  refine (F1.out _).mono ?_; rintro e w3 ⟨rfl, hb3⟩; obtain ⟨hc3, hf3⟩ := bcell hb3; have hz3 := hb3.size; (try simp at hz3); have hz3_0 : w.heap.size < w3.heap.size := (by omega); have hz3_1 : w.heap.size + 1 < w3.heap.size := (by omega)
  go_wp2_with (fail)
  refine (F2.out _).mono ?_; rintro e w4 ⟨rfl, hb4⟩; obtain ⟨hc4, hf4⟩ := bcell hb4; have hz4 := hb4.size; (try simp at hz4); have hz4_0 : w.heap.size < w4.heap.size := (by omega); have hz4_1 : w.heap.size + 1 < w4.heap.size := (by omega)
  go_wp2
  refine wp_region_quietC_lit (KeptC w [(⟨w.heap.size, 0, none⟩, .bool ha), (⟨w.heap.size, 1, none⟩, .int .i64 va), (⟨w.heap.size, 2, none⟩, .int .i64 oa), (⟨w.heap.size, 3, none⟩, .int .i64 aa), (⟨w.heap.size + 1, 0, none⟩, .bool hb), (⟨w.heap.size + 1, 1, none⟩, .int .i64 vb), (⟨w.heap.size + 1, 2, none⟩, .int .i64 ob), (⟨w.heap.size + 1, 3, none⟩, .int .i64 ab)] []) (by kernel_rfl) (by kernel_rfl) ?_ ?_
  · refine KeptC.drewn ?_
    repeat' (first | refine KeptC.cons ?_ ?_ | refine KeptC.consF ?_ ?_ ?_ | refine KeptC.mk0 ?_)
    all_goals (first | with_reducible assumption | (go_simp; done) | (simp; omega) | exact (by repeat (first | with_reducible refine Below.setCell ?_ (by first | (simp; done) | (simp; omega) | omega) _ | with_reducible refine Below.alloc ?_ (by first | (simp; done) | (simp; omega) | omega) _ | with_reducible refine Below.drew ?_ | with_reducible exact Below.refl _ _ | with_reducible refine Below.trans ?_ (Below.mono hkB9 (by first | (simp; done) | (simp; omega) | omega)) | with_reducible refine Below.trans ?_ (Below.mono hb1 (by first | (simp; done) | (simp; omega) | omega)) | with_reducible refine Below.trans ?_ (Below.mono hb2 (by first | (simp; done) | (simp; omega) | omega)) | with_reducible refine Below.trans ?_ (Below.mono hb3 (by first | (simp; done) | (simp; omega) | omega)) | with_reducible refine Below.trans ?_ (Below.mono hb4 (by first | (simp; done) | (simp; omega) | omega)))))
  repeat (first
    | go_big_quiet_skip
    | (go_big_quiet_want; (apply quietC_run); (· intro w' hw'; (have hk' := hw'; simp only [KeptC, List.forall_mem_cons] at hk'; go_split_ands); go_simp; first | done | rfl); (simp only [Act.put, List.setIfInBounds_toArray, List.set_cons_zero, List.set_cons_succ]; go_big_quiet_on))
    | (go_big_quiet_want; (apply quietC_call); (· intro w' hw'; go_simp; first | done | exact ⟨rfl, rfl⟩ | rfl); (· intro w' hw'; first | ((with_reducible refine (L1.out _).mono ?_); rintro e w2 ⟨rfl, hb⟩; exact ⟨rfl, hw'.below hb⟩) | ((with_reducible refine (L2.out _).mono ?_); rintro e w2 ⟨rfl, hb⟩; exact ⟨rfl, hw'.below hb⟩) | ((with_reducible refine (G1.out _).mono ?_); rintro e w2 ⟨rfl, hb⟩; exact ⟨rfl, hw'.below hb⟩) | ((with_reducible refine (G2.out _).mono ?_); rintro e w2 ⟨rfl, hb⟩; exact ⟨rfl, hw'.below hb⟩) | ((with_reducible refine (O1.out _).mono ?_); rintro e w2 ⟨rfl, hb⟩; exact ⟨rfl, hw'.below hb⟩) | ((with_reducible refine (O2.out _).mono ?_); rintro e w2 ⟨rfl, hb⟩; exact ⟨rfl, hw'.below hb⟩) | ((with_reducible refine (awake_any _).mono ?_); rintro e w2 ⟨rfl, hb⟩; exact ⟨rfl, hw'.below hb⟩)); (simp only [Act.put, List.setIfInBounds_toArray, List.set_cons_zero, List.set_cons_succ]; go_big_quiet_on)))
  refine wpQuiet_nil ?_
  intro w8 hk8
  (have hk' := hk8; simp only [KeptC, List.forall_mem_cons] at hk'; go_split_ands); have hkB8 := hk8.1
  have hz8_0 : w.heap.size < w8.heap.size := cell_lt (a := ⟨w.heap.size, 0, none⟩) (by assumption)
  have hz8_1 : w.heap.size + 1 < w8.heap.size := cell_lt (a := ⟨w.heap.size + 1, 0, none⟩) (by assumption)
  go_wp2
  go_ret
  exact ⟨rfl, hkB8⟩
set_option maxHeartbeats 4000000 in
theorem holds_ttfr (id x : Int) (ha : Bool) (va oa aa : Int) (hb : Bool) (vb ob ab : Int) (rb : Bool) (X1 : Hid (∀ w, Calls Try.prog 7 #[.agg #[.bool ha, .int .i64 va, .int .i64 oa, .int .i64 aa]] w fun e w' => e = .returned (.bool false) ∧ Below w.heap.size w w')) (F1 : Hid (∀ w, Calls Try.prog 8 #[.agg #[.bool ha, .int .i64 va, .int .i64 oa, .int .i64 aa]] w fun e w' => e = .returned (.bool false) ∧ Below w.heap.size w w')) (X2 : Hid (∀ w, Calls Try.prog 7 #[.agg #[.bool hb, .int .i64 vb, .int .i64 ob, .int .i64 ab]] w fun e w' => e = .returned (.bool rb) ∧ Below w.heap.size w w')) (F2 : Hid (∀ w, Calls Try.prog 8 #[.agg #[.bool hb, .int .i64 vb, .int .i64 ob, .int .i64 ab]] w fun e w' => e = .returned (.bool rb) ∧ Below w.heap.size w w')) (N1 : Hid (∀ w, Calls Try.prog 9 #[.int .i64 id] w fun e w' => e = .returned (.bool true) ∧ Below w.heap.size w w')) (N2 : Hid (∀ w, Calls Try.prog 10 #[.int .i64 x] w fun e w' => e = .returned (.bool true) ∧ Below w.heap.size w w')) (w : World) :
    Calls Try.prog 3 #[.agg #[.bool ha, .int .i64 va, .int .i64 oa, .int .i64 aa], .agg #[.bool hb, .int .i64 vb, .int .i64 ob, .int .i64 ab], .int .i64 id, .int .i64 x] w fun e w' => e = .returned (.bool true) ∧ Below w.heap.size w w' := by
  go_enter Try.func3, Try.ntmps3
  go_wp2
  refine wp_region_quietC_lit (KeptC w [(⟨w.heap.size, 0, none⟩, .bool ha), (⟨w.heap.size, 1, none⟩, .int .i64 va), (⟨w.heap.size, 2, none⟩, .int .i64 oa), (⟨w.heap.size, 3, none⟩, .int .i64 aa), (⟨w.heap.size + 1, 0, none⟩, .bool hb), (⟨w.heap.size + 1, 1, none⟩, .int .i64 vb), (⟨w.heap.size + 1, 2, none⟩, .int .i64 ob), (⟨w.heap.size + 1, 3, none⟩, .int .i64 ab)] []) (by kernel_rfl) (by kernel_rfl) ?_ ?_
  · refine KeptC.drewn ?_
    repeat' (first | refine KeptC.cons ?_ ?_ | refine KeptC.consF ?_ ?_ ?_ | refine KeptC.mk0 ?_)
    all_goals (first | with_reducible assumption | (go_simp; done) | (simp; omega) | exact (by repeat (first | with_reducible refine Below.setCell ?_ (by first | (simp; done) | (simp; omega) | omega) _ | with_reducible refine Below.alloc ?_ (by first | (simp; done) | (simp; omega) | omega) _ | with_reducible refine Below.drew ?_ | with_reducible exact Below.refl _ _)))
  repeat (first
    | go_big_quiet_skip
    | (go_big_quiet_want; (apply quietC_run); (· intro w' hw'; (have hk' := hw'; simp only [KeptC, List.forall_mem_cons] at hk'; go_split_ands); go_simp; first | done | rfl); (simp only [Act.put, List.setIfInBounds_toArray, List.set_cons_zero, List.set_cons_succ]; go_big_quiet_on))
    | (go_big_quiet_want; (apply quietC_call); (· intro w' hw'; go_simp; first | done | exact ⟨rfl, rfl⟩ | rfl); (· intro w' hw'; first | ((with_reducible refine (X1.out _).mono ?_); rintro e w2 ⟨rfl, hb⟩; exact ⟨rfl, hw'.below hb⟩) | ((with_reducible refine (X2.out _).mono ?_); rintro e w2 ⟨rfl, hb⟩; exact ⟨rfl, hw'.below hb⟩) | ((with_reducible refine (F1.out _).mono ?_); rintro e w2 ⟨rfl, hb⟩; exact ⟨rfl, hw'.below hb⟩) | ((with_reducible refine (F2.out _).mono ?_); rintro e w2 ⟨rfl, hb⟩; exact ⟨rfl, hw'.below hb⟩)); (simp only [Act.put, List.setIfInBounds_toArray, List.set_cons_zero, List.set_cons_succ]; go_big_quiet_on)))
  refine wpQuiet_nil ?_
  intro w9 hk9
  (have hk' := hk9; simp only [KeptC, List.forall_mem_cons] at hk'; go_split_ands); have hkB9 := hk9.1
  have hz9_0 : w.heap.size < w9.heap.size := cell_lt (a := ⟨w.heap.size, 0, none⟩) (by assumption)
  have hz9_1 : w.heap.size + 1 < w9.heap.size := cell_lt (a := ⟨w.heap.size + 1, 0, none⟩) (by assumption)
  go_wp2_with (fail)
  refine (N1.out _).mono ?_; rintro e w1 ⟨rfl, hb1⟩; obtain ⟨hc1, hf1⟩ := bcell hb1; have hz1 := hb1.size; (try simp at hz1); have hz1_0 : w.heap.size < w1.heap.size := (by omega); have hz1_1 : w.heap.size + 1 < w1.heap.size := (by omega)
  go_wp2_with (fail)
  refine (N2.out _).mono ?_; rintro e w2 ⟨rfl, hb2⟩; obtain ⟨hc2, hf2⟩ := bcell hb2; have hz2 := hb2.size; (try simp at hz2); have hz2_0 : w.heap.size < w2.heap.size := (by omega); have hz2_1 : w.heap.size + 1 < w2.heap.size := (by omega)
  go_wp2_with (fail)
  refine (own_any id x _).mono ?_; rintro e w3 ⟨rfl, hb3⟩; obtain ⟨hc3, hf3⟩ := bcell hb3; have hz3 := hb3.size; (try simp at hz3); have hz3_0 : w.heap.size < w3.heap.size := (by omega); have hz3_1 : w.heap.size + 1 < w3.heap.size := (by omega)
  go_wp2_with (fail)
  refine (rown_any id x _).mono ?_; rintro e w4 ⟨rfl, hb4⟩; obtain ⟨hc4, hf4⟩ := bcell hb4; have hz4 := hb4.size; (try simp at hz4); have hz4_0 : w.heap.size < w4.heap.size := (by omega); have hz4_1 : w.heap.size + 1 < w4.heap.size := (by omega)
  go_wp2_with (fail)
  refine (F1.out _).mono ?_; rintro e w5 ⟨rfl, hb5⟩; obtain ⟨hc5, hf5⟩ := bcell hb5; have hz5 := hb5.size; (try simp at hz5); have hz5_0 : w.heap.size < w5.heap.size := (by omega); have hz5_1 : w.heap.size + 1 < w5.heap.size := (by omega)
  go_wp2_with (fail)
  refine (awake_any _).mono ?_; rintro e w6 ⟨rfl, hb6⟩; obtain ⟨hc6, hf6⟩ := bcell hb6; have hz6 := hb6.size; (try simp at hz6); have hz6_0 : w.heap.size < w6.heap.size := (by omega); have hz6_1 : w.heap.size + 1 < w6.heap.size := (by omega)
  go_wp2
  go_ret
  exact ⟨rfl, (by repeat (first | with_reducible refine Below.setCell ?_ (by first | (simp; done) | (simp; omega) | omega) _ | with_reducible refine Below.alloc ?_ (by first | (simp; done) | (simp; omega) | omega) _ | with_reducible refine Below.drew ?_ | with_reducible exact Below.refl _ _ | with_reducible refine Below.trans ?_ (Below.mono hkB9 (by first | (simp; done) | (simp; omega) | omega)) | with_reducible refine Below.trans ?_ (Below.mono hb1 (by first | (simp; done) | (simp; omega) | omega)) | with_reducible refine Below.trans ?_ (Below.mono hb2 (by first | (simp; done) | (simp; omega) | omega)) | with_reducible refine Below.trans ?_ (Below.mono hb3 (by first | (simp; done) | (simp; omega) | omega)) | with_reducible refine Below.trans ?_ (Below.mono hb4 (by first | (simp; done) | (simp; omega) | omega)) | with_reducible refine Below.trans ?_ (Below.mono hb5 (by first | (simp; done) | (simp; omega) | omega)) | with_reducible refine Below.trans ?_ (Below.mono hb6 (by first | (simp; done) | (simp; omega) | omega))))⟩
set_option maxHeartbeats 4000000 in
theorem holds_tttf (id x : Int) (ha : Bool) (va oa aa : Int) (hb : Bool) (vb ob ab : Int) (X1 : Hid (∀ w, Calls Try.prog 7 #[.agg #[.bool ha, .int .i64 va, .int .i64 oa, .int .i64 aa]] w fun e w' => e = .returned (.bool true) ∧ Below w.heap.size w w')) (F1 : Hid (∀ w, Calls Try.prog 8 #[.agg #[.bool ha, .int .i64 va, .int .i64 oa, .int .i64 aa]] w fun e w' => e = .returned (.bool true) ∧ Below w.heap.size w w')) (X2 : Hid (∀ w, Calls Try.prog 7 #[.agg #[.bool hb, .int .i64 vb, .int .i64 ob, .int .i64 ab]] w fun e w' => e = .returned (.bool false) ∧ Below w.heap.size w w')) (F2 : Hid (∀ w, Calls Try.prog 8 #[.agg #[.bool hb, .int .i64 vb, .int .i64 ob, .int .i64 ab]] w fun e w' => e = .returned (.bool false) ∧ Below w.heap.size w w')) (N1 : Hid (∀ w, Calls Try.prog 9 #[.int .i64 id] w fun e w' => e = .returned (.bool true) ∧ Below w.heap.size w w')) (N2 : Hid (∀ w, Calls Try.prog 10 #[.int .i64 x] w fun e w' => e = .returned (.bool true) ∧ Below w.heap.size w w')) (w : World) :
    Calls Try.prog 3 #[.agg #[.bool ha, .int .i64 va, .int .i64 oa, .int .i64 aa], .agg #[.bool hb, .int .i64 vb, .int .i64 ob, .int .i64 ab], .int .i64 id, .int .i64 x] w fun e w' => e = .returned (.bool true) ∧ Below w.heap.size w w' := by
  go_enter Try.func3, Try.ntmps3
  go_wp2
  refine wp_region_quietC_lit (KeptC w [(⟨w.heap.size, 0, none⟩, .bool ha), (⟨w.heap.size, 1, none⟩, .int .i64 va), (⟨w.heap.size, 2, none⟩, .int .i64 oa), (⟨w.heap.size, 3, none⟩, .int .i64 aa), (⟨w.heap.size + 1, 0, none⟩, .bool hb), (⟨w.heap.size + 1, 1, none⟩, .int .i64 vb), (⟨w.heap.size + 1, 2, none⟩, .int .i64 ob), (⟨w.heap.size + 1, 3, none⟩, .int .i64 ab)] []) (by kernel_rfl) (by kernel_rfl) ?_ ?_
  · refine KeptC.drewn ?_
    repeat' (first | refine KeptC.cons ?_ ?_ | refine KeptC.consF ?_ ?_ ?_ | refine KeptC.mk0 ?_)
    all_goals (first | with_reducible assumption | (go_simp; done) | (simp; omega) | exact (by repeat (first | with_reducible refine Below.setCell ?_ (by first | (simp; done) | (simp; omega) | omega) _ | with_reducible refine Below.alloc ?_ (by first | (simp; done) | (simp; omega) | omega) _ | with_reducible refine Below.drew ?_ | with_reducible exact Below.refl _ _)))
  repeat (first
    | go_big_quiet_skip
    | (go_big_quiet_want; (apply quietC_run); (· intro w' hw'; (have hk' := hw'; simp only [KeptC, List.forall_mem_cons] at hk'; go_split_ands); go_simp; first | done | rfl); (simp only [Act.put, List.setIfInBounds_toArray, List.set_cons_zero, List.set_cons_succ]; go_big_quiet_on))
    | (go_big_quiet_want; (apply quietC_call); (· intro w' hw'; go_simp; first | done | exact ⟨rfl, rfl⟩ | rfl); (· intro w' hw'; first | ((with_reducible refine (X1.out _).mono ?_); rintro e w2 ⟨rfl, hb⟩; exact ⟨rfl, hw'.below hb⟩) | ((with_reducible refine (X2.out _).mono ?_); rintro e w2 ⟨rfl, hb⟩; exact ⟨rfl, hw'.below hb⟩) | ((with_reducible refine (F1.out _).mono ?_); rintro e w2 ⟨rfl, hb⟩; exact ⟨rfl, hw'.below hb⟩) | ((with_reducible refine (F2.out _).mono ?_); rintro e w2 ⟨rfl, hb⟩; exact ⟨rfl, hw'.below hb⟩)); (simp only [Act.put, List.setIfInBounds_toArray, List.set_cons_zero, List.set_cons_succ]; go_big_quiet_on)))
  refine wpQuiet_nil ?_
  intro w9 hk9
  (have hk' := hk9; simp only [KeptC, List.forall_mem_cons] at hk'; go_split_ands); have hkB9 := hk9.1
  have hz9_0 : w.heap.size < w9.heap.size := cell_lt (a := ⟨w.heap.size, 0, none⟩) (by assumption)
  have hz9_1 : w.heap.size + 1 < w9.heap.size := cell_lt (a := ⟨w.heap.size + 1, 0, none⟩) (by assumption)
  go_wp2_with (fail)
  refine (N1.out _).mono ?_; rintro e w1 ⟨rfl, hb1⟩; obtain ⟨hc1, hf1⟩ := bcell hb1; have hz1 := hb1.size; (try simp at hz1); have hz1_0 : w.heap.size < w1.heap.size := (by omega); have hz1_1 : w.heap.size + 1 < w1.heap.size := (by omega)
  go_wp2_with (fail)
  refine (N2.out _).mono ?_; rintro e w2 ⟨rfl, hb2⟩; obtain ⟨hc2, hf2⟩ := bcell hb2; have hz2 := hb2.size; (try simp at hz2); have hz2_0 : w.heap.size < w2.heap.size := (by omega); have hz2_1 : w.heap.size + 1 < w2.heap.size := (by omega)
  go_wp2_with (fail)
  refine (own_any id x _).mono ?_; rintro e w3 ⟨rfl, hb3⟩; obtain ⟨hc3, hf3⟩ := bcell hb3; have hz3 := hb3.size; (try simp at hz3); have hz3_0 : w.heap.size < w3.heap.size := (by omega); have hz3_1 : w.heap.size + 1 < w3.heap.size := (by omega)
  go_wp2_with (fail)
  refine (rown_any id x _).mono ?_; rintro e w4 ⟨rfl, hb4⟩; obtain ⟨hc4, hf4⟩ := bcell hb4; have hz4 := hb4.size; (try simp at hz4); have hz4_0 : w.heap.size < w4.heap.size := (by omega); have hz4_1 : w.heap.size + 1 < w4.heap.size := (by omega)
  go_wp2_with (fail)
  refine (F1.out _).mono ?_; rintro e w5 ⟨rfl, hb5⟩; obtain ⟨hc5, hf5⟩ := bcell hb5; have hz5 := hb5.size; (try simp at hz5); have hz5_0 : w.heap.size < w5.heap.size := (by omega); have hz5_1 : w.heap.size + 1 < w5.heap.size := (by omega)
  go_wp2_with (fail)
  refine (F2.out _).mono ?_; rintro e w6 ⟨rfl, hb6⟩; obtain ⟨hc6, hf6⟩ := bcell hb6; have hz6 := hb6.size; (try simp at hz6); have hz6_0 : w.heap.size < w6.heap.size := (by omega); have hz6_1 : w.heap.size + 1 < w6.heap.size := (by omega)
  go_wp2_with (fail)
  refine (awake_any _).mono ?_; rintro e w7 ⟨rfl, hb7⟩; obtain ⟨hc7, hf7⟩ := bcell hb7; have hz7 := hb7.size; (try simp at hz7); have hz7_0 : w.heap.size < w7.heap.size := (by omega); have hz7_1 : w.heap.size + 1 < w7.heap.size := (by omega)
  go_wp2
  go_ret
  exact ⟨rfl, (by repeat (first | with_reducible refine Below.setCell ?_ (by first | (simp; done) | (simp; omega) | omega) _ | with_reducible refine Below.alloc ?_ (by first | (simp; done) | (simp; omega) | omega) _ | with_reducible refine Below.drew ?_ | with_reducible exact Below.refl _ _ | with_reducible refine Below.trans ?_ (Below.mono hkB9 (by first | (simp; done) | (simp; omega) | omega)) | with_reducible refine Below.trans ?_ (Below.mono hb1 (by first | (simp; done) | (simp; omega) | omega)) | with_reducible refine Below.trans ?_ (Below.mono hb2 (by first | (simp; done) | (simp; omega) | omega)) | with_reducible refine Below.trans ?_ (Below.mono hb3 (by first | (simp; done) | (simp; omega) | omega)) | with_reducible refine Below.trans ?_ (Below.mono hb4 (by first | (simp; done) | (simp; omega) | omega)) | with_reducible refine Below.trans ?_ (Below.mono hb5 (by first | (simp; done) | (simp; omega) | omega)) | with_reducible refine Below.trans ?_ (Below.mono hb6 (by first | (simp; done) | (simp; omega) | omega)) | with_reducible refine Below.trans ?_ (Below.mono hb7 (by first | (simp; done) | (simp; omega) | omega))))⟩
set_option maxHeartbeats 4000000 in
theorem holds_tttt (id x : Int) (ha : Bool) (va oa aa : Int) (hb : Bool) (vb ob ab : Int) (hp : Bool) (vp op ap : Int) (hq : Bool) (vq oq aq : Int) (hr : Bool) (vr og ar : Int) (X1 : Hid (∀ w, Calls Try.prog 7 #[.agg #[.bool ha, .int .i64 va, .int .i64 oa, .int .i64 aa]] w fun e w' => e = .returned (.bool true) ∧ Below w.heap.size w w')) (F1 : Hid (∀ w, Calls Try.prog 8 #[.agg #[.bool ha, .int .i64 va, .int .i64 oa, .int .i64 aa]] w fun e w' => e = .returned (.bool true) ∧ Below w.heap.size w w')) (X2 : Hid (∀ w, Calls Try.prog 7 #[.agg #[.bool hb, .int .i64 vb, .int .i64 ob, .int .i64 ab]] w fun e w' => e = .returned (.bool true) ∧ Below w.heap.size w w')) (F2 : Hid (∀ w, Calls Try.prog 8 #[.agg #[.bool hb, .int .i64 vb, .int .i64 ob, .int .i64 ab]] w fun e w' => e = .returned (.bool true) ∧ Below w.heap.size w w')) (N1 : Hid (∀ w, Calls Try.prog 9 #[.int .i64 id] w fun e w' => e = .returned (.bool true) ∧ Below w.heap.size w w')) (N2 : Hid (∀ w, Calls Try.prog 10 #[.int .i64 x] w fun e w' => e = .returned (.bool true) ∧ Below w.heap.size w w')) (L1 : Hid (∀ w, Calls Try.prog 14 #[.agg #[.bool ha, .int .i64 va, .int .i64 oa, .int .i64 aa], .agg #[.bool hb, .int .i64 vb, .int .i64 ob, .int .i64 ab]] w fun e w' => e = .returned (.agg #[.bool hp, .int .i64 vp, .int .i64 op, .int .i64 ap]) ∧ Below w.heap.size w w')) (L2 : Hid (∀ w, Calls Try.prog 15 #[.agg #[.bool ha, .int .i64 va, .int .i64 oa, .int .i64 aa], .agg #[.bool hb, .int .i64 vb, .int .i64 ob, .int .i64 ab]] w fun e w' => e = .returned (.agg #[.bool hp, .int .i64 vp, .int .i64 op, .int .i64 ap]) ∧ Below w.heap.size w w')) (G1 : Hid (∀ w, Calls Try.prog 16 #[.agg #[.bool ha, .int .i64 va, .int .i64 oa, .int .i64 aa], .agg #[.bool hb, .int .i64 vb, .int .i64 ob, .int .i64 ab]] w fun e w' => e = .returned (.agg #[.bool hq, .int .i64 vq, .int .i64 oq, .int .i64 aq]) ∧ Below w.heap.size w w')) (G2 : Hid (∀ w, Calls Try.prog 17 #[.agg #[.bool ha, .int .i64 va, .int .i64 oa, .int .i64 aa], .agg #[.bool hb, .int .i64 vb, .int .i64 ob, .int .i64 ab]] w fun e w' => e = .returned (.agg #[.bool hq, .int .i64 vq, .int .i64 oq, .int .i64 aq]) ∧ Below w.heap.size w w')) (O1 : Hid (∀ w, Calls Try.prog 18 #[.agg #[.bool ha, .int .i64 va, .int .i64 oa, .int .i64 aa]] w fun e w' => e = .returned (.agg #[.bool hr, .int .i64 vr, .int .i64 og, .int .i64 ar]) ∧ Below w.heap.size w w')) (O2 : Hid (∀ w, Calls Try.prog 19 #[.agg #[.bool ha, .int .i64 va, .int .i64 oa, .int .i64 aa]] w fun e w' => e = .returned (.agg #[.bool hr, .int .i64 vr, .int .i64 og, .int .i64 ar]) ∧ Below w.heap.size w w')) (w : World) :
    Calls Try.prog 3 #[.agg #[.bool ha, .int .i64 va, .int .i64 oa, .int .i64 aa], .agg #[.bool hb, .int .i64 vb, .int .i64 ob, .int .i64 ab], .int .i64 id, .int .i64 x] w fun e w' => e = .returned (.bool true) ∧ Below w.heap.size w w' := by
  go_enter Try.func3, Try.ntmps3
  go_wp2
  refine wp_region_quietC_lit (KeptC w [(⟨w.heap.size, 0, none⟩, .bool ha), (⟨w.heap.size, 1, none⟩, .int .i64 va), (⟨w.heap.size, 2, none⟩, .int .i64 oa), (⟨w.heap.size, 3, none⟩, .int .i64 aa), (⟨w.heap.size + 1, 0, none⟩, .bool hb), (⟨w.heap.size + 1, 1, none⟩, .int .i64 vb), (⟨w.heap.size + 1, 2, none⟩, .int .i64 ob), (⟨w.heap.size + 1, 3, none⟩, .int .i64 ab)] []) (by kernel_rfl) (by kernel_rfl) ?_ ?_
  · refine KeptC.drewn ?_
    repeat' (first | refine KeptC.cons ?_ ?_ | refine KeptC.consF ?_ ?_ ?_ | refine KeptC.mk0 ?_)
    all_goals (first | with_reducible assumption | (go_simp; done) | (simp; omega) | exact (by repeat (first | with_reducible refine Below.setCell ?_ (by first | (simp; done) | (simp; omega) | omega) _ | with_reducible refine Below.alloc ?_ (by first | (simp; done) | (simp; omega) | omega) _ | with_reducible refine Below.drew ?_ | with_reducible exact Below.refl _ _)))
  repeat (first
    | go_big_quiet_skip
    | (go_big_quiet_want; (apply quietC_run); (· intro w' hw'; (have hk' := hw'; simp only [KeptC, List.forall_mem_cons] at hk'; go_split_ands); go_simp; first | done | rfl); (simp only [Act.put, List.setIfInBounds_toArray, List.set_cons_zero, List.set_cons_succ]; go_big_quiet_on))
    | (go_big_quiet_want; (apply quietC_call); (· intro w' hw'; go_simp; first | done | exact ⟨rfl, rfl⟩ | rfl); (· intro w' hw'; first | ((with_reducible refine (X1.out _).mono ?_); rintro e w2 ⟨rfl, hb⟩; exact ⟨rfl, hw'.below hb⟩) | ((with_reducible refine (X2.out _).mono ?_); rintro e w2 ⟨rfl, hb⟩; exact ⟨rfl, hw'.below hb⟩) | ((with_reducible refine (F1.out _).mono ?_); rintro e w2 ⟨rfl, hb⟩; exact ⟨rfl, hw'.below hb⟩) | ((with_reducible refine (F2.out _).mono ?_); rintro e w2 ⟨rfl, hb⟩; exact ⟨rfl, hw'.below hb⟩)); (simp only [Act.put, List.setIfInBounds_toArray, List.set_cons_zero, List.set_cons_succ]; go_big_quiet_on)))
  refine wpQuiet_nil ?_
  intro w9 hk9
  (have hk' := hk9; simp only [KeptC, List.forall_mem_cons] at hk'; go_split_ands); have hkB9 := hk9.1
  have hz9_0 : w.heap.size < w9.heap.size := cell_lt (a := ⟨w.heap.size, 0, none⟩) (by assumption)
  have hz9_1 : w.heap.size + 1 < w9.heap.size := cell_lt (a := ⟨w.heap.size + 1, 0, none⟩) (by assumption)
  go_wp2_with (fail)
  refine (N1.out _).mono ?_; rintro e w1 ⟨rfl, hb1⟩; obtain ⟨hc1, hf1⟩ := bcell hb1; have hz1 := hb1.size; (try simp at hz1); have hz1_0 : w.heap.size < w1.heap.size := (by omega); have hz1_1 : w.heap.size + 1 < w1.heap.size := (by omega)
  go_wp2_with (fail)
  refine (N2.out _).mono ?_; rintro e w2 ⟨rfl, hb2⟩; obtain ⟨hc2, hf2⟩ := bcell hb2; have hz2 := hb2.size; (try simp at hz2); have hz2_0 : w.heap.size < w2.heap.size := (by omega); have hz2_1 : w.heap.size + 1 < w2.heap.size := (by omega)
  go_wp2_with (fail)
  refine (own_any id x _).mono ?_; rintro e w3 ⟨rfl, hb3⟩; obtain ⟨hc3, hf3⟩ := bcell hb3; have hz3 := hb3.size; (try simp at hz3); have hz3_0 : w.heap.size < w3.heap.size := (by omega); have hz3_1 : w.heap.size + 1 < w3.heap.size := (by omega)
  go_wp2_with (fail)
  refine (rown_any id x _).mono ?_; rintro e w4 ⟨rfl, hb4⟩; obtain ⟨hc4, hf4⟩ := bcell hb4; have hz4 := hb4.size; (try simp at hz4); have hz4_0 : w.heap.size < w4.heap.size := (by omega); have hz4_1 : w.heap.size + 1 < w4.heap.size := (by omega)
  go_wp2_with (fail)
  refine (F1.out _).mono ?_; rintro e w5 ⟨rfl, hb5⟩; obtain ⟨hc5, hf5⟩ := bcell hb5; have hz5 := hb5.size; (try simp at hz5); have hz5_0 : w.heap.size < w5.heap.size := (by omega); have hz5_1 : w.heap.size + 1 < w5.heap.size := (by omega)
  go_wp2_with (fail)
  refine (F2.out _).mono ?_; rintro e w6 ⟨rfl, hb6⟩; obtain ⟨hc6, hf6⟩ := bcell hb6; have hz6 := hb6.size; (try simp at hz6); have hz6_0 : w.heap.size < w6.heap.size := (by omega); have hz6_1 : w.heap.size + 1 < w6.heap.size := (by omega)
  go_wp2
  refine wp_region_quietC_lit (KeptC w [(⟨w.heap.size, 0, none⟩, .bool ha), (⟨w.heap.size, 1, none⟩, .int .i64 va), (⟨w.heap.size, 2, none⟩, .int .i64 oa), (⟨w.heap.size, 3, none⟩, .int .i64 aa), (⟨w.heap.size + 1, 0, none⟩, .bool hb), (⟨w.heap.size + 1, 1, none⟩, .int .i64 vb), (⟨w.heap.size + 1, 2, none⟩, .int .i64 ob), (⟨w.heap.size + 1, 3, none⟩, .int .i64 ab)] []) (by kernel_rfl) (by kernel_rfl) ?_ ?_
  · refine KeptC.drewn ?_
    repeat' (first | refine KeptC.cons ?_ ?_ | refine KeptC.consF ?_ ?_ ?_ | refine KeptC.mk0 ?_)
    all_goals (first | with_reducible assumption | (go_simp; done) | (simp; omega) | exact (by repeat (first | with_reducible refine Below.setCell ?_ (by first | (simp; done) | (simp; omega) | omega) _ | with_reducible refine Below.alloc ?_ (by first | (simp; done) | (simp; omega) | omega) _ | with_reducible refine Below.drew ?_ | with_reducible exact Below.refl _ _ | with_reducible refine Below.trans ?_ (Below.mono hkB9 (by first | (simp; done) | (simp; omega) | omega)) | with_reducible refine Below.trans ?_ (Below.mono hb1 (by first | (simp; done) | (simp; omega) | omega)) | with_reducible refine Below.trans ?_ (Below.mono hb2 (by first | (simp; done) | (simp; omega) | omega)) | with_reducible refine Below.trans ?_ (Below.mono hb3 (by first | (simp; done) | (simp; omega) | omega)) | with_reducible refine Below.trans ?_ (Below.mono hb4 (by first | (simp; done) | (simp; omega) | omega)) | with_reducible refine Below.trans ?_ (Below.mono hb5 (by first | (simp; done) | (simp; omega) | omega)) | with_reducible refine Below.trans ?_ (Below.mono hb6 (by first | (simp; done) | (simp; omega) | omega)))))
  repeat (first
    | go_big_quiet_skip
    | (go_big_quiet_want; (apply quietC_run); (· intro w' hw'; (have hk' := hw'; simp only [KeptC, List.forall_mem_cons] at hk'; go_split_ands); go_simp; first | done | rfl); (simp only [Act.put, List.setIfInBounds_toArray, List.set_cons_zero, List.set_cons_succ]; go_big_quiet_on))
    | (go_big_quiet_want; (apply quietC_call); (· intro w' hw'; go_simp; first | done | exact ⟨rfl, rfl⟩ | rfl); (· intro w' hw'; first | ((with_reducible refine (L1.out _).mono ?_); rintro e w2 ⟨rfl, hb⟩; exact ⟨rfl, hw'.below hb⟩) | ((with_reducible refine (L2.out _).mono ?_); rintro e w2 ⟨rfl, hb⟩; exact ⟨rfl, hw'.below hb⟩) | ((with_reducible refine (G1.out _).mono ?_); rintro e w2 ⟨rfl, hb⟩; exact ⟨rfl, hw'.below hb⟩) | ((with_reducible refine (G2.out _).mono ?_); rintro e w2 ⟨rfl, hb⟩; exact ⟨rfl, hw'.below hb⟩) | ((with_reducible refine (O1.out _).mono ?_); rintro e w2 ⟨rfl, hb⟩; exact ⟨rfl, hw'.below hb⟩) | ((with_reducible refine (O2.out _).mono ?_); rintro e w2 ⟨rfl, hb⟩; exact ⟨rfl, hw'.below hb⟩) | ((with_reducible refine (awake_any _).mono ?_); rintro e w2 ⟨rfl, hb⟩; exact ⟨rfl, hw'.below hb⟩)); (simp only [Act.put, List.setIfInBounds_toArray, List.set_cons_zero, List.set_cons_succ]; go_big_quiet_on)))
  refine wpQuiet_nil ?_
  intro w8 hk8
  (have hk' := hk8; simp only [KeptC, List.forall_mem_cons] at hk'; go_split_ands); have hkB8 := hk8.1
  have hz8_0 : w.heap.size < w8.heap.size := cell_lt (a := ⟨w.heap.size, 0, none⟩) (by assumption)
  have hz8_1 : w.heap.size + 1 < w8.heap.size := cell_lt (a := ⟨w.heap.size + 1, 0, none⟩) (by assumption)
  go_wp2
  go_ret
  exact ⟨rfl, hkB8⟩
theorem extHolds_any (id x : Int) (ha : Bool) (va oa aa : Int) (hb : Bool) (vb ob ab : Int) (w : World) :
    Calls Try.prog 3 #[.agg #[.bool ha, .int .i64 va, .int .i64 oa, .int .i64 aa], .agg #[.bool hb, .int .i64 vb, .int .i64 ob, .int .i64 ab], .int .i64 id, .int .i64 x] w fun e w' => e = .returned (.bool true) ∧ Below w.heap.size w w' := by
  cases n1 : (decide (0 ≤ id) && decide (id < 16)) with
  | false =>
    cases fa : efitB ha va oa aa with
    | false => exact holds_fxfr id x ha va oa aa hb vb ob ab _ (fitTo fa) (rfitTo fa) (fitTo rfl) (rfitTo rfl) (lnodeTo n1) w
    | true =>
      cases fb : efitB hb vb ob ab with
      | false => exact holds_fxtf id x ha va oa aa hb vb ob ab (fitTo fa) (rfitTo fa) (fitTo fb) (rfitTo fb) (lnodeTo n1) w
      | true =>
        exact holds_fxtt id x ha va oa aa hb vb ob ab _ _ _ _ _ _ _ _ _ _ _ _ (fitTo fa) (rfitTo fa) (fitTo fb) (rfitTo fb) (lnodeTo n1)
          (leastTo fa fb (eta (pickE 1 _ _))) (rleastTo fa fb (eta (pickE 1 _ _))) (greatestTo fa fb (eta (pickE (-1) _ _))) (rgreatestTo fa fb (eta (pickE (-1) _ _))) (olderTo fa (eta (olderE _))) (rolderTo fa (eta (olderE _))) w
  | true =>
   cases n2 : flowB x with
   | false =>
    cases fa : efitB ha va oa aa with
    | false => exact holds_tffr id x ha va oa aa hb vb ob ab _ (fitTo fa) (rfitTo fa) (fitTo rfl) (rfitTo rfl) (lnodeTo n1) (lflowTo n2) w
    | true =>
      cases fb : efitB hb vb ob ab with
      | false => exact holds_tftf id x ha va oa aa hb vb ob ab (fitTo fa) (rfitTo fa) (fitTo fb) (rfitTo fb) (lnodeTo n1) (lflowTo n2) w
      | true =>
        exact holds_tftt id x ha va oa aa hb vb ob ab _ _ _ _ _ _ _ _ _ _ _ _ (fitTo fa) (rfitTo fa) (fitTo fb) (rfitTo fb) (lnodeTo n1) (lflowTo n2)
          (leastTo fa fb (eta (pickE 1 _ _))) (rleastTo fa fb (eta (pickE 1 _ _))) (greatestTo fa fb (eta (pickE (-1) _ _))) (rgreatestTo fa fb (eta (pickE (-1) _ _))) (olderTo fa (eta (olderE _))) (rolderTo fa (eta (olderE _))) w
   | true =>
    cases fa : efitB ha va oa aa with
    | false => exact holds_ttfr id x ha va oa aa hb vb ob ab _ (fitTo fa) (rfitTo fa) (fitTo rfl) (rfitTo rfl) (lnodeTo n1) (lflowTo n2) w
    | true =>
      cases fb : efitB hb vb ob ab with
      | false => exact holds_tttf id x ha va oa aa hb vb ob ab (fitTo fa) (rfitTo fa) (fitTo fb) (rfitTo fb) (lnodeTo n1) (lflowTo n2) w
      | true =>
        exact holds_tttt id x ha va oa aa hb vb ob ab _ _ _ _ _ _ _ _ _ _ _ _ (fitTo fa) (rfitTo fa) (fitTo fb) (rfitTo fb) (lnodeTo n1) (lflowTo n2)
          (leastTo fa fb (eta (pickE 1 _ _))) (rleastTo fa fb (eta (pickE 1 _ _))) (greatestTo fa fb (eta (pickE (-1) _ _))) (rgreatestTo fa fb (eta (pickE (-1) _ _))) (olderTo fa (eta (olderE _))) (rolderTo fa (eta (olderE _))) w
end Go.Proofs.Ytdiccafoajjbmaa
