/- The functions of layer 16 (ext) and of its reference, the third part: for fit values. -/
import Derived.Test.YtfihkkamedghkaaExtP
namespace Go.Proofs.Ytfihkkamedghkaa
open Go.RowKit Go.BigFrame
set_option maxHeartbeats 2000000 in
theorem rholdsL (ha : Bool) (va oa aa : Int) (hb : Bool) (vb ob ab : Int) (h1 : -2147483647 ≤ va) (h2 : va ≤ 2147483647) (h3 : -2147483647 ≤ vb) (h4 : vb ≤ 2147483647) (w : World) :
    Calls Try.prog 103 #[.agg #[.bool ha, .int .i64 va, .int .i64 oa, .int .i64 aa], .agg #[.bool hb, .int .i64 vb, .int .i64 ob, .int .i64 ab], .int .i64 1] w fun e w' => e = .returned (.bool (rholdsB 1 ⟨ha, va, oa, aa⟩ ⟨hb, vb, ob, ab⟩)) ∧ Below w.heap.size w w' := by
  by_cases c1 : va = vb
  all_goals by_cases c2 : aa = ab
  all_goals cases ha
  all_goals cases hb
  all_goals
    go_enter Try.func103, Try.ntmps103
    go_wp2
    all_goals go_ret
    all_goals exact ⟨congrArg (fun x => Ending.returned (Value.bool x)) (by first | (simp [rholdsB, *]; done) | (simp_all [rholdsB]; done) | (simp_all [rholdsB]; omega)), (by repeat (first | with_reducible refine Below.setCell ?_ (by first | (simp; done) | (simp; omega) | omega) _ | with_reducible refine Below.alloc ?_ (by first | (simp; done) | (simp; omega) | omega) _ | with_reducible refine Below.drew ?_ | with_reducible refine below_drewN ?_ _ | with_reducible exact Below.refl _ _))⟩
set_option maxHeartbeats 2000000 in
theorem rholdsG (ha : Bool) (va oa aa : Int) (hb : Bool) (vb ob ab : Int) (h1 : -2147483647 ≤ va) (h2 : va ≤ 2147483647) (h3 : -2147483647 ≤ vb) (h4 : vb ≤ 2147483647) (w : World) :
    Calls Try.prog 103 #[.agg #[.bool ha, .int .i64 va, .int .i64 oa, .int .i64 aa], .agg #[.bool hb, .int .i64 vb, .int .i64 ob, .int .i64 ab], .int .i64 (-1)] w fun e w' => e = .returned (.bool (rholdsB (-1) ⟨ha, va, oa, aa⟩ ⟨hb, vb, ob, ab⟩)) ∧ Below w.heap.size w w' := by
  by_cases c1 : va = vb
  all_goals by_cases c2 : aa = ab
  all_goals cases ha
  all_goals cases hb
  all_goals
    go_enter Try.func103, Try.ntmps103
    go_wp2
    all_goals go_ret
    all_goals exact ⟨congrArg (fun x => Ending.returned (Value.bool x)) (by first | (simp [rholdsB, *]; done) | (simp_all [rholdsB]; done) | (simp_all [rholdsB]; omega)), (by repeat (first | with_reducible refine Below.setCell ?_ (by first | (simp; done) | (simp; omega) | omega) _ | with_reducible refine Below.alloc ?_ (by first | (simp; done) | (simp; omega) | omega) _ | with_reducible refine Below.drew ?_ | with_reducible refine below_drewN ?_ _ | with_reducible exact Below.refl _ _))⟩
set_option maxHeartbeats 2000000 in
theorem rleast_any (ha : Bool) (va oa aa : Int) (hb : Bool) (vb ob ab : Int) (fa : fitE ⟨ha, va, oa, aa⟩) (fb : fitE ⟨hb, vb, ob, ab⟩) (w : World) :
    Calls Try.prog 83 #[.agg #[.bool ha, .int .i64 va, .int .i64 oa, .int .i64 aa], .agg #[.bool hb, .int .i64 vb, .int .i64 ob, .int .i64 ab]] w fun e w' => e = .returned (.agg #[.bool (pickE 1 ⟨ha, va, oa, aa⟩ ⟨hb, vb, ob, ab⟩).has, .int .i64 (pickE 1 ⟨ha, va, oa, aa⟩ ⟨hb, vb, ob, ab⟩).val, .int .i64 (pickE 1 ⟨ha, va, oa, aa⟩ ⟨hb, vb, ob, ab⟩).org, .int .i64 (pickE 1 ⟨ha, va, oa, aa⟩ ⟨hb, vb, ob, ab⟩).age]) ∧ Below w.heap.size w w' := by
  have b1 := fitE_bd fa
  have b2 := fitE_bd fb
  simp only at b1 b2
  have H := Lib.hid (fun w => rholdsL ha va oa aa hb vb ob ab (by omega) (by omega) (by omega) (by omega) w)
  by_cases hp : rholdsB 1 ⟨ha, va, oa, aa⟩ ⟨hb, vb, ob, ab⟩ = true
  · rw [hp] at H
    have HE := Lib.hid (show pickE 1 ⟨ha, va, oa, aa⟩ ⟨hb, vb, ob, ab⟩ = ⟨hb, vb, ob, ab⟩ from by simp [pickE, hp])
    clear hp fa fb b1 b2
    go_enter Try.func83, Try.ntmps83
    go_wp2_with (fail)
    refine (H.out _).mono ?_; rintro e w1 ⟨rfl, hb1⟩; obtain ⟨hc1, hf1⟩ := bcell hb1; have hz1 := hb1.size; (try simp at hz1); have hz1_0 : w.heap.size < w1.heap.size := (by omega); have hz1_1 : w.heap.size + 1 < w1.heap.size := (by omega); have hz1_2 : w.heap.size + 1 + 1 < w1.heap.size := (by omega)
    go_wp2
    exact bodyPost_ret (by simp [results, Try.results83, go_sem, hc1] <;> rfl) rfl ⟨by rw [HE.out], (by repeat (first | with_reducible refine Below.setCell ?_ (by first | (simp; done) | (simp; omega) | omega) _ | with_reducible refine Below.alloc ?_ (by first | (simp; done) | (simp; omega) | omega) _ | with_reducible refine Below.drew ?_ | with_reducible refine below_drewN ?_ _ | with_reducible exact Below.refl _ _ | with_reducible refine Below.trans ?_ (Below.mono hb1 (by first | (simp; done) | (simp; omega) | omega))))⟩
  · have hp : rholdsB 1 ⟨ha, va, oa, aa⟩ ⟨hb, vb, ob, ab⟩ = false := by simpa using hp
    rw [hp] at H
    have HE := Lib.hid (show pickE 1 ⟨ha, va, oa, aa⟩ ⟨hb, vb, ob, ab⟩ = ⟨ha, va, oa, aa⟩ from by simp [pickE, hp])
    clear hp fa fb b1 b2
    go_enter Try.func83, Try.ntmps83
    go_wp2_with (fail)
    refine (H.out _).mono ?_; rintro e w1 ⟨rfl, hb1⟩; obtain ⟨hc1, hf1⟩ := bcell hb1; have hz1 := hb1.size; (try simp at hz1); have hz1_0 : w.heap.size < w1.heap.size := (by omega); have hz1_1 : w.heap.size + 1 < w1.heap.size := (by omega); have hz1_2 : w.heap.size + 1 + 1 < w1.heap.size := (by omega)
    go_wp2
    exact bodyPost_ret (by simp [results, Try.results83, go_sem, hc1] <;> rfl) rfl ⟨by rw [HE.out], (by repeat (first | with_reducible refine Below.setCell ?_ (by first | (simp; done) | (simp; omega) | omega) _ | with_reducible refine Below.alloc ?_ (by first | (simp; done) | (simp; omega) | omega) _ | with_reducible refine Below.drew ?_ | with_reducible refine below_drewN ?_ _ | with_reducible exact Below.refl _ _ | with_reducible refine Below.trans ?_ (Below.mono hb1 (by first | (simp; done) | (simp; omega) | omega))))⟩
set_option maxHeartbeats 2000000 in
theorem rgreatest_any (ha : Bool) (va oa aa : Int) (hb : Bool) (vb ob ab : Int) (fa : fitE ⟨ha, va, oa, aa⟩) (fb : fitE ⟨hb, vb, ob, ab⟩) (w : World) :
    Calls Try.prog 86 #[.agg #[.bool ha, .int .i64 va, .int .i64 oa, .int .i64 aa], .agg #[.bool hb, .int .i64 vb, .int .i64 ob, .int .i64 ab]] w fun e w' => e = .returned (.agg #[.bool (pickE (-1) ⟨ha, va, oa, aa⟩ ⟨hb, vb, ob, ab⟩).has, .int .i64 (pickE (-1) ⟨ha, va, oa, aa⟩ ⟨hb, vb, ob, ab⟩).val, .int .i64 (pickE (-1) ⟨ha, va, oa, aa⟩ ⟨hb, vb, ob, ab⟩).org, .int .i64 (pickE (-1) ⟨ha, va, oa, aa⟩ ⟨hb, vb, ob, ab⟩).age]) ∧ Below w.heap.size w w' := by
  have b1 := fitE_bd fa
  have b2 := fitE_bd fb
  simp only at b1 b2
  have H := Lib.hid (fun w => rholdsG ha va oa aa hb vb ob ab (by omega) (by omega) (by omega) (by omega) w)
  by_cases hp : rholdsB (-1) ⟨ha, va, oa, aa⟩ ⟨hb, vb, ob, ab⟩ = true
  · rw [hp] at H
    have HE := Lib.hid (show pickE (-1) ⟨ha, va, oa, aa⟩ ⟨hb, vb, ob, ab⟩ = ⟨hb, vb, ob, ab⟩ from by simp [pickE, hp])
    clear hp fa fb b1 b2
    go_enter Try.func86, Try.ntmps86
    go_wp2_with (fail)
    refine (H.out _).mono ?_; rintro e w1 ⟨rfl, hb1⟩; obtain ⟨hc1, hf1⟩ := bcell hb1; have hz1 := hb1.size; (try simp at hz1); have hz1_0 : w.heap.size < w1.heap.size := (by omega); have hz1_1 : w.heap.size + 1 < w1.heap.size := (by omega); have hz1_2 : w.heap.size + 1 + 1 < w1.heap.size := (by omega)
    go_wp2
    exact bodyPost_ret (by simp [results, Try.results86, go_sem, hc1] <;> rfl) rfl ⟨by rw [HE.out], (by repeat (first | with_reducible refine Below.setCell ?_ (by first | (simp; done) | (simp; omega) | omega) _ | with_reducible refine Below.alloc ?_ (by first | (simp; done) | (simp; omega) | omega) _ | with_reducible refine Below.drew ?_ | with_reducible refine below_drewN ?_ _ | with_reducible exact Below.refl _ _ | with_reducible refine Below.trans ?_ (Below.mono hb1 (by first | (simp; done) | (simp; omega) | omega))))⟩
  · have hp : rholdsB (-1) ⟨ha, va, oa, aa⟩ ⟨hb, vb, ob, ab⟩ = false := by simpa using hp
    rw [hp] at H
    have HE := Lib.hid (show pickE (-1) ⟨ha, va, oa, aa⟩ ⟨hb, vb, ob, ab⟩ = ⟨ha, va, oa, aa⟩ from by simp [pickE, hp])
    clear hp fa fb b1 b2
    go_enter Try.func86, Try.ntmps86
    go_wp2_with (fail)
    refine (H.out _).mono ?_; rintro e w1 ⟨rfl, hb1⟩; obtain ⟨hc1, hf1⟩ := bcell hb1; have hz1 := hb1.size; (try simp at hz1); have hz1_0 : w.heap.size < w1.heap.size := (by omega); have hz1_1 : w.heap.size + 1 < w1.heap.size := (by omega); have hz1_2 : w.heap.size + 1 + 1 < w1.heap.size := (by omega)
    go_wp2
    exact bodyPost_ret (by simp [results, Try.results86, go_sem, hc1] <;> rfl) rfl ⟨by rw [HE.out], (by repeat (first | with_reducible refine Below.setCell ?_ (by first | (simp; done) | (simp; omega) | omega) _ | with_reducible refine Below.alloc ?_ (by first | (simp; done) | (simp; omega) | omega) _ | with_reducible refine Below.drew ?_ | with_reducible refine below_drewN ?_ _ | with_reducible exact Below.refl _ _ | with_reducible refine Below.trans ?_ (Below.mono hb1 (by first | (simp; done) | (simp; omega) | omega))))⟩
theorem leastF_any (ha : Bool) (va oa aa : Int) (hb : Bool) (vb ob ab : Int) (fa : fitE ⟨ha, va, oa, aa⟩) (fb : fitE ⟨hb, vb, ob, ab⟩) (w : World) :
    Calls Try.prog 78 #[.agg #[.bool ha, .int .i64 va, .int .i64 oa, .int .i64 aa], .agg #[.bool hb, .int .i64 vb, .int .i64 ob, .int .i64 ab]] w fun e w' => e = .returned (.agg #[.bool (pickE 1 ⟨ha, va, oa, aa⟩ ⟨hb, vb, ob, ab⟩).has, .int .i64 (pickE 1 ⟨ha, va, oa, aa⟩ ⟨hb, vb, ob, ab⟩).val, .int .i64 (pickE 1 ⟨ha, va, oa, aa⟩ ⟨hb, vb, ob, ab⟩).org, .int .i64 (pickE 1 ⟨ha, va, oa, aa⟩ ⟨hb, vb, ob, ab⟩).age]) ∧ Below w.heap.size w w' := by
  have b1 := fitE_bd fa
  have b2 := fitE_bd fb
  simp only at b1 b2
  have h := least_any ha va oa aa hb vb ob ab w
  rw [hold_pick (s := 1) (by simp) (by simp) (by simp) fa fb] at h
  exact h
theorem greatestF_any (ha : Bool) (va oa aa : Int) (hb : Bool) (vb ob ab : Int) (fa : fitE ⟨ha, va, oa, aa⟩) (fb : fitE ⟨hb, vb, ob, ab⟩) (w : World) :
    Calls Try.prog 81 #[.agg #[.bool ha, .int .i64 va, .int .i64 oa, .int .i64 aa], .agg #[.bool hb, .int .i64 vb, .int .i64 ob, .int .i64 ab]] w fun e w' => e = .returned (.agg #[.bool (pickE (-1) ⟨ha, va, oa, aa⟩ ⟨hb, vb, ob, ab⟩).has, .int .i64 (pickE (-1) ⟨ha, va, oa, aa⟩ ⟨hb, vb, ob, ab⟩).val, .int .i64 (pickE (-1) ⟨ha, va, oa, aa⟩ ⟨hb, vb, ob, ab⟩).org, .int .i64 (pickE (-1) ⟨ha, va, oa, aa⟩ ⟨hb, vb, ob, ab⟩).age]) ∧ Below w.heap.size w w' := by
  have b1 := fitE_bd fa
  have b2 := fitE_bd fb
  simp only at b1 b2
  have h := greatest_any ha va oa aa hb vb ob ab (by omega) (by omega) (by omega) (by omega) w
  rw [hold_pick (s := (-1)) (by simp) (by simp) (by simp) fa fb] at h
  exact h
end Go.Proofs.Ytfihkkamedghkaa
