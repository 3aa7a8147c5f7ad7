/- Whatever three extreme values: eddylaw16's ExtOrder returns true; whatever two, number and value: ExtHolds. No conditions. -/
import Derived.Test.YtdiccafoajjbmaaExtD
import Derived.Test.YtdiccafoajjbmaaLaw
namespace Go.Proofs.Ytdiccafoajjbmaa
open Go.ChangeShapes Go.WideShapes Go.ChangeAt Go.RowKit Go.Joins Go.BigFrame
set_option linter.unusedVariables false
theorem hidB {P : Program} {f : FuncId} {args : Array Value} {v : Value} (h : ∀ w, Calls P f args w fun e w' => e = .returned v ∧ Below w.heap.size w w') : Hid (∀ w, Calls P f args w fun e w' => e = .returned v ∧ Below w.heap.size w w') := h
theorem leastTo {hx : Bool} {vx ox ax : Int} {hy : Bool} {vy oy ay : Int} {hr : Bool} {vr og ar : Int} (fx : fitE ⟨hx, vx, ox, ax⟩) (fy : fitE ⟨hy, vy, oy, ay⟩) (h : pickE 1 ⟨hx, vx, ox, ax⟩ ⟨hy, vy, oy, ay⟩ = ⟨hr, vr, og, ar⟩) : Hid (∀ w, Calls Try.prog 14 #[.agg #[.bool hx, .int .i64 vx, .int .i64 ox, .int .i64 ax], .agg #[.bool hy, .int .i64 vy, .int .i64 oy, .int .i64 ay]] w fun e w' => e = .returned (.agg #[.bool hr, .int .i64 vr, .int .i64 og, .int .i64 ar]) ∧ Below w.heap.size w w') :=
  fun w => by have t := leastF_any hx vx ox ax hy vy oy ay fx fy w; rw [h] at t; exact t
theorem rleastTo {hx : Bool} {vx ox ax : Int} {hy : Bool} {vy oy ay : Int} {hr : Bool} {vr og ar : Int} (fx : fitE ⟨hx, vx, ox, ax⟩) (fy : fitE ⟨hy, vy, oy, ay⟩) (h : pickE 1 ⟨hx, vx, ox, ax⟩ ⟨hy, vy, oy, ay⟩ = ⟨hr, vr, og, ar⟩) : Hid (∀ w, Calls Try.prog 15 #[.agg #[.bool hx, .int .i64 vx, .int .i64 ox, .int .i64 ax], .agg #[.bool hy, .int .i64 vy, .int .i64 oy, .int .i64 ay]] w fun e w' => e = .returned (.agg #[.bool hr, .int .i64 vr, .int .i64 og, .int .i64 ar]) ∧ Below w.heap.size w w') :=
  fun w => by have t := rleast_any hx vx ox ax hy vy oy ay fx fy w; rw [h] at t; exact t
theorem greatestTo {hx : Bool} {vx ox ax : Int} {hy : Bool} {vy oy ay : Int} {hr : Bool} {vr og ar : Int} (fx : fitE ⟨hx, vx, ox, ax⟩) (fy : fitE ⟨hy, vy, oy, ay⟩) (h : pickE (-1) ⟨hx, vx, ox, ax⟩ ⟨hy, vy, oy, ay⟩ = ⟨hr, vr, og, ar⟩) : Hid (∀ w, Calls Try.prog 16 #[.agg #[.bool hx, .int .i64 vx, .int .i64 ox, .int .i64 ax], .agg #[.bool hy, .int .i64 vy, .int .i64 oy, .int .i64 ay]] w fun e w' => e = .returned (.agg #[.bool hr, .int .i64 vr, .int .i64 og, .int .i64 ar]) ∧ Below w.heap.size w w') :=
  fun w => by have t := greatestF_any hx vx ox ax hy vy oy ay fx fy w; rw [h] at t; exact t
theorem rgreatestTo {hx : Bool} {vx ox ax : Int} {hy : Bool} {vy oy ay : Int} {hr : Bool} {vr og ar : Int} (fx : fitE ⟨hx, vx, ox, ax⟩) (fy : fitE ⟨hy, vy, oy, ay⟩) (h : pickE (-1) ⟨hx, vx, ox, ax⟩ ⟨hy, vy, oy, ay⟩ = ⟨hr, vr, og, ar⟩) : Hid (∀ w, Calls Try.prog 17 #[.agg #[.bool hx, .int .i64 vx, .int .i64 ox, .int .i64 ax], .agg #[.bool hy, .int .i64 vy, .int .i64 oy, .int .i64 ay]] w fun e w' => e = .returned (.agg #[.bool hr, .int .i64 vr, .int .i64 og, .int .i64 ar]) ∧ Below w.heap.size w w') :=
  fun w => by have t := rgreatest_any hx vx ox ax hy vy oy ay fx fy w; rw [h] at t; exact t
theorem othersTo {id : Int} {hx : Bool} {vx ox ax : Int} {hr : Bool} {vr og ar : Int} (h : othersE id ⟨hx, vx, ox, ax⟩ = ⟨hr, vr, og, ar⟩) : Hid (∀ w, Calls Try.prog 31 #[.int .i64 id, .agg #[.bool hx, .int .i64 vx, .int .i64 ox, .int .i64 ax]] w fun e w' => e = .returned (.agg #[.bool hr, .int .i64 vr, .int .i64 og, .int .i64 ar]) ∧ Below w.heap.size w w') :=
  fun w => by have t := others_any id hx vx ox ax w; rw [h] at t; exact t
theorem rothersTo {id : Int} {hx : Bool} {vx ox ax : Int} {hr : Bool} {vr og ar : Int} (h : othersE id ⟨hx, vx, ox, ax⟩ = ⟨hr, vr, og, ar⟩) : Hid (∀ w, Calls Try.prog 32 #[.int .i64 id, .agg #[.bool hx, .int .i64 vx, .int .i64 ox, .int .i64 ax]] w fun e w' => e = .returned (.agg #[.bool hr, .int .i64 vr, .int .i64 og, .int .i64 ar]) ∧ Below w.heap.size w w') :=
  fun w => by have t := rothers_any id hx vx ox ax w; rw [h] at t; exact t
theorem olderTo {hx : Bool} {vx ox ax : Int} {hr : Bool} {vr og ar : Int} (fx : fitE ⟨hx, vx, ox, ax⟩) (h : olderE ⟨hx, vx, ox, ax⟩ = ⟨hr, vr, og, ar⟩) : Hid (∀ w, Calls Try.prog 18 #[.agg #[.bool hx, .int .i64 vx, .int .i64 ox, .int .i64 ax]] w fun e w' => e = .returned (.agg #[.bool hr, .int .i64 vr, .int .i64 og, .int .i64 ar]) ∧ Below w.heap.size w w') :=
  fun w => by have t := older_any hx vx ox ax (by have := fitE_bd fx; simp only at this; omega) (by have := fitE_bd fx; simp only at this; omega) w; rw [h] at t; exact t
theorem rolderTo {hx : Bool} {vx ox ax : Int} {hr : Bool} {vr og ar : Int} (fx : fitE ⟨hx, vx, ox, ax⟩) (h : olderE ⟨hx, vx, ox, ax⟩ = ⟨hr, vr, og, ar⟩) : Hid (∀ w, Calls Try.prog 19 #[.agg #[.bool hx, .int .i64 vx, .int .i64 ox, .int .i64 ax]] w fun e w' => e = .returned (.agg #[.bool hr, .int .i64 vr, .int .i64 og, .int .i64 ar]) ∧ Below w.heap.size w w') :=
  fun w => by have t := rolder_any hx vx ox ax (by have := fitE_bd fx; simp only at this; omega) (by have := fitE_bd fx; simp only at this; omega) w; rw [h] at t; exact t
theorem fitTo {hx : Bool} {vx ox ax : Int} {r : Bool} (h : efitB hx vx ox ax = r) : Hid (∀ w, Calls Try.prog 7 #[.agg #[.bool hx, .int .i64 vx, .int .i64 ox, .int .i64 ax]] w fun e w' => e = .returned (.bool r) ∧ Below w.heap.size w w') :=
  fun w => by have t := efit_any hx vx ox ax w; rw [h] at t; exact t
theorem rfitTo {hx : Bool} {vx ox ax : Int} {r : Bool} (h : efitB hx vx ox ax = r) : Hid (∀ w, Calls Try.prog 8 #[.agg #[.bool hx, .int .i64 vx, .int .i64 ox, .int .i64 ax]] w fun e w' => e = .returned (.bool r) ∧ Below w.heap.size w w') :=
  fun w => by have t := erfit_any hx vx ox ax w; rw [h] at t; exact t
theorem lnode_any (x : Int) (w : World) : Calls Try.prog 9 #[.int .i64 x] w fun e w' => e = .returned (.bool (decide (0 ≤ x) && decide (x < 16))) ∧ Below w.heap.size w w' := by
  go_enter Try.func9, Try.ntmps9
  go_wp2
  all_goals go_ret
  all_goals exact ⟨by simp [flowB, *] <;> omega, Below.refl _ _⟩
theorem lflow_any (x : Int) (w : World) : Calls Try.prog 10 #[.int .i64 x] w fun e w' => e = .returned (.bool (flowB x)) ∧ Below w.heap.size w w' := by
  go_enter Try.func10, Try.ntmps10
  go_wp2
  all_goals go_ret
  all_goals exact ⟨by simp [flowB, *] <;> omega, Below.refl _ _⟩
theorem lnodeTo {x : Int} {r : Bool} (h : (decide (0 ≤ x) && decide (x < 16)) = r) : Hid (∀ w, Calls Try.prog 9 #[.int .i64 x] w fun e w' => e = .returned (.bool r) ∧ Below w.heap.size w w') := fun w => by rw [← h]; exact lnode_any x w
theorem lflowTo {x : Int} {r : Bool} (h : flowB x = r) : Hid (∀ w, Calls Try.prog 10 #[.int .i64 x] w fun e w' => e = .returned (.bool r) ∧ Below w.heap.size w w') := fun w => by rw [← h]; exact lflow_any x w
set_option maxHeartbeats 4000000 in
theorem awake_any (w : World) : Calls Try.prog 13 #[] w fun e w' => e = .returned (.bool true) ∧ Below w.heap.size w w' := by
  have H0 := Lib.hid (fun w => tick_true 2 5 true 3 2 0 false 0 0 0 false 0 0 0 true 9 4 63 true 9 4 63 false 0 0 0 true 5 2 0 true 5 2 0 (othersTo (by decide)) (olderTo rfl (by decide)) (othersTo (by decide)) (olderTo rfl (by decide)) (leastTo rfl rfl (by decide)) (greatestTo rfl rfl (by decide)) w)
  have H1 := leastTo (hx := true) (vx := 3) (ox := 2) (ax := 0) (hy := true) (vy := 9) (oy := 4) (ay := 63) (hr := true) (vr := 3) (og := 2) (ar := 0) rfl rfl (by decide)
  have H2 := greatestTo (hx := true) (vx := 3) (ox := 2) (ax := 0) (hy := true) (vy := 9) (oy := 4) (ay := 63) (hr := true) (vr := 9) (og := 4) (ar := 63) rfl rfl (by decide)
  have H3 := olderTo (hx := true) (vx := 9) (ox := 4) (ax := 63) (hr := false) (vr := 0) (og := 0) (ar := 0) rfl (by decide)
  have H4 := fitTo (hx := true) (vx := 9) (ox := 4) (ax := 63) (r := true) (by decide)
  go_enter Try.func13, Try.ntmps13
  go_wp2_with (fail)
  refine (H0.out _).mono ?_; rintro e w1 ⟨rfl, hb1⟩; obtain ⟨hc1, hf1⟩ := bcell hb1; have hz1 := hb1.size; (try simp at hz1); have hz1_0 : w.heap.size < w1.heap.size := (by omega); have hz1_0_1 : w.heap.size < w1.heap.size + 1 := (by omega); have hz1_0_2 : w.heap.size < w1.heap.size + 1 + 1 := (by omega); have hz1_0_3 : w.heap.size < w1.heap.size + 1 + 1 + 1 := (by omega); have hz1_1 : w.heap.size + 1 < w1.heap.size := (by omega); have hz1_1_1 : w.heap.size + 1 < w1.heap.size + 1 := (by omega); have hz1_1_2 : w.heap.size + 1 < w1.heap.size + 1 + 1 := (by omega); have hz1_1_3 : w.heap.size + 1 < w1.heap.size + 1 + 1 + 1 := (by omega)
  go_wp2
  refine wp_region_quietC_lit (KeptC w [(⟨w.heap.size, 0, none⟩, .bool true), (⟨w.heap.size, 1, none⟩, .int .i64 3), (⟨w.heap.size, 2, none⟩, .int .i64 2), (⟨w.heap.size, 3, none⟩, .int .i64 0), (⟨w.heap.size + 1, 0, none⟩, .bool true), (⟨w.heap.size + 1, 1, none⟩, .int .i64 9), (⟨w.heap.size + 1, 2, none⟩, .int .i64 4), (⟨w.heap.size + 1, 3, none⟩, .int .i64 63), (⟨w1.heap.size, 0, none⟩, .bool true), (⟨w1.heap.size, 1, none⟩, .int .i64 5), (⟨w1.heap.size, 2, none⟩, .int .i64 2), (⟨w1.heap.size, 3, none⟩, .int .i64 0), (⟨w1.heap.size + 1, 0, none⟩, .bool true), (⟨w1.heap.size + 1, 1, none⟩, .int .i64 5), (⟨w1.heap.size + 1, 2, none⟩, .int .i64 2), (⟨w1.heap.size + 1, 3, none⟩, .int .i64 0), (⟨w1.heap.size + 1 + 1, 0, none⟩, .bool true), (⟨w1.heap.size + 1 + 1, 1, none⟩, .int .i64 5), (⟨w1.heap.size + 1 + 1, 2, none⟩, .int .i64 2), (⟨w1.heap.size + 1 + 1, 3, none⟩, .int .i64 0)] []) (by kernel_rfl) (by kernel_rfl) ?_ ?_
  · refine KeptC.drewn ?_
    repeat' (first | refine KeptC.cons ?_ ?_ | refine KeptC.consF ?_ ?_ ?_ | refine KeptC.mk0 ?_)
    all_goals (first | with_reducible assumption | (go_simp; done) | (simp; omega) | exact (by repeat (first | with_reducible refine Below.setCell ?_ (by first | (simp; done) | (simp; omega) | omega) _ | with_reducible refine Below.alloc ?_ (by first | (simp; done) | (simp; omega) | omega) _ | with_reducible refine Below.drew ?_ | with_reducible exact Below.refl _ _ | with_reducible refine Below.trans ?_ (Below.mono hb1 (by first | (simp; done) | (simp; omega) | omega)))))
  repeat (first
    | go_big_quiet_skip
    | (go_big_quiet_want; (apply quietC_run); (· intro w' hw'; (have hk' := hw'; simp only [KeptC, List.forall_mem_cons] at hk'; go_split_ands); go_simp; first | done | rfl); (simp only [Act.put, List.setIfInBounds_toArray, List.set_cons_zero, List.set_cons_succ]; go_big_quiet_on))
    | (go_big_quiet_want; (apply quietC_call); (· intro w' hw'; go_simp; first | done | exact ⟨rfl, rfl⟩ | rfl); (· intro w' hw'; first | ((with_reducible refine (H1.out _).mono ?_); rintro e w2 ⟨rfl, hb⟩; exact ⟨rfl, hw'.below hb⟩) | ((with_reducible refine (H2.out _).mono ?_); rintro e w2 ⟨rfl, hb⟩; exact ⟨rfl, hw'.below hb⟩) | ((with_reducible refine (H3.out _).mono ?_); rintro e w2 ⟨rfl, hb⟩; exact ⟨rfl, hw'.below hb⟩) | ((with_reducible refine (H4.out _).mono ?_); rintro e w2 ⟨rfl, hb⟩; exact ⟨rfl, hw'.below hb⟩)); (simp only [Act.put, List.setIfInBounds_toArray, List.set_cons_zero, List.set_cons_succ]; go_big_quiet_on)))
  refine wpQuiet_nil ?_
  intro w2 hk2
  (have hk' := hk2; simp only [KeptC, List.forall_mem_cons] at hk'; go_split_ands); have hkB2 := hk2.1
  go_wp2
  go_ret
  exact ⟨rfl, hkB2⟩
set_option maxHeartbeats 4000000 in
theorem order_na (ha : Bool) (va oa aa : Int) (hb : Bool) (vb ob ab : Int) (hc : Bool) (vc oc ac : Int) (F1 : Hid (∀ w, Calls Try.prog 8 #[.agg #[.bool ha, .int .i64 va, .int .i64 oa, .int .i64 aa]] w fun e w' => e = .returned (.bool false) ∧ Below w.heap.size w w')) (w : World) :
    Calls Try.prog 4 #[.agg #[.bool ha, .int .i64 va, .int .i64 oa, .int .i64 aa], .agg #[.bool hb, .int .i64 vb, .int .i64 ob, .int .i64 ab], .agg #[.bool hc, .int .i64 vc, .int .i64 oc, .int .i64 ac]] w fun e w' => e = .returned (.bool true) ∧ Below w.heap.size w w' := by
  go_enter Try.func4, Try.ntmps4
  go_wp2_with (fail)
  refine (F1.out _).mono ?_; rintro e w1 ⟨rfl, hb1⟩; obtain ⟨hc1, hf1⟩ := bcell hb1; have hz1 := hb1.size; (try simp at hz1); have hz1_0 : w.heap.size < w1.heap.size := (by omega); have hz1_1 : w.heap.size + 1 < w1.heap.size := (by omega); have hz1_2 : w.heap.size + 1 + 1 < w1.heap.size := (by omega)
  go_wp2_with (fail)
  refine (awake_any _).mono ?_; rintro e w2 ⟨rfl, hb2⟩; obtain ⟨hc2, hf2⟩ := bcell hb2; have hz2 := hb2.size; (try simp at hz2); have hz2_0 : w.heap.size < w2.heap.size := (by omega); have hz2_1 : w.heap.size + 1 < w2.heap.size := (by omega); have hz2_2 : w.heap.size + 1 + 1 < w2.heap.size := (by omega)
  go_wp2
  go_ret
  exact ⟨rfl, (by repeat (first | with_reducible refine Below.setCell ?_ (by first | (simp; done) | (simp; omega) | omega) _ | with_reducible refine Below.alloc ?_ (by first | (simp; done) | (simp; omega) | omega) _ | with_reducible refine Below.drew ?_ | with_reducible exact Below.refl _ _ | with_reducible refine Below.trans ?_ (Below.mono hb1 (by first | (simp; done) | (simp; omega) | omega)) | with_reducible refine Below.trans ?_ (Below.mono hb2 (by first | (simp; done) | (simp; omega) | omega))))⟩
set_option maxHeartbeats 4000000 in
theorem order_nb (ha : Bool) (va oa aa : Int) (hb : Bool) (vb ob ab : Int) (hc : Bool) (vc oc ac : Int) (F1 : Hid (∀ w, Calls Try.prog 8 #[.agg #[.bool ha, .int .i64 va, .int .i64 oa, .int .i64 aa]] w fun e w' => e = .returned (.bool true) ∧ Below w.heap.size w w')) (F2 : Hid (∀ w, Calls Try.prog 8 #[.agg #[.bool hb, .int .i64 vb, .int .i64 ob, .int .i64 ab]] w fun e w' => e = .returned (.bool false) ∧ Below w.heap.size w w')) (w : World) :
    Calls Try.prog 4 #[.agg #[.bool ha, .int .i64 va, .int .i64 oa, .int .i64 aa], .agg #[.bool hb, .int .i64 vb, .int .i64 ob, .int .i64 ab], .agg #[.bool hc, .int .i64 vc, .int .i64 oc, .int .i64 ac]] w fun e w' => e = .returned (.bool true) ∧ Below w.heap.size w w' := by
  go_enter Try.func4, Try.ntmps4
  go_wp2_with (fail)
  refine (F1.out _).mono ?_; rintro e w1 ⟨rfl, hb1⟩; obtain ⟨hc1, hf1⟩ := bcell hb1; have hz1 := hb1.size; (try simp at hz1); have hz1_0 : w.heap.size < w1.heap.size := (by omega); have hz1_1 : w.heap.size + 1 < w1.heap.size := (by omega); have hz1_2 : w.heap.size + 1 + 1 < w1.heap.size := (by omega)
  go_wp2_with (fail)
  refine (F2.out _).mono ?_; rintro e w2 ⟨rfl, hb2⟩; obtain ⟨hc2, hf2⟩ := bcell hb2; have hz2 := hb2.size; (try simp at hz2); have hz2_0 : w.heap.size < w2.heap.size := (by omega); have hz2_1 : w.heap.size + 1 < w2.heap.size := (by omega); have hz2_2 : w.heap.size + 1 + 1 < w2.heap.size := (by omega)
  go_wp2_with (fail)
  refine (awake_any _).mono ?_; rintro e w3 ⟨rfl, hb3⟩; obtain ⟨hc3, hf3⟩ := bcell hb3; have hz3 := hb3.size; (try simp at hz3); have hz3_0 : w.heap.size < w3.heap.size := (by omega); have hz3_1 : w.heap.size + 1 < w3.heap.size := (by omega); have hz3_2 : w.heap.size + 1 + 1 < w3.heap.size := (by omega)
  go_wp2
  go_ret
  exact ⟨rfl, (by repeat (first | with_reducible refine Below.setCell ?_ (by first | (simp; done) | (simp; omega) | omega) _ | with_reducible refine Below.alloc ?_ (by first | (simp; done) | (simp; omega) | omega) _ | with_reducible refine Below.drew ?_ | with_reducible exact Below.refl _ _ | with_reducible refine Below.trans ?_ (Below.mono hb1 (by first | (simp; done) | (simp; omega) | omega)) | with_reducible refine Below.trans ?_ (Below.mono hb2 (by first | (simp; done) | (simp; omega) | omega)) | with_reducible refine Below.trans ?_ (Below.mono hb3 (by first | (simp; done) | (simp; omega) | omega))))⟩
set_option maxHeartbeats 4000000 in
theorem order_nc (ha : Bool) (va oa aa : Int) (hb : Bool) (vb ob ab : Int) (hc : Bool) (vc oc ac : Int) (F1 : Hid (∀ w, Calls Try.prog 8 #[.agg #[.bool ha, .int .i64 va, .int .i64 oa, .int .i64 aa]] w fun e w' => e = .returned (.bool true) ∧ Below w.heap.size w w')) (F2 : Hid (∀ w, Calls Try.prog 8 #[.agg #[.bool hb, .int .i64 vb, .int .i64 ob, .int .i64 ab]] w fun e w' => e = .returned (.bool true) ∧ Below w.heap.size w w')) (F3 : Hid (∀ w, Calls Try.prog 8 #[.agg #[.bool hc, .int .i64 vc, .int .i64 oc, .int .i64 ac]] w fun e w' => e = .returned (.bool false) ∧ Below w.heap.size w w')) (w : World) :
    Calls Try.prog 4 #[.agg #[.bool ha, .int .i64 va, .int .i64 oa, .int .i64 aa], .agg #[.bool hb, .int .i64 vb, .int .i64 ob, .int .i64 ab], .agg #[.bool hc, .int .i64 vc, .int .i64 oc, .int .i64 ac]] w fun e w' => e = .returned (.bool true) ∧ Below w.heap.size w w' := by
  go_enter Try.func4, Try.ntmps4
  go_wp2_with (fail)
  refine (F1.out _).mono ?_; rintro e w1 ⟨rfl, hb1⟩; obtain ⟨hc1, hf1⟩ := bcell hb1; have hz1 := hb1.size; (try simp at hz1); have hz1_0 : w.heap.size < w1.heap.size := (by omega); have hz1_1 : w.heap.size + 1 < w1.heap.size := (by omega); have hz1_2 : w.heap.size + 1 + 1 < w1.heap.size := (by omega)
  go_wp2_with (fail)
  refine (F2.out _).mono ?_; rintro e w2 ⟨rfl, hb2⟩; obtain ⟨hc2, hf2⟩ := bcell hb2; have hz2 := hb2.size; (try simp at hz2); have hz2_0 : w.heap.size < w2.heap.size := (by omega); have hz2_1 : w.heap.size + 1 < w2.heap.size := (by omega); have hz2_2 : w.heap.size + 1 + 1 < w2.heap.size := (by omega)
  go_wp2_with (fail)
  refine (F3.out _).mono ?_; rintro e w3 ⟨rfl, hb3⟩; obtain ⟨hc3, hf3⟩ := bcell hb3; have hz3 := hb3.size; (try simp at hz3); have hz3_0 : w.heap.size < w3.heap.size := (by omega); have hz3_1 : w.heap.size + 1 < w3.heap.size := (by omega); have hz3_2 : w.heap.size + 1 + 1 < w3.heap.size := (by omega)
  go_wp2_with (fail)
  refine (awake_any _).mono ?_; rintro e w4 ⟨rfl, hb4⟩; obtain ⟨hc4, hf4⟩ := bcell hb4; have hz4 := hb4.size; (try simp at hz4); have hz4_0 : w.heap.size < w4.heap.size := (by omega); have hz4_1 : w.heap.size + 1 < w4.heap.size := (by omega); have hz4_2 : w.heap.size + 1 + 1 < w4.heap.size := (by omega)
  go_wp2
  go_ret
  exact ⟨rfl, (by repeat (first | with_reducible refine Below.setCell ?_ (by first | (simp; done) | (simp; omega) | omega) _ | with_reducible refine Below.alloc ?_ (by first | (simp; done) | (simp; omega) | omega) _ | with_reducible refine Below.drew ?_ | with_reducible exact Below.refl _ _ | with_reducible refine Below.trans ?_ (Below.mono hb1 (by first | (simp; done) | (simp; omega) | omega)) | with_reducible refine Below.trans ?_ (Below.mono hb2 (by first | (simp; done) | (simp; omega) | omega)) | with_reducible refine Below.trans ?_ (Below.mono hb3 (by first | (simp; done) | (simp; omega) | omega)) | with_reducible refine Below.trans ?_ (Below.mono hb4 (by first | (simp; done) | (simp; omega) | omega))))⟩
set_option maxHeartbeats 4000000 in
theorem order_w (ha : Bool) (va oa aa : Int) (hb : Bool) (vb ob ab : Int) (hc : Bool) (vc oc ac : Int) (hp : Bool) (vp op ap : Int) (hq : Bool) (vq oq aq : Int) (hr : Bool) (vr or' ar : Int) (hs : Bool) (vs os' as' : Int) (ht : Bool) (vt ot at' : Int) (hu : Bool) (vu ou au : Int) (F1 : Hid (∀ w, Calls Try.prog 8 #[.agg #[.bool ha, .int .i64 va, .int .i64 oa, .int .i64 aa]] w fun e w' => e = .returned (.bool true) ∧ Below w.heap.size w w')) (F2 : Hid (∀ w, Calls Try.prog 8 #[.agg #[.bool hb, .int .i64 vb, .int .i64 ob, .int .i64 ab]] w fun e w' => e = .returned (.bool true) ∧ Below w.heap.size w w')) (F3 : Hid (∀ w, Calls Try.prog 8 #[.agg #[.bool hc, .int .i64 vc, .int .i64 oc, .int .i64 ac]] w fun e w' => e = .returned (.bool true) ∧ Below w.heap.size w w')) (L1 : Hid (∀ w, Calls Try.prog 14 #[.agg #[.bool ha, .int .i64 va, .int .i64 oa, .int .i64 aa], .agg #[.bool hb, .int .i64 vb, .int .i64 ob, .int .i64 ab]] w fun e w' => e = .returned (.agg #[.bool hp, .int .i64 vp, .int .i64 op, .int .i64 ap]) ∧ Below w.heap.size w w')) (L2 : Hid (∀ w, Calls Try.prog 14 #[.agg #[.bool hb, .int .i64 vb, .int .i64 ob, .int .i64 ab], .agg #[.bool ha, .int .i64 va, .int .i64 oa, .int .i64 aa]] w fun e w' => e = .returned (.agg #[.bool hp, .int .i64 vp, .int .i64 op, .int .i64 ap]) ∧ Below w.heap.size w w')) (L3 : Hid (∀ w, Calls Try.prog 14 #[.agg #[.bool hp, .int .i64 vp, .int .i64 op, .int .i64 ap], .agg #[.bool hc, .int .i64 vc, .int .i64 oc, .int .i64 ac]] w fun e w' => e = .returned (.agg #[.bool hr, .int .i64 vr, .int .i64 or', .int .i64 ar]) ∧ Below w.heap.size w w')) (L4 : Hid (∀ w, Calls Try.prog 14 #[.agg #[.bool hb, .int .i64 vb, .int .i64 ob, .int .i64 ab], .agg #[.bool hc, .int .i64 vc, .int .i64 oc, .int .i64 ac]] w fun e w' => e = .returned (.agg #[.bool hq, .int .i64 vq, .int .i64 oq, .int .i64 aq]) ∧ Below w.heap.size w w')) (L5 : Hid (∀ w, Calls Try.prog 14 #[.agg #[.bool ha, .int .i64 va, .int .i64 oa, .int .i64 aa], .agg #[.bool hq, .int .i64 vq, .int .i64 oq, .int .i64 aq]] w fun e w' => e = .returned (.agg #[.bool hr, .int .i64 vr, .int .i64 or', .int .i64 ar]) ∧ Below w.heap.size w w')) (G1 : Hid (∀ w, Calls Try.prog 16 #[.agg #[.bool ha, .int .i64 va, .int .i64 oa, .int .i64 aa], .agg #[.bool hb, .int .i64 vb, .int .i64 ob, .int .i64 ab]] w fun e w' => e = .returned (.agg #[.bool hs, .int .i64 vs, .int .i64 os', .int .i64 as']) ∧ Below w.heap.size w w')) (G2 : Hid (∀ w, Calls Try.prog 16 #[.agg #[.bool hb, .int .i64 vb, .int .i64 ob, .int .i64 ab], .agg #[.bool ha, .int .i64 va, .int .i64 oa, .int .i64 aa]] w fun e w' => e = .returned (.agg #[.bool hs, .int .i64 vs, .int .i64 os', .int .i64 as']) ∧ Below w.heap.size w w')) (G3 : Hid (∀ w, Calls Try.prog 16 #[.agg #[.bool hs, .int .i64 vs, .int .i64 os', .int .i64 as'], .agg #[.bool hc, .int .i64 vc, .int .i64 oc, .int .i64 ac]] w fun e w' => e = .returned (.agg #[.bool hu, .int .i64 vu, .int .i64 ou, .int .i64 au]) ∧ Below w.heap.size w w')) (G4 : Hid (∀ w, Calls Try.prog 16 #[.agg #[.bool hb, .int .i64 vb, .int .i64 ob, .int .i64 ab], .agg #[.bool hc, .int .i64 vc, .int .i64 oc, .int .i64 ac]] w fun e w' => e = .returned (.agg #[.bool ht, .int .i64 vt, .int .i64 ot, .int .i64 at']) ∧ Below w.heap.size w w')) (G5 : Hid (∀ w, Calls Try.prog 16 #[.agg #[.bool ha, .int .i64 va, .int .i64 oa, .int .i64 aa], .agg #[.bool ht, .int .i64 vt, .int .i64 ot, .int .i64 at']] w fun e w' => e = .returned (.agg #[.bool hu, .int .i64 vu, .int .i64 ou, .int .i64 au]) ∧ Below w.heap.size w w')) (S1 : Hid (∀ w, Calls Try.prog 14 #[.agg #[.bool ha, .int .i64 va, .int .i64 oa, .int .i64 aa], .agg #[.bool ha, .int .i64 va, .int .i64 oa, .int .i64 aa]] w fun e w' => e = .returned (.agg #[.bool ha, .int .i64 va, .int .i64 oa, .int .i64 aa]) ∧ Below w.heap.size w w')) (w : World) :
    Calls Try.prog 4 #[.agg #[.bool ha, .int .i64 va, .int .i64 oa, .int .i64 aa], .agg #[.bool hb, .int .i64 vb, .int .i64 ob, .int .i64 ab], .agg #[.bool hc, .int .i64 vc, .int .i64 oc, .int .i64 ac]] w fun e w' => e = .returned (.bool true) ∧ Below w.heap.size w w' := by
  go_enter Try.func4, Try.ntmps4
  go_wp2_with (fail)
  refine (F1.out _).mono ?_; rintro e w1 ⟨rfl, hb1⟩; obtain ⟨hc1, hf1⟩ := bcell hb1; have hz1 := hb1.size; (try simp at hz1); have hz1_0 : w.heap.size < w1.heap.size := (by omega); have hz1_1 : w.heap.size + 1 < w1.heap.size := (by omega); have hz1_2 : w.heap.size + 1 + 1 < w1.heap.size := (by omega)
  go_wp2_with (fail)
  refine (F2.out _).mono ?_; rintro e w2 ⟨rfl, hb2⟩; obtain ⟨hc2, hf2⟩ := bcell hb2; have hz2 := hb2.size; (try simp at hz2); have hz2_0 : w.heap.size < w2.heap.size := (by omega); have hz2_1 : w.heap.size + 1 < w2.heap.size := (by omega); have hz2_2 : w.heap.size + 1 + 1 < w2.heap.size := (by omega)
  go_wp2_with (fail)
  refine (F3.out _).mono ?_; rintro e w3 ⟨rfl, hb3⟩; obtain ⟨hc3, hf3⟩ := bcell hb3; have hz3 := hb3.size; (try simp at hz3); have hz3_0 : w.heap.size < w3.heap.size := (by omega); have hz3_1 : w.heap.size + 1 < w3.heap.size := (by omega); have hz3_2 : w.heap.size + 1 + 1 < w3.heap.size := (by omega)
  go_wp2
  refine wp_region_quietC_lit (KeptC w [(⟨w.heap.size, 0, none⟩, .bool ha), (⟨w.heap.size, 1, none⟩, .int .i64 va), (⟨w.heap.size, 2, none⟩, .int .i64 oa), (⟨w.heap.size, 3, none⟩, .int .i64 aa), (⟨w.heap.size + 1, 0, none⟩, .bool hb), (⟨w.heap.size + 1, 1, none⟩, .int .i64 vb), (⟨w.heap.size + 1, 2, none⟩, .int .i64 ob), (⟨w.heap.size + 1, 3, none⟩, .int .i64 ab), (⟨w.heap.size + 1 + 1, 0, none⟩, .bool hc), (⟨w.heap.size + 1 + 1, 1, none⟩, .int .i64 vc), (⟨w.heap.size + 1 + 1, 2, none⟩, .int .i64 oc), (⟨w.heap.size + 1 + 1, 3, none⟩, .int .i64 ac)] []) (by kernel_rfl) (by kernel_rfl) ?_ ?_
  · refine KeptC.drewn ?_
    repeat' (first | refine KeptC.cons ?_ ?_ | refine KeptC.consF ?_ ?_ ?_ | refine KeptC.mk0 ?_)
    all_goals (first | with_reducible assumption | (go_simp; done) | (simp; omega) | exact (by repeat (first | with_reducible refine Below.setCell ?_ (by first | (simp; done) | (simp; omega) | omega) _ | with_reducible refine Below.alloc ?_ (by first | (simp; done) | (simp; omega) | omega) _ | with_reducible refine Below.drew ?_ | with_reducible exact Below.refl _ _ | with_reducible refine Below.trans ?_ (Below.mono hb1 (by first | (simp; done) | (simp; omega) | omega)) | with_reducible refine Below.trans ?_ (Below.mono hb2 (by first | (simp; done) | (simp; omega) | omega)) | with_reducible refine Below.trans ?_ (Below.mono hb3 (by first | (simp; done) | (simp; omega) | omega)))))
  repeat (first
    | go_big_quiet_skip
    | (go_big_quiet_want; (apply quietC_run); (· intro w' hw'; (have hk' := hw'; simp only [KeptC, List.forall_mem_cons] at hk'; go_split_ands); go_simp; first | done | rfl); (simp only [Act.put, List.setIfInBounds_toArray, List.set_cons_zero, List.set_cons_succ]; go_big_quiet_on))
    | (go_big_quiet_want; (apply quietC_call); (· intro w' hw'; go_simp; first | done | exact ⟨rfl, rfl⟩ | rfl); (· intro w' hw'; first | ((with_reducible refine (L1.out _).mono ?_); rintro e w2 ⟨rfl, hb⟩; exact ⟨rfl, hw'.below hb⟩) | ((with_reducible refine (L2.out _).mono ?_); rintro e w2 ⟨rfl, hb⟩; exact ⟨rfl, hw'.below hb⟩) | ((with_reducible refine (L3.out _).mono ?_); rintro e w2 ⟨rfl, hb⟩; exact ⟨rfl, hw'.below hb⟩) | ((with_reducible refine (L4.out _).mono ?_); rintro e w2 ⟨rfl, hb⟩; exact ⟨rfl, hw'.below hb⟩) | ((with_reducible refine (L5.out _).mono ?_); rintro e w2 ⟨rfl, hb⟩; exact ⟨rfl, hw'.below hb⟩) | ((with_reducible refine (G1.out _).mono ?_); rintro e w2 ⟨rfl, hb⟩; exact ⟨rfl, hw'.below hb⟩) | ((with_reducible refine (G2.out _).mono ?_); rintro e w2 ⟨rfl, hb⟩; exact ⟨rfl, hw'.below hb⟩) | ((with_reducible refine (G3.out _).mono ?_); rintro e w2 ⟨rfl, hb⟩; exact ⟨rfl, hw'.below hb⟩) | ((with_reducible refine (G4.out _).mono ?_); rintro e w2 ⟨rfl, hb⟩; exact ⟨rfl, hw'.below hb⟩) | ((with_reducible refine (G5.out _).mono ?_); rintro e w2 ⟨rfl, hb⟩; exact ⟨rfl, hw'.below hb⟩) | ((with_reducible refine (S1.out _).mono ?_); rintro e w2 ⟨rfl, hb⟩; exact ⟨rfl, hw'.below hb⟩) | ((with_reducible refine (awake_any _).mono ?_); rintro e w2 ⟨rfl, hb⟩; exact ⟨rfl, hw'.below hb⟩)); (simp only [Act.put, List.setIfInBounds_toArray, List.set_cons_zero, List.set_cons_succ]; go_big_quiet_on)))
  refine wpQuiet_nil ?_
  intro w4 hk4
  (have hk' := hk4; simp only [KeptC, List.forall_mem_cons] at hk'; go_split_ands); have hkB4 := hk4.1
  have hz4_0 : w.heap.size < w4.heap.size := cell_lt (a := ⟨w.heap.size, 0, none⟩) (by assumption)
  have hz4_1 : w.heap.size + 1 < w4.heap.size := cell_lt (a := ⟨w.heap.size + 1, 0, none⟩) (by assumption)
  have hz4_2 : w.heap.size + 1 + 1 < w4.heap.size := cell_lt (a := ⟨w.heap.size + 1 + 1, 0, none⟩) (by assumption)
  go_wp2
  refine wp_region_quietC_lit (KeptC w [(⟨w.heap.size, 0, none⟩, .bool ha), (⟨w.heap.size, 1, none⟩, .int .i64 va), (⟨w.heap.size, 2, none⟩, .int .i64 oa), (⟨w.heap.size, 3, none⟩, .int .i64 aa), (⟨w.heap.size + 1, 0, none⟩, .bool hb), (⟨w.heap.size + 1, 1, none⟩, .int .i64 vb), (⟨w.heap.size + 1, 2, none⟩, .int .i64 ob), (⟨w.heap.size + 1, 3, none⟩, .int .i64 ab), (⟨w.heap.size + 1 + 1, 0, none⟩, .bool hc), (⟨w.heap.size + 1 + 1, 1, none⟩, .int .i64 vc), (⟨w.heap.size + 1 + 1, 2, none⟩, .int .i64 oc), (⟨w.heap.size + 1 + 1, 3, none⟩, .int .i64 ac)] []) (by kernel_rfl) (by kernel_rfl) ?_ ?_
  · refine KeptC.drewn ?_
    repeat' (first | refine KeptC.cons ?_ ?_ | refine KeptC.consF ?_ ?_ ?_ | refine KeptC.mk0 ?_)
    all_goals (first | with_reducible assumption | (go_simp; done) | (simp; omega) | exact (by repeat (first | with_reducible refine Below.setCell ?_ (by first | (simp; done) | (simp; omega) | omega) _ | with_reducible refine Below.alloc ?_ (by first | (simp; done) | (simp; omega) | omega) _ | with_reducible refine Below.drew ?_ | with_reducible exact Below.refl _ _ | with_reducible refine Below.trans ?_ (Below.mono hkB4 (by first | (simp; done) | (simp; omega) | omega)))))
  repeat (first
    | go_big_quiet_skip
    | (go_big_quiet_want; (apply quietC_run); (· intro w' hw'; (have hk' := hw'; simp only [KeptC, List.forall_mem_cons] at hk'; go_split_ands); go_simp; first | done | rfl); (simp only [Act.put, List.setIfInBounds_toArray, List.set_cons_zero, List.set_cons_succ]; go_big_quiet_on))
    | (go_big_quiet_want; (apply quietC_call); (· intro w' hw'; go_simp; first | done | exact ⟨rfl, rfl⟩ | rfl); (· intro w' hw'; first | ((with_reducible refine (L1.out _).mono ?_); rintro e w2 ⟨rfl, hb⟩; exact ⟨rfl, hw'.below hb⟩) | ((with_reducible refine (L2.out _).mono ?_); rintro e w2 ⟨rfl, hb⟩; exact ⟨rfl, hw'.below hb⟩) | ((with_reducible refine (L3.out _).mono ?_); rintro e w2 ⟨rfl, hb⟩; exact ⟨rfl, hw'.below hb⟩) | ((with_reducible refine (L4.out _).mono ?_); rintro e w2 ⟨rfl, hb⟩; exact ⟨rfl, hw'.below hb⟩) | ((with_reducible refine (L5.out _).mono ?_); rintro e w2 ⟨rfl, hb⟩; exact ⟨rfl, hw'.below hb⟩) | ((with_reducible refine (G1.out _).mono ?_); rintro e w2 ⟨rfl, hb⟩; exact ⟨rfl, hw'.below hb⟩) | ((with_reducible refine (G2.out _).mono ?_); rintro e w2 ⟨rfl, hb⟩; exact ⟨rfl, hw'.below hb⟩) | ((with_reducible refine (G3.out _).mono ?_); rintro e w2 ⟨rfl, hb⟩; exact ⟨rfl, hw'.below hb⟩) | ((with_reducible refine (G4.out _).mono ?_); rintro e w2 ⟨rfl, hb⟩; exact ⟨rfl, hw'.below hb⟩) | ((with_reducible refine (G5.out _).mono ?_); rintro e w2 ⟨rfl, hb⟩; exact ⟨rfl, hw'.below hb⟩) | ((with_reducible refine (S1.out _).mono ?_); rintro e w2 ⟨rfl, hb⟩; exact ⟨rfl, hw'.below hb⟩) | ((with_reducible refine (awake_any _).mono ?_); rintro e w2 ⟨rfl, hb⟩; exact ⟨rfl, hw'.below hb⟩)); (simp only [Act.put, List.setIfInBounds_toArray, List.set_cons_zero, List.set_cons_succ]; go_big_quiet_on)))
  refine wpQuiet_nil ?_
  intro w5 hk5
  (have hk' := hk5; simp only [KeptC, List.forall_mem_cons] at hk'; go_split_ands); have hkB5 := hk5.1
  have hz5_0 : w.heap.size < w5.heap.size := cell_lt (a := ⟨w.heap.size, 0, none⟩) (by assumption)
  have hz5_1 : w.heap.size + 1 < w5.heap.size := cell_lt (a := ⟨w.heap.size + 1, 0, none⟩) (by assumption)
  have hz5_2 : w.heap.size + 1 + 1 < w5.heap.size := cell_lt (a := ⟨w.heap.size + 1 + 1, 0, none⟩) (by assumption)
  go_wp2
  go_ret
  exact ⟨rfl, hkB5⟩
theorem eta (e : E) : e = ⟨e.has, e.val, e.org, e.age⟩ := rfl
theorem extOrder_any (ha : Bool) (va oa aa : Int) (hb : Bool) (vb ob ab : Int) (hc : Bool) (vc oc ac : Int) (w : World) :
    Calls Try.prog 4 #[.agg #[.bool ha, .int .i64 va, .int .i64 oa, .int .i64 aa], .agg #[.bool hb, .int .i64 vb, .int .i64 ob, .int .i64 ab], .agg #[.bool hc, .int .i64 vc, .int .i64 oc, .int .i64 ac]] w fun e w' => e = .returned (.bool true) ∧ Below w.heap.size w w' := by
  cases fa : efitB ha va oa aa with
  | false => exact order_na ha va oa aa hb vb ob ab hc vc oc ac (rfitTo fa) w
  | true =>
    cases fb : efitB hb vb ob ab with
    | false => exact order_nb ha va oa aa hb vb ob ab hc vc oc ac (rfitTo fa) (rfitTo fb) w
    | true =>
      cases fc : efitB hc vc oc ac with
      | false => exact order_nc ha va oa aa hb vb ob ab hc vc oc ac (rfitTo fa) (rfitTo fb) (rfitTo fc) w
      | true =>
        have ga : fitE ⟨ha, va, oa, aa⟩ := fa
        have gb : fitE ⟨hb, vb, ob, ab⟩ := fb
        have gc : fitE ⟨hc, vc, oc, ac⟩ := fc
        have p1 := pick_fit (s := 1) ga gb
        have p2 := pick_fit (s := 1) gb gc
        have p3 := pick_fit (s := -1) ga gb
        have p4 := pick_fit (s := -1) gb gc
        exact order_w ha va oa aa hb vb ob ab hc vc oc ac _ _ _ _ _ _ _ _ _ _ _ _ _ _ _ _ _ _ _ _ _ _ _ _ (rfitTo fa) (rfitTo fb) (rfitTo fc)
          (leastTo ga gb (eta (pickE 1 _ _))) (leastTo gb ga ((pick_comm (.inl rfl) gb ga).trans (eta _))) (leastTo p1 gc (eta (pickE 1 _ _))) (leastTo gb gc (eta (pickE 1 _ _))) (leastTo ga p2 ((pick_assoc (.inl rfl) _ _ _).symm.trans (eta _)))
          (greatestTo ga gb (eta (pickE (-1) _ _))) (greatestTo gb ga ((pick_comm (.inr rfl) gb ga).trans (eta _))) (greatestTo p3 gc (eta (pickE (-1) _ _))) (greatestTo gb gc (eta (pickE (-1) _ _))) (greatestTo ga p4 ((pick_assoc (.inr rfl) _ _ _).symm.trans (eta _)))
          (leastTo ga ga (pick_self _ _)) w
end Go.Proofs.Ytdiccafoajjbmaa
