/- Whatever the arguments: eddylaw06's BagNobody returns true. No conditions. -/
import Derived.Test.YtdaobbffhfbceaaBgN
import Derived.Test.YtdaobbffhfbceaaLaw
import Derived.Test.YtdaobbffhfbceaaBgO
import Derived.ChangeMaps5
import Derived.Deep.CutRange
import Derived.Deep.Cut
namespace Go.Proofs.Ytdaobbffhfbceaa
open Go.ChangeShapes Go.WideShapes Go.ChangeAt Go.RowKit Go.Joins Go.ChangeMaps Go.Deep
set_option linter.unusedVariables false
set_option linter.unusedSimpArgs false
set_option maxRecDepth 100000
theorem take_off0 (po : Option Addr) (k : Int) (w : World) (hoff : ∀ W, Below w.heap.size w W → Calls Try.prog 23 #[.pointer po] W fun e w' => e = .returned (.bool false) ∧ W = w') :
    Calls Try.prog 11 #[.pointer po, .int .i64 k] w fun e w' => e = .returned (.tuple #[.agg #[.int .i64 0, .int .i64 0, .int .i64 0, .string ⟨#[]⟩], .int .i64 31]) ∧ Below w.heap.size w w' := take_off po k w hoff
set_option maxHeartbeats 1000000 in
theorem bagNobody_any (plain : Bool) (kd nm fr to1 : Int) (bd : ByteArray) (w : World) :
    Calls Try.prog 4 #[.bool plain, .agg #[.int .i64 kd, .int .i64 nm, .int .i64 fr, .int .i64 to1, .string bd]] w fun e w' => e = .returned (.bool true) ∧ Below w.heap.size w w' := by
  cases plain with
  | false =>
    have HTH : Hid (∀ W, KeptC w [(⟨w.heap.size, 0, none⟩, .int .i64 kd), (⟨w.heap.size, 1, none⟩, .int .i64 nm), (⟨w.heap.size, 2, none⟩, .int .i64 fr), (⟨w.heap.size, 3, none⟩, .int .i64 to1), (⟨w.heap.size, 4, none⟩, .string bd)] [] W → Calls Try.prog 23 #[.pointer none] W fun e w' => e = .returned (.bool false) ∧ W = w') := Lib.hid fun W _ => there_nil W
    go_enter Try.func4, Try.ntmps4
    go_wp2
    go_loopw [6] (fun i w' => ∃ k : Nat, k ≤ 2 ∧ i = .int .i64 k ∧ KeptC w [(⟨w.heap.size, 0, none⟩, .int .i64 kd), (⟨w.heap.size, 1, none⟩, .int .i64 nm), (⟨w.heap.size, 2, none⟩, .int .i64 fr), (⟨w.heap.size, 3, none⟩, .int .i64 to1), (⟨w.heap.size, 4, none⟩, .string bd)] [] w') (fun i _ => 2 - (intOf i).toNat)
    case atStart => exact ⟨0, by omega, rfl, (by (repeat' (first | refine KeptC.cons ?_ ?_ | refine KeptC.consF ?_ ?_ ?_ | refine KeptC.mk0 ?_)); all_goals (first | with_reducible assumption | (go_simp; done) | (simp; omega) | exact (by repeat (first | with_reducible refine Below.setCell ?_ (by first | (simp; done) | (simp; omega) | omega) _ | with_reducible refine Below.alloc ?_ (by first | (simp; done) | (simp; omega) | omega) _ | with_reducible refine Below.drew ?_ | with_reducible refine below_drewN ?_ _ | with_reducible exact Below.refl _ _))))⟩
    case round =>
      obtain ⟨k, hk, rfl, hK⟩ := hrel
      simp only [KeptC, List.forall_mem_cons] at hK; obtain ⟨kb0, ⟨kc0_0, kc0_1, kc0_2, kc0_3, kc0_4, _⟩, _⟩ := hK
      have hs0 := kb0.size
      have hz0 : w.heap.size < wr.heap.size := cell_lt kc0_0
      
      by_cases hlt : k < 2
      rotate_left
      · obtain rfl : k = 2 := by omega
        go_wp2_with (fail)
        refine (awake_any _).mono ?_; rintro e w1 ⟨rfl, hb1⟩
        go_wp2
        go_ret
        exact ⟨rfl, (by repeat (first | with_reducible refine Below.setCell ?_ (by first | (simp; done) | (simp; omega) | omega) _ | with_reducible refine Below.alloc ?_ (by first | (simp; done) | (simp; omega) | omega) _ | with_reducible refine Below.drew ?_ | with_reducible refine below_drewN ?_ _ | with_reducible exact Below.refl _ _ | with_reducible refine Below.trans ?_ (Below.mono hb1 (by first | (simp; done) | (simp; omega) | omega)) | with_reducible refine Below.trans ?_ (Below.mono kb0 (by first | (simp; done) | (simp; omega) | omega))))⟩
      · have hn := fun (W : World) => (neq_dg Dg0 Dg0 W).trans (by rw [dEq_self]; rfl : _ = Result.ok (Value.bool false) W)
        have hn2 : ∀ W, (binOp .neq 33 (.agg #[.int .i64 0, .int .i64 0, .int .i64 0, .string ⟨#[]⟩]) (.agg #[.int .i64 0, .int .i64 0, .int .i64 0, .string ⟨#[]⟩])).run Try.prog W = .ok (.bool false) W := hn
        clear hn
        go_wp2_with (fail)
        refine (put_off (none) fr to1 bd _ (fun W' hW' => HTH.out W' (KeptC.below (by (repeat' (first | refine KeptC.cons ?_ ?_ | refine KeptC.consF ?_ ?_ ?_ | refine KeptC.mk0 ?_)); all_goals (first | with_reducible assumption | (go_simp; done) | (simp; omega) | exact (by repeat (first | with_reducible refine Below.setCell ?_ (by first | (simp; done) | (simp; omega) | omega) _ | with_reducible refine Below.alloc ?_ (by first | (simp; done) | (simp; omega) | omega) _ | with_reducible refine Below.drew ?_ | with_reducible refine below_drewN ?_ _ | with_reducible exact Below.refl _ _ | with_reducible refine Below.trans ?_ (Below.mono kb0 (by first | (simp; done) | (simp; omega) | omega)))))) hW'))).mono ?_; rintro e w1 ⟨rfl, hb1⟩
        have K1 : KeptC w [(⟨w.heap.size, 0, none⟩, .int .i64 kd), (⟨w.heap.size, 1, none⟩, .int .i64 nm), (⟨w.heap.size, 2, none⟩, .int .i64 fr), (⟨w.heap.size, 3, none⟩, .int .i64 to1), (⟨w.heap.size, 4, none⟩, .string bd)] [] w1 := KeptC.below (by (repeat' (first | refine KeptC.cons ?_ ?_ | refine KeptC.consF ?_ ?_ ?_ | refine KeptC.mk0 ?_)); all_goals (first | with_reducible assumption | (go_simp; done) | (simp; omega) | exact (by repeat (first | with_reducible refine Below.setCell ?_ (by first | (simp; done) | (simp; omega) | omega) _ | with_reducible refine Below.alloc ?_ (by first | (simp; done) | (simp; omega) | omega) _ | with_reducible refine Below.drew ?_ | with_reducible refine below_drewN ?_ _ | with_reducible exact Below.refl _ _ | with_reducible refine Below.trans ?_ (Below.mono kb0 (by first | (simp; done) | (simp; omega) | omega)))))) hb1
        have L1 := Lib.hid K1
        clear kc0_0 kc0_1 kc0_2 kc0_3 kc0_4 hb1
        simp only [KeptC, List.forall_mem_cons] at K1; obtain ⟨kb1, ⟨kc1_0, kc1_1, kc1_2, kc1_3, kc1_4, _⟩, _⟩ := K1
        have hs1 := kb1.size
        have hz1 : w.heap.size < w1.heap.size := cell_lt kc1_0
        go_wp2_with (fail)
        refine (double_off (none) nm _ (fun W' hW' => HTH.out W' (KeptC.below (by (repeat' (first | refine KeptC.cons ?_ ?_ | refine KeptC.consF ?_ ?_ ?_ | refine KeptC.mk0 ?_)); all_goals (first | with_reducible assumption | (go_simp; done) | (simp; omega) | exact (by repeat (first | with_reducible refine Below.setCell ?_ (by first | (simp; done) | (simp; omega) | omega) _ | with_reducible refine Below.alloc ?_ (by first | (simp; done) | (simp; omega) | omega) _ | with_reducible refine Below.drew ?_ | with_reducible refine below_drewN ?_ _ | with_reducible exact Below.refl _ _ | with_reducible refine Below.trans ?_ (Below.mono kb1 (by first | (simp; done) | (simp; omega) | omega)))))) hW'))).mono ?_; rintro e w2 ⟨rfl, hb2⟩
        have K2 : KeptC w [(⟨w.heap.size, 0, none⟩, .int .i64 kd), (⟨w.heap.size, 1, none⟩, .int .i64 nm), (⟨w.heap.size, 2, none⟩, .int .i64 fr), (⟨w.heap.size, 3, none⟩, .int .i64 to1), (⟨w.heap.size, 4, none⟩, .string bd)] [] w2 := KeptC.below (by (repeat' (first | refine KeptC.cons ?_ ?_ | refine KeptC.consF ?_ ?_ ?_ | refine KeptC.mk0 ?_)); all_goals (first | with_reducible assumption | (go_simp; done) | (simp; omega) | exact (by repeat (first | with_reducible refine Below.setCell ?_ (by first | (simp; done) | (simp; omega) | omega) _ | with_reducible refine Below.alloc ?_ (by first | (simp; done) | (simp; omega) | omega) _ | with_reducible refine Below.drew ?_ | with_reducible refine below_drewN ?_ _ | with_reducible exact Below.refl _ _ | with_reducible refine Below.trans ?_ (Below.mono kb1 (by first | (simp; done) | (simp; omega) | omega)))))) hb2
        have L2 := Lib.hid K2
        clear kc1_0 kc1_1 kc1_2 kc1_3 kc1_4 hb2
        simp only [KeptC, List.forall_mem_cons] at K2; obtain ⟨kb2, ⟨kc2_0, kc2_1, kc2_2, kc2_3, kc2_4, _⟩, _⟩ := K2
        have hs2 := kb2.size
        have hz2 : w.heap.size < w2.heap.size := cell_lt kc2_0
        go_wp2_with (fail)
        refine (take_off0 (none) nm _ (fun W' hW' => HTH.out W' (KeptC.below (by (repeat' (first | refine KeptC.cons ?_ ?_ | refine KeptC.consF ?_ ?_ ?_ | refine KeptC.mk0 ?_)); all_goals (first | with_reducible assumption | (go_simp; done) | (simp; omega) | exact (by repeat (first | with_reducible refine Below.setCell ?_ (by first | (simp; done) | (simp; omega) | omega) _ | with_reducible refine Below.alloc ?_ (by first | (simp; done) | (simp; omega) | omega) _ | with_reducible refine Below.drew ?_ | with_reducible refine below_drewN ?_ _ | with_reducible exact Below.refl _ _ | with_reducible refine Below.trans ?_ (Below.mono kb2 (by first | (simp; done) | (simp; omega) | omega)))))) hW'))).mono ?_; rintro e w3 ⟨rfl, hb3⟩
        have K3 : KeptC w [(⟨w.heap.size, 0, none⟩, .int .i64 kd), (⟨w.heap.size, 1, none⟩, .int .i64 nm), (⟨w.heap.size, 2, none⟩, .int .i64 fr), (⟨w.heap.size, 3, none⟩, .int .i64 to1), (⟨w.heap.size, 4, none⟩, .string bd)] [] w3 := KeptC.below (by (repeat' (first | refine KeptC.cons ?_ ?_ | refine KeptC.consF ?_ ?_ ?_ | refine KeptC.mk0 ?_)); all_goals (first | with_reducible assumption | (go_simp; done) | (simp; omega) | exact (by repeat (first | with_reducible refine Below.setCell ?_ (by first | (simp; done) | (simp; omega) | omega) _ | with_reducible refine Below.alloc ?_ (by first | (simp; done) | (simp; omega) | omega) _ | with_reducible refine Below.drew ?_ | with_reducible refine below_drewN ?_ _ | with_reducible exact Below.refl _ _ | with_reducible refine Below.trans ?_ (Below.mono kb2 (by first | (simp; done) | (simp; omega) | omega)))))) hb3
        have L3 := Lib.hid K3
        clear kc2_0 kc2_1 kc2_2 kc2_3 kc2_4 hb3
        simp only [KeptC, List.forall_mem_cons] at K3; obtain ⟨kb3, ⟨kc3_0, kc3_1, kc3_2, kc3_3, kc3_4, _⟩, _⟩ := K3
        have hs3 := kb3.size
        have hz3 : w.heap.size < w3.heap.size := cell_lt kc3_0
        go_wp2_with (fail)
        refine (between_off (none) fr to1 _ (fun W' hW' => HTH.out W' (KeptC.below (by (repeat' (first | refine KeptC.cons ?_ ?_ | refine KeptC.consF ?_ ?_ ?_ | refine KeptC.mk0 ?_)); all_goals (first | with_reducible assumption | (go_simp; done) | (simp; omega) | exact (by repeat (first | with_reducible refine Below.setCell ?_ (by first | (simp; done) | (simp; omega) | omega) _ | with_reducible refine Below.alloc ?_ (by first | (simp; done) | (simp; omega) | omega) _ | with_reducible refine Below.drew ?_ | with_reducible refine below_drewN ?_ _ | with_reducible exact Below.refl _ _ | with_reducible refine Below.trans ?_ (Below.mono kb3 (by first | (simp; done) | (simp; omega) | omega)))))) hW'))).mono ?_; rintro e w4 ⟨rfl, hb4⟩
        have K4 : KeptC w [(⟨w.heap.size, 0, none⟩, .int .i64 kd), (⟨w.heap.size, 1, none⟩, .int .i64 nm), (⟨w.heap.size, 2, none⟩, .int .i64 fr), (⟨w.heap.size, 3, none⟩, .int .i64 to1), (⟨w.heap.size, 4, none⟩, .string bd)] [] w4 := KeptC.below (by (repeat' (first | refine KeptC.cons ?_ ?_ | refine KeptC.consF ?_ ?_ ?_ | refine KeptC.mk0 ?_)); all_goals (first | with_reducible assumption | (go_simp; done) | (simp; omega) | exact (by repeat (first | with_reducible refine Below.setCell ?_ (by first | (simp; done) | (simp; omega) | omega) _ | with_reducible refine Below.alloc ?_ (by first | (simp; done) | (simp; omega) | omega) _ | with_reducible refine Below.drew ?_ | with_reducible refine below_drewN ?_ _ | with_reducible exact Below.refl _ _ | with_reducible refine Below.trans ?_ (Below.mono kb3 (by first | (simp; done) | (simp; omega) | omega)))))) hb4
        have L4 := Lib.hid K4
        clear kc3_0 kc3_1 kc3_2 kc3_3 kc3_4 hb4
        simp only [KeptC, List.forall_mem_cons] at K4; obtain ⟨kb4, ⟨kc4_0, kc4_1, kc4_2, kc4_3, kc4_4, _⟩, _⟩ := K4
        have hs4 := kb4.size
        have hz4 : w.heap.size < w4.heap.size := cell_lt kc4_0
        go_wp2_with (fail)
        refine (sever_off (none) fr to1 _ (fun W' hW' => HTH.out W' (KeptC.below (by (repeat' (first | refine KeptC.cons ?_ ?_ | refine KeptC.consF ?_ ?_ ?_ | refine KeptC.mk0 ?_)); all_goals (first | with_reducible assumption | (go_simp; done) | (simp; omega) | exact (by repeat (first | with_reducible refine Below.setCell ?_ (by first | (simp; done) | (simp; omega) | omega) _ | with_reducible refine Below.alloc ?_ (by first | (simp; done) | (simp; omega) | omega) _ | with_reducible refine Below.drew ?_ | with_reducible refine below_drewN ?_ _ | with_reducible exact Below.refl _ _ | with_reducible refine Below.trans ?_ (Below.mono kb4 (by first | (simp; done) | (simp; omega) | omega)))))) hW'))).mono ?_; rintro e w5 ⟨rfl, hb5⟩
        have K5 : KeptC w [(⟨w.heap.size, 0, none⟩, .int .i64 kd), (⟨w.heap.size, 1, none⟩, .int .i64 nm), (⟨w.heap.size, 2, none⟩, .int .i64 fr), (⟨w.heap.size, 3, none⟩, .int .i64 to1), (⟨w.heap.size, 4, none⟩, .string bd)] [] w5 := KeptC.below (by (repeat' (first | refine KeptC.cons ?_ ?_ | refine KeptC.consF ?_ ?_ ?_ | refine KeptC.mk0 ?_)); all_goals (first | with_reducible assumption | (go_simp; done) | (simp; omega) | exact (by repeat (first | with_reducible refine Below.setCell ?_ (by first | (simp; done) | (simp; omega) | omega) _ | with_reducible refine Below.alloc ?_ (by first | (simp; done) | (simp; omega) | omega) _ | with_reducible refine Below.drew ?_ | with_reducible refine below_drewN ?_ _ | with_reducible exact Below.refl _ _ | with_reducible refine Below.trans ?_ (Below.mono kb4 (by first | (simp; done) | (simp; omega) | omega)))))) hb5
        have L5 := Lib.hid K5
        clear kc4_0 kc4_1 kc4_2 kc4_3 kc4_4 hb5
        simp only [KeptC, List.forall_mem_cons] at K5; obtain ⟨kb5, ⟨kc5_0, kc5_1, kc5_2, kc5_3, kc5_4, _⟩, _⟩ := K5
        have hs5 := kb5.size
        have hz5 : w.heap.size < w5.heap.size := cell_lt kc5_0
        go_wp2_with (fail)
        refine (mend_off (none) fr to1 _ (fun W' hW' => HTH.out W' (KeptC.below (by (repeat' (first | refine KeptC.cons ?_ ?_ | refine KeptC.consF ?_ ?_ ?_ | refine KeptC.mk0 ?_)); all_goals (first | with_reducible assumption | (go_simp; done) | (simp; omega) | exact (by repeat (first | with_reducible refine Below.setCell ?_ (by first | (simp; done) | (simp; omega) | omega) _ | with_reducible refine Below.alloc ?_ (by first | (simp; done) | (simp; omega) | omega) _ | with_reducible refine Below.drew ?_ | with_reducible refine below_drewN ?_ _ | with_reducible exact Below.refl _ _ | with_reducible refine Below.trans ?_ (Below.mono kb5 (by first | (simp; done) | (simp; omega) | omega)))))) hW'))).mono ?_; rintro e w6 ⟨rfl, hb6⟩
        have K6 : KeptC w [(⟨w.heap.size, 0, none⟩, .int .i64 kd), (⟨w.heap.size, 1, none⟩, .int .i64 nm), (⟨w.heap.size, 2, none⟩, .int .i64 fr), (⟨w.heap.size, 3, none⟩, .int .i64 to1), (⟨w.heap.size, 4, none⟩, .string bd)] [] w6 := KeptC.below (by (repeat' (first | refine KeptC.cons ?_ ?_ | refine KeptC.consF ?_ ?_ ?_ | refine KeptC.mk0 ?_)); all_goals (first | with_reducible assumption | (go_simp; done) | (simp; omega) | exact (by repeat (first | with_reducible refine Below.setCell ?_ (by first | (simp; done) | (simp; omega) | omega) _ | with_reducible refine Below.alloc ?_ (by first | (simp; done) | (simp; omega) | omega) _ | with_reducible refine Below.drew ?_ | with_reducible refine below_drewN ?_ _ | with_reducible exact Below.refl _ _ | with_reducible refine Below.trans ?_ (Below.mono kb5 (by first | (simp; done) | (simp; omega) | omega)))))) hb6
        have L6 := Lib.hid K6
        clear kc5_0 kc5_1 kc5_2 kc5_3 kc5_4 hb6
        simp only [KeptC, List.forall_mem_cons] at K6; obtain ⟨kb6, ⟨kc6_0, kc6_1, kc6_2, kc6_3, kc6_4, _⟩, _⟩ := K6
        have hs6 := kb6.size
        have hz6 : w.heap.size < w6.heap.size := cell_lt kc6_0
        go_wp2_with (fail)
        refine (forget_off (none) to1 _ (fun W' hW' => HTH.out W' (KeptC.below (by (repeat' (first | refine KeptC.cons ?_ ?_ | refine KeptC.consF ?_ ?_ ?_ | refine KeptC.mk0 ?_)); all_goals (first | with_reducible assumption | (go_simp; done) | (simp; omega) | exact (by repeat (first | with_reducible refine Below.setCell ?_ (by first | (simp; done) | (simp; omega) | omega) _ | with_reducible refine Below.alloc ?_ (by first | (simp; done) | (simp; omega) | omega) _ | with_reducible refine Below.drew ?_ | with_reducible refine below_drewN ?_ _ | with_reducible exact Below.refl _ _ | with_reducible refine Below.trans ?_ (Below.mono kb6 (by first | (simp; done) | (simp; omega) | omega)))))) hW'))).mono ?_; rintro e w7 ⟨rfl, hb7⟩
        have K7 : KeptC w [(⟨w.heap.size, 0, none⟩, .int .i64 kd), (⟨w.heap.size, 1, none⟩, .int .i64 nm), (⟨w.heap.size, 2, none⟩, .int .i64 fr), (⟨w.heap.size, 3, none⟩, .int .i64 to1), (⟨w.heap.size, 4, none⟩, .string bd)] [] w7 := KeptC.below (by (repeat' (first | refine KeptC.cons ?_ ?_ | refine KeptC.consF ?_ ?_ ?_ | refine KeptC.mk0 ?_)); all_goals (first | with_reducible assumption | (go_simp; done) | (simp; omega) | exact (by repeat (first | with_reducible refine Below.setCell ?_ (by first | (simp; done) | (simp; omega) | omega) _ | with_reducible refine Below.alloc ?_ (by first | (simp; done) | (simp; omega) | omega) _ | with_reducible refine Below.drew ?_ | with_reducible refine below_drewN ?_ _ | with_reducible exact Below.refl _ _ | with_reducible refine Below.trans ?_ (Below.mono kb6 (by first | (simp; done) | (simp; omega) | omega)))))) hb7
        have L7 := Lib.hid K7
        clear kc6_0 kc6_1 kc6_2 kc6_3 kc6_4 hb7
        simp only [KeptC, List.forall_mem_cons] at K7; obtain ⟨kb7, ⟨kc7_0, kc7_1, kc7_2, kc7_3, kc7_4, _⟩, _⟩ := K7
        have hs7 := kb7.size
        have hz7 : w.heap.size < w7.heap.size := cell_lt kc7_0
        go_wp2_with (fail)
        refine (len_off (none) _ (fun W' hW' => HTH.out W' (KeptC.below (by (repeat' (first | refine KeptC.cons ?_ ?_ | refine KeptC.consF ?_ ?_ ?_ | refine KeptC.mk0 ?_)); all_goals (first | with_reducible assumption | (go_simp; done) | (simp; omega) | exact (by repeat (first | with_reducible refine Below.setCell ?_ (by first | (simp; done) | (simp; omega) | omega) _ | with_reducible refine Below.alloc ?_ (by first | (simp; done) | (simp; omega) | omega) _ | with_reducible refine Below.drew ?_ | with_reducible refine below_drewN ?_ _ | with_reducible exact Below.refl _ _ | with_reducible refine Below.trans ?_ (Below.mono kb7 (by first | (simp; done) | (simp; omega) | omega)))))) hW'))).mono ?_; rintro e w8 ⟨rfl, hb8⟩
        have K8 : KeptC w [(⟨w.heap.size, 0, none⟩, .int .i64 kd), (⟨w.heap.size, 1, none⟩, .int .i64 nm), (⟨w.heap.size, 2, none⟩, .int .i64 fr), (⟨w.heap.size, 3, none⟩, .int .i64 to1), (⟨w.heap.size, 4, none⟩, .string bd)] [] w8 := KeptC.below (by (repeat' (first | refine KeptC.cons ?_ ?_ | refine KeptC.consF ?_ ?_ ?_ | refine KeptC.mk0 ?_)); all_goals (first | with_reducible assumption | (go_simp; done) | (simp; omega) | exact (by repeat (first | with_reducible refine Below.setCell ?_ (by first | (simp; done) | (simp; omega) | omega) _ | with_reducible refine Below.alloc ?_ (by first | (simp; done) | (simp; omega) | omega) _ | with_reducible refine Below.drew ?_ | with_reducible refine below_drewN ?_ _ | with_reducible exact Below.refl _ _ | with_reducible refine Below.trans ?_ (Below.mono kb7 (by first | (simp; done) | (simp; omega) | omega)))))) hb8
        have L8 := Lib.hid K8
        clear kc7_0 kc7_1 kc7_2 kc7_3 kc7_4 hb8
        simp only [KeptC, List.forall_mem_cons] at K8; obtain ⟨kb8, ⟨kc8_0, kc8_1, kc8_2, kc8_3, kc8_4, _⟩, _⟩ := K8
        have hs8 := kb8.size
        have hz8 : w.heap.size < w8.heap.size := cell_lt kc8_0
        go_wp2_with (fail)
        refine (state_off (none) _ (fun W' hW' => HTH.out W' (KeptC.below (by (repeat' (first | refine KeptC.cons ?_ ?_ | refine KeptC.consF ?_ ?_ ?_ | refine KeptC.mk0 ?_)); all_goals (first | with_reducible assumption | (go_simp; done) | (simp; omega) | exact (by repeat (first | with_reducible refine Below.setCell ?_ (by first | (simp; done) | (simp; omega) | omega) _ | with_reducible refine Below.alloc ?_ (by first | (simp; done) | (simp; omega) | omega) _ | with_reducible refine Below.drew ?_ | with_reducible refine below_drewN ?_ _ | with_reducible exact Below.refl _ _ | with_reducible refine Below.trans ?_ (Below.mono kb8 (by first | (simp; done) | (simp; omega) | omega)))))) hW'))).mono ?_; rintro e w9 ⟨rfl, hb9⟩
        have K9 : KeptC w [(⟨w.heap.size, 0, none⟩, .int .i64 kd), (⟨w.heap.size, 1, none⟩, .int .i64 nm), (⟨w.heap.size, 2, none⟩, .int .i64 fr), (⟨w.heap.size, 3, none⟩, .int .i64 to1), (⟨w.heap.size, 4, none⟩, .string bd)] [] w9 := KeptC.below (by (repeat' (first | refine KeptC.cons ?_ ?_ | refine KeptC.consF ?_ ?_ ?_ | refine KeptC.mk0 ?_)); all_goals (first | with_reducible assumption | (go_simp; done) | (simp; omega) | exact (by repeat (first | with_reducible refine Below.setCell ?_ (by first | (simp; done) | (simp; omega) | omega) _ | with_reducible refine Below.alloc ?_ (by first | (simp; done) | (simp; omega) | omega) _ | with_reducible refine Below.drew ?_ | with_reducible refine below_drewN ?_ _ | with_reducible exact Below.refl _ _ | with_reducible refine Below.trans ?_ (Below.mono kb8 (by first | (simp; done) | (simp; omega) | omega)))))) hb9
        have L9 := Lib.hid K9
        clear kc8_0 kc8_1 kc8_2 kc8_3 kc8_4 hb9
        simp only [KeptC, List.forall_mem_cons] at K9; obtain ⟨kb9, ⟨kc9_0, kc9_1, kc9_2, kc9_3, kc9_4, _⟩, _⟩ := K9
        have hs9 := kb9.size
        have hz9 : w.heap.size < w9.heap.size := cell_lt kc9_0
        go_wp2_with (fail)
        refine (rsame_true 0 none none 0 0 0 [] none none 0 0 0 [] _ (rowsE_nil _ _ _) (rowsE_nil _ _ _) (rowsE_nil _ _ _) (rowsE_nil _ _ _) (by omega) (by omega)).mono ?_; rintro e w10 ⟨rfl, hb10⟩
        have K10 : KeptC w [(⟨w.heap.size, 0, none⟩, .int .i64 kd), (⟨w.heap.size, 1, none⟩, .int .i64 nm), (⟨w.heap.size, 2, none⟩, .int .i64 fr), (⟨w.heap.size, 3, none⟩, .int .i64 to1), (⟨w.heap.size, 4, none⟩, .string bd)] [] w10 := KeptC.below (by (repeat' (first | refine KeptC.cons ?_ ?_ | refine KeptC.consF ?_ ?_ ?_ | refine KeptC.mk0 ?_)); all_goals (first | with_reducible assumption | (go_simp; done) | (simp; omega) | exact (by repeat (first | with_reducible refine Below.setCell ?_ (by first | (simp; done) | (simp; omega) | omega) _ | with_reducible refine Below.alloc ?_ (by first | (simp; done) | (simp; omega) | omega) _ | with_reducible refine Below.drew ?_ | with_reducible refine below_drewN ?_ _ | with_reducible exact Below.refl _ _ | with_reducible refine Below.trans ?_ (Below.mono kb9 (by first | (simp; done) | (simp; omega) | omega)))))) hb10
        have L10 := Lib.hid K10
        clear kc9_0 kc9_1 kc9_2 kc9_3 kc9_4 hb10
        simp only [KeptC, List.forall_mem_cons] at K10; obtain ⟨kb10, ⟨kc10_0, kc10_1, kc10_2, kc10_3, kc10_4, _⟩, _⟩ := K10
        have hs10 := kb10.size
        have hz10 : w.heap.size < w10.heap.size := cell_lt kc10_0
        go_wp2
        go_roundw
        case rel => exact ⟨k + 1, by omega, by go_num, L10.out⟩
        case measure => simp [intOf]; omega
  | true =>
    have HTH : Hid (∀ W, KeptC w [(⟨w.heap.size, 0, none⟩, .int .i64 kd), (⟨w.heap.size, 1, none⟩, .int .i64 nm), (⟨w.heap.size, 2, none⟩, .int .i64 fr), (⟨w.heap.size, 3, none⟩, .int .i64 to1), (⟨w.heap.size, 4, none⟩, .string bd), (⟨w.heap.size + 1, 0, none⟩, .bool false)] [] W → Calls Try.prog 23 #[.pointer (some ⟨w.heap.size + 1, 0, none⟩)] W fun e w' => e = .returned (.bool false) ∧ W = w') := Lib.hid fun W hW => there_off _ W (hW.2.1 (⟨w.heap.size + 1, 0, none⟩, .bool false) (by simp))
    go_enter Try.func4, Try.ntmps4
    go_wp2
    go_loopw [6] (fun i w' => ∃ k : Nat, k ≤ 2 ∧ i = .int .i64 k ∧ KeptC w [(⟨w.heap.size, 0, none⟩, .int .i64 kd), (⟨w.heap.size, 1, none⟩, .int .i64 nm), (⟨w.heap.size, 2, none⟩, .int .i64 fr), (⟨w.heap.size, 3, none⟩, .int .i64 to1), (⟨w.heap.size, 4, none⟩, .string bd), (⟨w.heap.size + 1, 0, none⟩, .bool false)] [] w') (fun i _ => 2 - (intOf i).toNat)
    case atStart => exact ⟨0, by omega, rfl, (by (repeat' (first | refine KeptC.cons ?_ ?_ | refine KeptC.consF ?_ ?_ ?_ | refine KeptC.mk0 ?_)); all_goals (first | with_reducible assumption | (go_simp; done) | (simp; omega) | exact (by repeat (first | with_reducible refine Below.setCell ?_ (by first | (simp; done) | (simp; omega) | omega) _ | with_reducible refine Below.alloc ?_ (by first | (simp; done) | (simp; omega) | omega) _ | with_reducible refine Below.drew ?_ | with_reducible refine below_drewN ?_ _ | with_reducible exact Below.refl _ _))))⟩
    case round =>
      obtain ⟨k, hk, rfl, hK⟩ := hrel
      simp only [KeptC, List.forall_mem_cons] at hK; obtain ⟨kb0, ⟨kc0_0, kc0_1, kc0_2, kc0_3, kc0_4, kc0_5, _⟩, _⟩ := hK
      have hs0 := kb0.size
      have hz0 : w.heap.size < wr.heap.size := cell_lt kc0_0
      have hy0 : w.heap.size + 1 < wr.heap.size := cell_lt kc0_5
      by_cases hlt : k < 2
      rotate_left
      · obtain rfl : k = 2 := by omega
        go_wp2_with (fail)
        refine (awake_any _).mono ?_; rintro e w1 ⟨rfl, hb1⟩
        go_wp2
        go_ret
        exact ⟨rfl, (by repeat (first | with_reducible refine Below.setCell ?_ (by first | (simp; done) | (simp; omega) | omega) _ | with_reducible refine Below.alloc ?_ (by first | (simp; done) | (simp; omega) | omega) _ | with_reducible refine Below.drew ?_ | with_reducible refine below_drewN ?_ _ | with_reducible exact Below.refl _ _ | with_reducible refine Below.trans ?_ (Below.mono hb1 (by first | (simp; done) | (simp; omega) | omega)) | with_reducible refine Below.trans ?_ (Below.mono kb0 (by first | (simp; done) | (simp; omega) | omega))))⟩
      · have hn := fun (W : World) => (neq_dg Dg0 Dg0 W).trans (by rw [dEq_self]; rfl : _ = Result.ok (Value.bool false) W)
        have hn2 : ∀ W, (binOp .neq 33 (.agg #[.int .i64 0, .int .i64 0, .int .i64 0, .string ⟨#[]⟩]) (.agg #[.int .i64 0, .int .i64 0, .int .i64 0, .string ⟨#[]⟩])).run Try.prog W = .ok (.bool false) W := hn
        clear hn
        go_wp2_with (fail)
        refine (put_off (some ⟨w.heap.size + 1, 0, none⟩) fr to1 bd _ (fun W' hW' => HTH.out W' (KeptC.below (by (repeat' (first | refine KeptC.cons ?_ ?_ | refine KeptC.consF ?_ ?_ ?_ | refine KeptC.mk0 ?_)); all_goals (first | with_reducible assumption | (go_simp; done) | (simp; omega) | exact (by repeat (first | with_reducible refine Below.setCell ?_ (by first | (simp; done) | (simp; omega) | omega) _ | with_reducible refine Below.alloc ?_ (by first | (simp; done) | (simp; omega) | omega) _ | with_reducible refine Below.drew ?_ | with_reducible refine below_drewN ?_ _ | with_reducible exact Below.refl _ _ | with_reducible refine Below.trans ?_ (Below.mono kb0 (by first | (simp; done) | (simp; omega) | omega)))))) hW'))).mono ?_; rintro e w1 ⟨rfl, hb1⟩
        have K1 : KeptC w [(⟨w.heap.size, 0, none⟩, .int .i64 kd), (⟨w.heap.size, 1, none⟩, .int .i64 nm), (⟨w.heap.size, 2, none⟩, .int .i64 fr), (⟨w.heap.size, 3, none⟩, .int .i64 to1), (⟨w.heap.size, 4, none⟩, .string bd), (⟨w.heap.size + 1, 0, none⟩, .bool false)] [] w1 := KeptC.below (by (repeat' (first | refine KeptC.cons ?_ ?_ | refine KeptC.consF ?_ ?_ ?_ | refine KeptC.mk0 ?_)); all_goals (first | with_reducible assumption | (go_simp; done) | (simp; omega) | exact (by repeat (first | with_reducible refine Below.setCell ?_ (by first | (simp; done) | (simp; omega) | omega) _ | with_reducible refine Below.alloc ?_ (by first | (simp; done) | (simp; omega) | omega) _ | with_reducible refine Below.drew ?_ | with_reducible refine below_drewN ?_ _ | with_reducible exact Below.refl _ _ | with_reducible refine Below.trans ?_ (Below.mono kb0 (by first | (simp; done) | (simp; omega) | omega)))))) hb1
        have L1 := Lib.hid K1
        clear kc0_0 kc0_1 kc0_2 kc0_3 kc0_4 kc0_5 hb1
        simp only [KeptC, List.forall_mem_cons] at K1; obtain ⟨kb1, ⟨kc1_0, kc1_1, kc1_2, kc1_3, kc1_4, kc1_5, _⟩, _⟩ := K1
        have hs1 := kb1.size
        have hz1 : w.heap.size < w1.heap.size := cell_lt kc1_0
        have hy1 : w.heap.size + 1 < w1.heap.size := cell_lt kc1_5
        go_wp2_with (fail)
        refine (double_off (some ⟨w.heap.size + 1, 0, none⟩) nm _ (fun W' hW' => HTH.out W' (KeptC.below (by (repeat' (first | refine KeptC.cons ?_ ?_ | refine KeptC.consF ?_ ?_ ?_ | refine KeptC.mk0 ?_)); all_goals (first | with_reducible assumption | (go_simp; done) | (simp; omega) | exact (by repeat (first | with_reducible refine Below.setCell ?_ (by first | (simp; done) | (simp; omega) | omega) _ | with_reducible refine Below.alloc ?_ (by first | (simp; done) | (simp; omega) | omega) _ | with_reducible refine Below.drew ?_ | with_reducible refine below_drewN ?_ _ | with_reducible exact Below.refl _ _ | with_reducible refine Below.trans ?_ (Below.mono kb1 (by first | (simp; done) | (simp; omega) | omega)))))) hW'))).mono ?_; rintro e w2 ⟨rfl, hb2⟩
        have K2 : KeptC w [(⟨w.heap.size, 0, none⟩, .int .i64 kd), (⟨w.heap.size, 1, none⟩, .int .i64 nm), (⟨w.heap.size, 2, none⟩, .int .i64 fr), (⟨w.heap.size, 3, none⟩, .int .i64 to1), (⟨w.heap.size, 4, none⟩, .string bd), (⟨w.heap.size + 1, 0, none⟩, .bool false)] [] w2 := KeptC.below (by (repeat' (first | refine KeptC.cons ?_ ?_ | refine KeptC.consF ?_ ?_ ?_ | refine KeptC.mk0 ?_)); all_goals (first | with_reducible assumption | (go_simp; done) | (simp; omega) | exact (by repeat (first | with_reducible refine Below.setCell ?_ (by first | (simp; done) | (simp; omega) | omega) _ | with_reducible refine Below.alloc ?_ (by first | (simp; done) | (simp; omega) | omega) _ | with_reducible refine Below.drew ?_ | with_reducible refine below_drewN ?_ _ | with_reducible exact Below.refl _ _ | with_reducible refine Below.trans ?_ (Below.mono kb1 (by first | (simp; done) | (simp; omega) | omega)))))) hb2
        have L2 := Lib.hid K2
        clear kc1_0 kc1_1 kc1_2 kc1_3 kc1_4 kc1_5 hb2
        simp only [KeptC, List.forall_mem_cons] at K2; obtain ⟨kb2, ⟨kc2_0, kc2_1, kc2_2, kc2_3, kc2_4, kc2_5, _⟩, _⟩ := K2
        have hs2 := kb2.size
        have hz2 : w.heap.size < w2.heap.size := cell_lt kc2_0
        have hy2 : w.heap.size + 1 < w2.heap.size := cell_lt kc2_5
        go_wp2_with (fail)
        refine (take_off0 (some ⟨w.heap.size + 1, 0, none⟩) nm _ (fun W' hW' => HTH.out W' (KeptC.below (by (repeat' (first | refine KeptC.cons ?_ ?_ | refine KeptC.consF ?_ ?_ ?_ | refine KeptC.mk0 ?_)); all_goals (first | with_reducible assumption | (go_simp; done) | (simp; omega) | exact (by repeat (first | with_reducible refine Below.setCell ?_ (by first | (simp; done) | (simp; omega) | omega) _ | with_reducible refine Below.alloc ?_ (by first | (simp; done) | (simp; omega) | omega) _ | with_reducible refine Below.drew ?_ | with_reducible refine below_drewN ?_ _ | with_reducible exact Below.refl _ _ | with_reducible refine Below.trans ?_ (Below.mono kb2 (by first | (simp; done) | (simp; omega) | omega)))))) hW'))).mono ?_; rintro e w3 ⟨rfl, hb3⟩
        have K3 : KeptC w [(⟨w.heap.size, 0, none⟩, .int .i64 kd), (⟨w.heap.size, 1, none⟩, .int .i64 nm), (⟨w.heap.size, 2, none⟩, .int .i64 fr), (⟨w.heap.size, 3, none⟩, .int .i64 to1), (⟨w.heap.size, 4, none⟩, .string bd), (⟨w.heap.size + 1, 0, none⟩, .bool false)] [] w3 := KeptC.below (by (repeat' (first | refine KeptC.cons ?_ ?_ | refine KeptC.consF ?_ ?_ ?_ | refine KeptC.mk0 ?_)); all_goals (first | with_reducible assumption | (go_simp; done) | (simp; omega) | exact (by repeat (first | with_reducible refine Below.setCell ?_ (by first | (simp; done) | (simp; omega) | omega) _ | with_reducible refine Below.alloc ?_ (by first | (simp; done) | (simp; omega) | omega) _ | with_reducible refine Below.drew ?_ | with_reducible refine below_drewN ?_ _ | with_reducible exact Below.refl _ _ | with_reducible refine Below.trans ?_ (Below.mono kb2 (by first | (simp; done) | (simp; omega) | omega)))))) hb3
        have L3 := Lib.hid K3
        clear kc2_0 kc2_1 kc2_2 kc2_3 kc2_4 kc2_5 hb3
        simp only [KeptC, List.forall_mem_cons] at K3; obtain ⟨kb3, ⟨kc3_0, kc3_1, kc3_2, kc3_3, kc3_4, kc3_5, _⟩, _⟩ := K3
        have hs3 := kb3.size
        have hz3 : w.heap.size < w3.heap.size := cell_lt kc3_0
        have hy3 : w.heap.size + 1 < w3.heap.size := cell_lt kc3_5
        go_wp2_with (fail)
        refine (between_off (some ⟨w.heap.size + 1, 0, none⟩) fr to1 _ (fun W' hW' => HTH.out W' (KeptC.below (by (repeat' (first | refine KeptC.cons ?_ ?_ | refine KeptC.consF ?_ ?_ ?_ | refine KeptC.mk0 ?_)); all_goals (first | with_reducible assumption | (go_simp; done) | (simp; omega) | exact (by repeat (first | with_reducible refine Below.setCell ?_ (by first | (simp; done) | (simp; omega) | omega) _ | with_reducible refine Below.alloc ?_ (by first | (simp; done) | (simp; omega) | omega) _ | with_reducible refine Below.drew ?_ | with_reducible refine below_drewN ?_ _ | with_reducible exact Below.refl _ _ | with_reducible refine Below.trans ?_ (Below.mono kb3 (by first | (simp; done) | (simp; omega) | omega)))))) hW'))).mono ?_; rintro e w4 ⟨rfl, hb4⟩
        have K4 : KeptC w [(⟨w.heap.size, 0, none⟩, .int .i64 kd), (⟨w.heap.size, 1, none⟩, .int .i64 nm), (⟨w.heap.size, 2, none⟩, .int .i64 fr), (⟨w.heap.size, 3, none⟩, .int .i64 to1), (⟨w.heap.size, 4, none⟩, .string bd), (⟨w.heap.size + 1, 0, none⟩, .bool false)] [] w4 := KeptC.below (by (repeat' (first | refine KeptC.cons ?_ ?_ | refine KeptC.consF ?_ ?_ ?_ | refine KeptC.mk0 ?_)); all_goals (first | with_reducible assumption | (go_simp; done) | (simp; omega) | exact (by repeat (first | with_reducible refine Below.setCell ?_ (by first | (simp; done) | (simp; omega) | omega) _ | with_reducible refine Below.alloc ?_ (by first | (simp; done) | (simp; omega) | omega) _ | with_reducible refine Below.drew ?_ | with_reducible refine below_drewN ?_ _ | with_reducible exact Below.refl _ _ | with_reducible refine Below.trans ?_ (Below.mono kb3 (by first | (simp; done) | (simp; omega) | omega)))))) hb4
        have L4 := Lib.hid K4
        clear kc3_0 kc3_1 kc3_2 kc3_3 kc3_4 kc3_5 hb4
        simp only [KeptC, List.forall_mem_cons] at K4; obtain ⟨kb4, ⟨kc4_0, kc4_1, kc4_2, kc4_3, kc4_4, kc4_5, _⟩, _⟩ := K4
        have hs4 := kb4.size
        have hz4 : w.heap.size < w4.heap.size := cell_lt kc4_0
        have hy4 : w.heap.size + 1 < w4.heap.size := cell_lt kc4_5
        go_wp2_with (fail)
        refine (sever_off (some ⟨w.heap.size + 1, 0, none⟩) fr to1 _ (fun W' hW' => HTH.out W' (KeptC.below (by (repeat' (first | refine KeptC.cons ?_ ?_ | refine KeptC.consF ?_ ?_ ?_ | refine KeptC.mk0 ?_)); all_goals (first | with_reducible assumption | (go_simp; done) | (simp; omega) | exact (by repeat (first | with_reducible refine Below.setCell ?_ (by first | (simp; done) | (simp; omega) | omega) _ | with_reducible refine Below.alloc ?_ (by first | (simp; done) | (simp; omega) | omega) _ | with_reducible refine Below.drew ?_ | with_reducible refine below_drewN ?_ _ | with_reducible exact Below.refl _ _ | with_reducible refine Below.trans ?_ (Below.mono kb4 (by first | (simp; done) | (simp; omega) | omega)))))) hW'))).mono ?_; rintro e w5 ⟨rfl, hb5⟩
        have K5 : KeptC w [(⟨w.heap.size, 0, none⟩, .int .i64 kd), (⟨w.heap.size, 1, none⟩, .int .i64 nm), (⟨w.heap.size, 2, none⟩, .int .i64 fr), (⟨w.heap.size, 3, none⟩, .int .i64 to1), (⟨w.heap.size, 4, none⟩, .string bd), (⟨w.heap.size + 1, 0, none⟩, .bool false)] [] w5 := KeptC.below (by (repeat' (first | refine KeptC.cons ?_ ?_ | refine KeptC.consF ?_ ?_ ?_ | refine KeptC.mk0 ?_)); all_goals (first | with_reducible assumption | (go_simp; done) | (simp; omega) | exact (by repeat (first | with_reducible refine Below.setCell ?_ (by first | (simp; done) | (simp; omega) | omega) _ | with_reducible refine Below.alloc ?_ (by first | (simp; done) | (simp; omega) | omega) _ | with_reducible refine Below.drew ?_ | with_reducible refine below_drewN ?_ _ | with_reducible exact Below.refl _ _ | with_reducible refine Below.trans ?_ (Below.mono kb4 (by first | (simp; done) | (simp; omega) | omega)))))) hb5
        have L5 := Lib.hid K5
        clear kc4_0 kc4_1 kc4_2 kc4_3 kc4_4 kc4_5 hb5
        simp only [KeptC, List.forall_mem_cons] at K5; obtain ⟨kb5, ⟨kc5_0, kc5_1, kc5_2, kc5_3, kc5_4, kc5_5, _⟩, _⟩ := K5
        have hs5 := kb5.size
        have hz5 : w.heap.size < w5.heap.size := cell_lt kc5_0
        have hy5 : w.heap.size + 1 < w5.heap.size := cell_lt kc5_5
        go_wp2_with (fail)
        refine (mend_off (some ⟨w.heap.size + 1, 0, none⟩) fr to1 _ (fun W' hW' => HTH.out W' (KeptC.below (by (repeat' (first | refine KeptC.cons ?_ ?_ | refine KeptC.consF ?_ ?_ ?_ | refine KeptC.mk0 ?_)); all_goals (first | with_reducible assumption | (go_simp; done) | (simp; omega) | exact (by repeat (first | with_reducible refine Below.setCell ?_ (by first | (simp; done) | (simp; omega) | omega) _ | with_reducible refine Below.alloc ?_ (by first | (simp; done) | (simp; omega) | omega) _ | with_reducible refine Below.drew ?_ | with_reducible refine below_drewN ?_ _ | with_reducible exact Below.refl _ _ | with_reducible refine Below.trans ?_ (Below.mono kb5 (by first | (simp; done) | (simp; omega) | omega)))))) hW'))).mono ?_; rintro e w6 ⟨rfl, hb6⟩
        have K6 : KeptC w [(⟨w.heap.size, 0, none⟩, .int .i64 kd), (⟨w.heap.size, 1, none⟩, .int .i64 nm), (⟨w.heap.size, 2, none⟩, .int .i64 fr), (⟨w.heap.size, 3, none⟩, .int .i64 to1), (⟨w.heap.size, 4, none⟩, .string bd), (⟨w.heap.size + 1, 0, none⟩, .bool false)] [] w6 := KeptC.below (by (repeat' (first | refine KeptC.cons ?_ ?_ | refine KeptC.consF ?_ ?_ ?_ | refine KeptC.mk0 ?_)); all_goals (first | with_reducible assumption | (go_simp; done) | (simp; omega) | exact (by repeat (first | with_reducible refine Below.setCell ?_ (by first | (simp; done) | (simp; omega) | omega) _ | with_reducible refine Below.alloc ?_ (by first | (simp; done) | (simp; omega) | omega) _ | with_reducible refine Below.drew ?_ | with_reducible refine below_drewN ?_ _ | with_reducible exact Below.refl _ _ | with_reducible refine Below.trans ?_ (Below.mono kb5 (by first | (simp; done) | (simp; omega) | omega)))))) hb6
        have L6 := Lib.hid K6
        clear kc5_0 kc5_1 kc5_2 kc5_3 kc5_4 kc5_5 hb6
        simp only [KeptC, List.forall_mem_cons] at K6; obtain ⟨kb6, ⟨kc6_0, kc6_1, kc6_2, kc6_3, kc6_4, kc6_5, _⟩, _⟩ := K6
        have hs6 := kb6.size
        have hz6 : w.heap.size < w6.heap.size := cell_lt kc6_0
        have hy6 : w.heap.size + 1 < w6.heap.size := cell_lt kc6_5
        go_wp2_with (fail)
        refine (forget_off (some ⟨w.heap.size + 1, 0, none⟩) to1 _ (fun W' hW' => HTH.out W' (KeptC.below (by (repeat' (first | refine KeptC.cons ?_ ?_ | refine KeptC.consF ?_ ?_ ?_ | refine KeptC.mk0 ?_)); all_goals (first | with_reducible assumption | (go_simp; done) | (simp; omega) | exact (by repeat (first | with_reducible refine Below.setCell ?_ (by first | (simp; done) | (simp; omega) | omega) _ | with_reducible refine Below.alloc ?_ (by first | (simp; done) | (simp; omega) | omega) _ | with_reducible refine Below.drew ?_ | with_reducible refine below_drewN ?_ _ | with_reducible exact Below.refl _ _ | with_reducible refine Below.trans ?_ (Below.mono kb6 (by first | (simp; done) | (simp; omega) | omega)))))) hW'))).mono ?_; rintro e w7 ⟨rfl, hb7⟩
        have K7 : KeptC w [(⟨w.heap.size, 0, none⟩, .int .i64 kd), (⟨w.heap.size, 1, none⟩, .int .i64 nm), (⟨w.heap.size, 2, none⟩, .int .i64 fr), (⟨w.heap.size, 3, none⟩, .int .i64 to1), (⟨w.heap.size, 4, none⟩, .string bd), (⟨w.heap.size + 1, 0, none⟩, .bool false)] [] w7 := KeptC.below (by (repeat' (first | refine KeptC.cons ?_ ?_ | refine KeptC.consF ?_ ?_ ?_ | refine KeptC.mk0 ?_)); all_goals (first | with_reducible assumption | (go_simp; done) | (simp; omega) | exact (by repeat (first | with_reducible refine Below.setCell ?_ (by first | (simp; done) | (simp; omega) | omega) _ | with_reducible refine Below.alloc ?_ (by first | (simp; done) | (simp; omega) | omega) _ | with_reducible refine Below.drew ?_ | with_reducible refine below_drewN ?_ _ | with_reducible exact Below.refl _ _ | with_reducible refine Below.trans ?_ (Below.mono kb6 (by first | (simp; done) | (simp; omega) | omega)))))) hb7
        have L7 := Lib.hid K7
        clear kc6_0 kc6_1 kc6_2 kc6_3 kc6_4 kc6_5 hb7
        simp only [KeptC, List.forall_mem_cons] at K7; obtain ⟨kb7, ⟨kc7_0, kc7_1, kc7_2, kc7_3, kc7_4, kc7_5, _⟩, _⟩ := K7
        have hs7 := kb7.size
        have hz7 : w.heap.size < w7.heap.size := cell_lt kc7_0
        have hy7 : w.heap.size + 1 < w7.heap.size := cell_lt kc7_5
        go_wp2_with (fail)
        refine (len_off (some ⟨w.heap.size + 1, 0, none⟩) _ (fun W' hW' => HTH.out W' (KeptC.below (by (repeat' (first | refine KeptC.cons ?_ ?_ | refine KeptC.consF ?_ ?_ ?_ | refine KeptC.mk0 ?_)); all_goals (first | with_reducible assumption | (go_simp; done) | (simp; omega) | exact (by repeat (first | with_reducible refine Below.setCell ?_ (by first | (simp; done) | (simp; omega) | omega) _ | with_reducible refine Below.alloc ?_ (by first | (simp; done) | (simp; omega) | omega) _ | with_reducible refine Below.drew ?_ | with_reducible refine below_drewN ?_ _ | with_reducible exact Below.refl _ _ | with_reducible refine Below.trans ?_ (Below.mono kb7 (by first | (simp; done) | (simp; omega) | omega)))))) hW'))).mono ?_; rintro e w8 ⟨rfl, hb8⟩
        have K8 : KeptC w [(⟨w.heap.size, 0, none⟩, .int .i64 kd), (⟨w.heap.size, 1, none⟩, .int .i64 nm), (⟨w.heap.size, 2, none⟩, .int .i64 fr), (⟨w.heap.size, 3, none⟩, .int .i64 to1), (⟨w.heap.size, 4, none⟩, .string bd), (⟨w.heap.size + 1, 0, none⟩, .bool false)] [] w8 := KeptC.below (by (repeat' (first | refine KeptC.cons ?_ ?_ | refine KeptC.consF ?_ ?_ ?_ | refine KeptC.mk0 ?_)); all_goals (first | with_reducible assumption | (go_simp; done) | (simp; omega) | exact (by repeat (first | with_reducible refine Below.setCell ?_ (by first | (simp; done) | (simp; omega) | omega) _ | with_reducible refine Below.alloc ?_ (by first | (simp; done) | (simp; omega) | omega) _ | with_reducible refine Below.drew ?_ | with_reducible refine below_drewN ?_ _ | with_reducible exact Below.refl _ _ | with_reducible refine Below.trans ?_ (Below.mono kb7 (by first | (simp; done) | (simp; omega) | omega)))))) hb8
        have L8 := Lib.hid K8
        clear kc7_0 kc7_1 kc7_2 kc7_3 kc7_4 kc7_5 hb8
        simp only [KeptC, List.forall_mem_cons] at K8; obtain ⟨kb8, ⟨kc8_0, kc8_1, kc8_2, kc8_3, kc8_4, kc8_5, _⟩, _⟩ := K8
        have hs8 := kb8.size
        have hz8 : w.heap.size < w8.heap.size := cell_lt kc8_0
        have hy8 : w.heap.size + 1 < w8.heap.size := cell_lt kc8_5
        go_wp2_with (fail)
        refine (state_off (some ⟨w.heap.size + 1, 0, none⟩) _ (fun W' hW' => HTH.out W' (KeptC.below (by (repeat' (first | refine KeptC.cons ?_ ?_ | refine KeptC.consF ?_ ?_ ?_ | refine KeptC.mk0 ?_)); all_goals (first | with_reducible assumption | (go_simp; done) | (simp; omega) | exact (by repeat (first | with_reducible refine Below.setCell ?_ (by first | (simp; done) | (simp; omega) | omega) _ | with_reducible refine Below.alloc ?_ (by first | (simp; done) | (simp; omega) | omega) _ | with_reducible refine Below.drew ?_ | with_reducible refine below_drewN ?_ _ | with_reducible exact Below.refl _ _ | with_reducible refine Below.trans ?_ (Below.mono kb8 (by first | (simp; done) | (simp; omega) | omega)))))) hW'))).mono ?_; rintro e w9 ⟨rfl, hb9⟩
        have K9 : KeptC w [(⟨w.heap.size, 0, none⟩, .int .i64 kd), (⟨w.heap.size, 1, none⟩, .int .i64 nm), (⟨w.heap.size, 2, none⟩, .int .i64 fr), (⟨w.heap.size, 3, none⟩, .int .i64 to1), (⟨w.heap.size, 4, none⟩, .string bd), (⟨w.heap.size + 1, 0, none⟩, .bool false)] [] w9 := KeptC.below (by (repeat' (first | refine KeptC.cons ?_ ?_ | refine KeptC.consF ?_ ?_ ?_ | refine KeptC.mk0 ?_)); all_goals (first | with_reducible assumption | (go_simp; done) | (simp; omega) | exact (by repeat (first | with_reducible refine Below.setCell ?_ (by first | (simp; done) | (simp; omega) | omega) _ | with_reducible refine Below.alloc ?_ (by first | (simp; done) | (simp; omega) | omega) _ | with_reducible refine Below.drew ?_ | with_reducible refine below_drewN ?_ _ | with_reducible exact Below.refl _ _ | with_reducible refine Below.trans ?_ (Below.mono kb8 (by first | (simp; done) | (simp; omega) | omega)))))) hb9
        have L9 := Lib.hid K9
        clear kc8_0 kc8_1 kc8_2 kc8_3 kc8_4 kc8_5 hb9
        simp only [KeptC, List.forall_mem_cons] at K9; obtain ⟨kb9, ⟨kc9_0, kc9_1, kc9_2, kc9_3, kc9_4, kc9_5, _⟩, _⟩ := K9
        have hs9 := kb9.size
        have hz9 : w.heap.size < w9.heap.size := cell_lt kc9_0
        have hy9 : w.heap.size + 1 < w9.heap.size := cell_lt kc9_5
        go_wp2_with (fail)
        refine (rsame_true 0 none none 0 0 0 [] none none 0 0 0 [] _ (rowsE_nil _ _ _) (rowsE_nil _ _ _) (rowsE_nil _ _ _) (rowsE_nil _ _ _) (by omega) (by omega)).mono ?_; rintro e w10 ⟨rfl, hb10⟩
        have K10 : KeptC w [(⟨w.heap.size, 0, none⟩, .int .i64 kd), (⟨w.heap.size, 1, none⟩, .int .i64 nm), (⟨w.heap.size, 2, none⟩, .int .i64 fr), (⟨w.heap.size, 3, none⟩, .int .i64 to1), (⟨w.heap.size, 4, none⟩, .string bd), (⟨w.heap.size + 1, 0, none⟩, .bool false)] [] w10 := KeptC.below (by (repeat' (first | refine KeptC.cons ?_ ?_ | refine KeptC.consF ?_ ?_ ?_ | refine KeptC.mk0 ?_)); all_goals (first | with_reducible assumption | (go_simp; done) | (simp; omega) | exact (by repeat (first | with_reducible refine Below.setCell ?_ (by first | (simp; done) | (simp; omega) | omega) _ | with_reducible refine Below.alloc ?_ (by first | (simp; done) | (simp; omega) | omega) _ | with_reducible refine Below.drew ?_ | with_reducible refine below_drewN ?_ _ | with_reducible exact Below.refl _ _ | with_reducible refine Below.trans ?_ (Below.mono kb9 (by first | (simp; done) | (simp; omega) | omega)))))) hb10
        have L10 := Lib.hid K10
        clear kc9_0 kc9_1 kc9_2 kc9_3 kc9_4 kc9_5 hb10
        simp only [KeptC, List.forall_mem_cons] at K10; obtain ⟨kb10, ⟨kc10_0, kc10_1, kc10_2, kc10_3, kc10_4, kc10_5, _⟩, _⟩ := K10
        have hs10 := kb10.size
        have hz10 : w.heap.size < w10.heap.size := cell_lt kc10_0
        have hy10 : w.heap.size + 1 < w10.heap.size := cell_lt kc10_5
        go_wp2
        go_roundw
        case rel => exact ⟨k + 1, by omega, by go_num, L10.out⟩
        case measure => simp [intOf]; omega
theorem bagNobody_lifted (os : Os) (started : os.Started) (H : Type) (enc : TypeId × Value → H) :
    ReturnsInHanded {} Try.checked os 4 .any (Rows.bagNobodySpec.pre6 enc Try.prog Try.f4 Rows.bagNobodyRow.domain false) (Rows.bagNobodySpec.post enc Try.prog Try.f4 false true false false) := by
  refine returnsInHanded_of_change_sized (C := Try.checked) own started (by kernel_rfl) Try.func4
    (ChangeSpec.witness6 (enc := enc) (C := Try.checked) false ⟨#[], #[.bool false, .agg #[.int .i64 0, .int .i64 0, .int .i64 0, .int .i64 0, .string ⟨#[]⟩]], []⟩ 8 (by kernel_rfl) (by kernel_rfl) (by kernel_rfl) (by kernel_rfl)) ?_
  intro W base args ds gs before hval hW _ hsz _
  have hW' := hW
  obtain ⟨p, q, hA, hV, rfl, hfz, hnd⟩ := hW
  obtain ⟨rfl, rfl⟩ := trodVars_none hV
  rw [Try.params4] at hA hval
  obtain ⟨v0, vs0, d0, ds0, p0, q0, hargs, rfl, rfl, h0, r0⟩ := trodAll_cons hA
  obtain ⟨v1, vs1, d1, ds1, p1, q1, rfl, rfl, rfl, h1, r1⟩ := trodAll_cons r0
  obtain ⟨rfl, rfl, rfl⟩ := trodAll_nil r1
  obtain rfl : args = #[v0, v1] := by cases args; simp_all
  obtain ⟨pl, rfl, _, _⟩ := open_bool Try.underlying4 (hval 0 _ v0 rfl rfl) h0
  obtain ⟨y, rfl, _⟩ := open_act (hval 1 _ v1 rfl rfl) h1
  refine (bagNobody_any pl y.kind y.num y.frm y.dst y.body W).mono fun e W' ⟨he, hg⟩ => ?_
  subst he
  exact ⟨_, rfl, law_post laidOut rfl (by kernel_rfl) rfl Try.underlying4 rfl hW' hg⟩

theorem bagNobody_holds : Rows.BagNobodySaid :=
  OpenClaim.holds_of_wide 4 Try.f4 rfl rfl rfl rfl rfl rfl rfl ⟨rfl, rfl, rfl, rfl, rfl⟩ rfl rfl rfl rfl rfl (by kernel_rfl) Try.func4 (by kernel_rfl)
    (of_decide_eq_true (by kernel_rfl)) (by unfold Func.isWrapper; first | (rw [if_pos (by decide +kernel)]; kernel_rfl) | (rw [if_neg (by decide +kernel)]; exact ⟨rfl, rfl⟩))
    (fun os started H enc _ => bagNobody_lifted os started H enc)

end Go.Proofs.Ytdaobbffhfbceaa
