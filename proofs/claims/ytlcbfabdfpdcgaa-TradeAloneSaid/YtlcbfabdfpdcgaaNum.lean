/- The functions of layer 1 (num) and of its reference over numbers and wide numbers: what each call computes, for every argument. -/
import Derived.Test.YtlcbfabdfpdcgaaRows
import Derived.WalkKit
import Derived.WalkSpells
import Derived.WalkLawsBesides
import Derived.Deep.QuietTactic
import Derived.BigQuiet
import Derived.Lib.Hide
import Derived.Lib.Mul64
import Derived.Shelf.Spec.BitsCarry
import Derived.Laws.Bits64b
import Derived.Test.YtlcbfabdfpdcgaaReg
namespace Go.Proofs.Ytlcbfabdfpdcgaa
open Go.RowKit
/-- What comes of a reckoning: the number and the error's number. -/
def chk (a b x : Int) : Int × Int := if flowsB a && flowsB b && flowsB x then (x, 0) else (0, 10)
theorem mul_bd {a b : Int} (a1 : -2147483647 ≤ a) (a2 : a ≤ 2147483647) (b1 : -2147483647 ≤ b) (b2 : b ≤ 2147483647) : -4611686014132420609 ≤ a * b ∧ a * b ≤ 4611686014132420609 := by
  have h : (a * b).natAbs ≤ 2147483647 * 2147483647 := by rw [Int.natAbs_mul]; exact Nat.mul_le_mul (by omega) (by omega)
  omega
theorem half_bd {a b : Int} (a1 : -2147483647 ≤ a) (a2 : a ≤ 2147483647) (b1 : -2147483647 ≤ b) (b2 : b ≤ 2147483647) : -2147483647 ≤ (a - b).tdiv 2 ∧ (a - b).tdiv 2 ≤ 2147483647 := by
  rw [Int.tdiv_eq_ediv]
  have : Int.sign 2 = 1 := rfl
  split <;> omega
set_option maxHeartbeats 1000000 in
theorem nfits_any (a : Int) (w : World) :
    Calls Try.prog 47 #[.int .i64 a] w fun e w' => e = .returned (.bool (flowsB a)) ∧ w = w' := by
  go_enter Try.func47, Try.ntmps47
  go_wp2
  all_goals go_ret
  all_goals exact ⟨by simp [flowsB, *] <;> omega, rfl⟩
set_option maxHeartbeats 1000000 in
theorem nrfits_any (a : Int) (w : World) :
    Calls Try.prog 27 #[.int .i64 a] w fun e w' => e = .returned (.bool (flowsB a)) ∧ w = w' := by
  go_enter Try.func27, Try.ntmps27
  go_wp2
  all_goals go_ret
  all_goals exact ⟨by simp [flowsB, *] <;> omega, rfl⟩
def addN (a b : Int) : Int × Int := chk a b (a + b)
def subN (a b : Int) : Int × Int := chk a b (a - b)
set_option maxHeartbeats 1000000 in
theorem nsubdo_any (a b : Int) (w : World) (ha : flowsB a = true) (hb : flowsB b = true) :
    Calls Try.prog 38 #[.int .i64 a, .int .i64 b] w fun e w' => e = .returned (.int .i64 (a - b)) ∧ w = w' := by
  obtain ⟨a1, a2⟩ := flowsB_def.1 ha; obtain ⟨b1, b2⟩ := flowsB_def.1 hb
  go_enter Try.func38, Try.ntmps38
  go_wp2
  go_ret
  exact ⟨by first | trivial | rfl, rfl⟩
set_option maxHeartbeats 1000000 in
theorem nchksub_any (a b : Int) (w : World) :
    Calls Try.prog 33 #[.int .i64 a, .int .i64 b, .func (.func 38) #[] #[]] w fun e w' => e = .returned (.tuple #[.int .i64 (subN a b).1, .int .i64 (subN a b).2]) ∧ w = w' := by
  cases ha : flowsB a with
  | false =>
    go_enter Try.func33, Try.ntmps33
    go_wp2_with (go_at_call 47; refine (nfits_any _ _).mono ?_; rw [ha]; rintro e w' ⟨rfl, rfl⟩)
    go_ret2
    exact ⟨by simp [subN, chk, ha], rfl⟩
  | true =>
   cases hb : flowsB b with
   | false =>
    go_enter Try.func33, Try.ntmps33
    go_wp2_with (go_at_call 47; first | ((with_reducible refine (nfits_any a _).mono ?_); rw [ha]; rintro e w' ⟨rfl, rfl⟩) | ((with_reducible refine (nfits_any b _).mono ?_); rw [hb]; rintro e w' ⟨rfl, rfl⟩))
    go_ret2
    exact ⟨by simp [subN, chk, hb], rfl⟩
   | true =>
    cases hx : flowsB (a - b) with
    | false =>
      go_enter Try.func33, Try.ntmps33
      go_wp2_with (first | (go_at_call 47; first | ((with_reducible refine (nfits_any a _).mono ?_); rw [ha]; rintro e w' ⟨rfl, rfl⟩) | ((with_reducible refine (nfits_any b _).mono ?_); rw [hb]; rintro e w' ⟨rfl, rfl⟩) | ((with_reducible refine (nfits_any _ _).mono ?_); rw [hx]; rintro e w' ⟨rfl, rfl⟩)) | ((refine (nsubdo_any a b _ ha hb).mono ?_); rintro e w' ⟨rfl, rfl⟩))
      go_ret2
      exact ⟨by simp [subN, chk, hx], rfl⟩
    | true =>
      go_enter Try.func33, Try.ntmps33
      go_wp2_with (first | (go_at_call 47; first | ((with_reducible refine (nfits_any a _).mono ?_); rw [ha]; rintro e w' ⟨rfl, rfl⟩) | ((with_reducible refine (nfits_any b _).mono ?_); rw [hb]; rintro e w' ⟨rfl, rfl⟩) | ((with_reducible refine (nfits_any _ _).mono ?_); rw [hx]; rintro e w' ⟨rfl, rfl⟩)) | ((refine (nsubdo_any a b _ ha hb).mono ?_); rintro e w' ⟨rfl, rfl⟩))
      go_ret2
      exact ⟨by simp [subN, chk, ha, hb, hx], rfl⟩
set_option maxHeartbeats 1000000 in
theorem nsub_any (a b : Int) (w : World) :
    Calls Try.prog 24 #[.int .i64 a, .int .i64 b] w fun e w' => e = .returned (.tuple #[.int .i64 (subN a b).1, .int .i64 (subN a b).2]) ∧ w = w' := by
  go_enter Try.func24, Try.ntmps24
  go_wp2_with (refine (nchksub_any a b _).mono ?_; rintro e w' ⟨rfl, rfl⟩)
  go_ret2
  exact ⟨rfl, rfl⟩
def mulN (a b : Int) : Int × Int := chk a b (a * b)
def halfN (a b : Int) : Int × Int := chk a b ((a - b).tdiv 2)
set_option maxHeartbeats 1000000 in
theorem nhalfdo_any (a b : Int) (w : World) (ha : flowsB a = true) (hb : flowsB b = true) :
    Calls Try.prog 34 #[.int .i64 a, .int .i64 b] w fun e w' => e = .returned (.int .i64 ((a - b).tdiv 2)) ∧ w = w' := by
  obtain ⟨a1, a2⟩ := flowsB_def.1 ha; obtain ⟨b1, b2⟩ := flowsB_def.1 hb
  go_enter Try.func34, Try.ntmps34
  go_wp2
  go_ret
  exact ⟨by first | trivial | rfl, rfl⟩
set_option maxHeartbeats 1000000 in
theorem nchkhalf_any (a b : Int) (w : World) :
    Calls Try.prog 33 #[.int .i64 a, .int .i64 b, .func (.func 34) #[] #[]] w fun e w' => e = .returned (.tuple #[.int .i64 (halfN a b).1, .int .i64 (halfN a b).2]) ∧ w = w' := by
  cases ha : flowsB a with
  | false =>
    go_enter Try.func33, Try.ntmps33
    go_wp2_with (go_at_call 47; refine (nfits_any _ _).mono ?_; rw [ha]; rintro e w' ⟨rfl, rfl⟩)
    go_ret2
    exact ⟨by simp [halfN, chk, ha], rfl⟩
  | true =>
   cases hb : flowsB b with
   | false =>
    go_enter Try.func33, Try.ntmps33
    go_wp2_with (go_at_call 47; first | ((with_reducible refine (nfits_any a _).mono ?_); rw [ha]; rintro e w' ⟨rfl, rfl⟩) | ((with_reducible refine (nfits_any b _).mono ?_); rw [hb]; rintro e w' ⟨rfl, rfl⟩))
    go_ret2
    exact ⟨by simp [halfN, chk, hb], rfl⟩
   | true =>
    cases hx : flowsB ((a - b).tdiv 2) with
    | false =>
      go_enter Try.func33, Try.ntmps33
      go_wp2_with (first | (go_at_call 47; first | ((with_reducible refine (nfits_any a _).mono ?_); rw [ha]; rintro e w' ⟨rfl, rfl⟩) | ((with_reducible refine (nfits_any b _).mono ?_); rw [hb]; rintro e w' ⟨rfl, rfl⟩) | ((with_reducible refine (nfits_any _ _).mono ?_); rw [hx]; rintro e w' ⟨rfl, rfl⟩)) | ((refine (nhalfdo_any a b _ ha hb).mono ?_); rintro e w' ⟨rfl, rfl⟩))
      go_ret2
      exact ⟨by simp [halfN, chk, hx], rfl⟩
    | true =>
      go_enter Try.func33, Try.ntmps33
      go_wp2_with (first | (go_at_call 47; first | ((with_reducible refine (nfits_any a _).mono ?_); rw [ha]; rintro e w' ⟨rfl, rfl⟩) | ((with_reducible refine (nfits_any b _).mono ?_); rw [hb]; rintro e w' ⟨rfl, rfl⟩) | ((with_reducible refine (nfits_any _ _).mono ?_); rw [hx]; rintro e w' ⟨rfl, rfl⟩)) | ((refine (nhalfdo_any a b _ ha hb).mono ?_); rintro e w' ⟨rfl, rfl⟩))
      go_ret2
      exact ⟨by simp [halfN, chk, ha, hb, hx], rfl⟩
set_option maxHeartbeats 1000000 in
theorem nhalf_any (a b : Int) (w : World) :
    Calls Try.prog 19 #[.int .i64 a, .int .i64 b] w fun e w' => e = .returned (.tuple #[.int .i64 (halfN a b).1, .int .i64 (halfN a b).2]) ∧ w = w' := by
  go_enter Try.func19, Try.ntmps19
  go_wp2_with (refine (nchkhalf_any a b _).mono ?_; rintro e w' ⟨rfl, rfl⟩)
  go_ret2
  exact ⟨rfl, rfl⟩

theorem ret_u64 {a b : Int} (h : a = b) : Ending.returned (.int .u64 a) = .returned (.int .u64 b) := by rw [h]
theorem ret_i64 {a b : Int} (h : a = b) : Ending.returned (.int .i64 a) = .returned (.int .i64 b) := by rw [h]
/-- A wide number: its two words. -/
structure W where
  hi : Int
  lo : Int
deriving DecidableEq
def Word (x : Int) : Prop := 0 ≤ x ∧ x < 18446744073709551616
def W.ok (a : W) : Prop := Word a.hi ∧ Word a.lo
theorem word_mod (x : Int) : Word (x % 18446744073709551616) := ⟨by omega, by omega⟩
/-- The carry. -/
def addH (a b : W) : Int := a.hi + b.hi + (a.lo + b.lo) / 18446744073709551616
def addW (a b : W) : W := ⟨addH a b % 18446744073709551616, (a.lo + b.lo) % 18446744073709551616⟩
def okW (a b : W) : Bool := decide (addH a b < 18446744073709551616)
def zeroW : W := ⟨0, 0⟩
def plusW (a b : W) : W × Bool := if okW a b then (addW a b, true) else (zeroW, false)
def lessW (a b : W) : Bool := decide (a.hi < b.hi) || decide (a.hi = b.hi) && decide (a.lo < b.lo)
def bor (x y : Int) : Int := if x < y then 1 else 0
def dropW (a b : W) : W × Bool := if lessW a b then (zeroW, false) else (⟨(a.hi - b.hi - bor a.lo b.lo) % 18446744073709551616, (a.lo - b.lo) % 18446744073709551616⟩, true)
theorem addW_ok (a b : W) : (addW a b).ok := ⟨word_mod _, word_mod _⟩
theorem zeroW_ok : zeroW.ok := ⟨⟨by decide, by decide⟩, ⟨by decide, by decide⟩⟩

theorem add64 (x y c : Int) (hx : 0 ≤ x) (hy : 0 ≤ y) (hc0 : 0 ≤ c) (hc : c ≤ 1) (w : World) : (callFunc 48 #[.int .u64 x, .int .u64 y, .int .u64 c]).run Try.prog w =
    .ok (.value (.tuple #[.int .u64 ((x + y + c) % 18446744073709551616), .int .u64 ((x + y + c) / 18446744073709551616)])) w := by
  rw [run_callFunc_extern Try.func48 (by kernel_rfl) (by kernel_rfl) (by kernel_rfl) (e := add64Entry) (by kernel_rfl), run_add64 x y c hx hy hc0 hc]
  rfl
theorem add64_0 (x y : Int) (hx : 0 ≤ x) (hy : 0 ≤ y) (w : World) : (callFunc 48 #[.int .u64 x, .int .u64 y, .int .u64 0]).run Try.prog w =
    .ok (.value (.tuple #[.int .u64 ((x + y) % 18446744073709551616), .int .u64 ((x + y) / 18446744073709551616)])) w := by
  simpa using add64 x y 0 hx hy (Int.le_refl 0) (by decide) w
theorem sub64 (x y b : Int) (hx : 0 ≤ x) (hy : 0 ≤ y) (hy' : y < 18446744073709551616) (hb0 : 0 ≤ b) (hb : b ≤ 1) (w : World) : (callFunc 41 #[.int .u64 x, .int .u64 y, .int .u64 b]).run Try.prog w =
    .ok (.value (.tuple #[.int .u64 ((x - y - b) % 18446744073709551616), .int .u64 (bor x (y + b))])) w := by
  obtain ⟨x, rfl⟩ := Int.eq_ofNat_of_zero_le hx
  obtain ⟨y, rfl⟩ := Int.eq_ofNat_of_zero_le hy
  obtain ⟨b, rfl⟩ := Int.eq_ofNat_of_zero_le hb0
  have e1 : (((x + 18446744073709551616 - y - b) % 18446744073709551616 : Nat) : Int) = ((x : Int) - y - b) % 18446744073709551616 := by omega
  have e2 : ((if x < y + b then 1 else 0 : Nat) : Int) = bor (x : Int) (y + b) := by unfold bor; split <;> split <;> omega
  rw [← e1, ← e2]
  rw [run_callFunc_extern Try.func41 (by kernel_rfl) (by kernel_rfl) (by kernel_rfl) (e := sub64Entry) (by kernel_rfl), run_sub64 x y b (by omega)]
  rfl
theorem sub64_0 (x y : Int) (hx : 0 ≤ x) (hy : 0 ≤ y) (hy' : y < 18446744073709551616) (w : World) : (callFunc 41 #[.int .u64 x, .int .u64 y, .int .u64 0]).run Try.prog w =
    .ok (.value (.tuple #[.int .u64 ((x - y) % 18446744073709551616), .int .u64 (bor x y)])) w := by
  simpa using sub64 x y 0 hx hy hy' (Int.le_refl 0) (by decide) w
set_option maxHeartbeats 1000000 in
theorem wadd_any (u1 v1 u2 v2 : Int) (w : World) (h1 : Word u1) (h2' : Word v1) (h3 : Word u2) (h4 : Word v2) :
    Calls Try.prog 43 #[.agg #[.int .u64 u1, .int .u64 v1], .agg #[.int .u64 u2, .int .u64 v2]] w fun e w' => e = .returned (.tuple #[.agg #[.int .u64 (addW ⟨u1, v1⟩ ⟨u2, v2⟩).hi, .int .u64 (addW ⟨u1, v1⟩ ⟨u2, v2⟩).lo], .bool (okW ⟨u1, v1⟩ ⟨u2, v2⟩)]) ∧ Below w.heap.size w w' := by
  obtain ⟨a1, a2⟩ := h1; obtain ⟨b1, b2⟩ := h2'; obtain ⟨c1, c2⟩ := h3; obtain ⟨d1, d2⟩ := h4
  have k0 : 0 ≤ (v1 + v2) / 18446744073709551616 := by omega
  have k1 : (v1 + v2) / 18446744073709551616 ≤ 1 := by omega
  go_enter Try.func43, Try.ntmps43
  go_wp2_with (first | simp only [add64_0 v1 v2 b1 d1] | simp only [add64 u1 u2 _ a1 c1 k0 k1])
  refine bodyPost_ret (v := .tuple #[.agg #[.int .u64 (addW ⟨u1, v1⟩ ⟨u2, v2⟩).hi, .int .u64 (addW ⟨u1, v1⟩ ⟨u2, v2⟩).lo], .bool (okW ⟨u1, v1⟩ ⟨u2, v2⟩)]) ?_ rfl ⟨rfl, (by repeat (first | with_reducible refine Below.setCell ?_ (by first | (simp; done) | (simp; omega) | omega) _ | with_reducible refine Below.alloc ?_ (by first | (simp; done) | (simp; omega) | omega) _ | with_reducible refine Below.drew ?_ | with_reducible exact Below.refl _ _))⟩
  have e1 : ((u1 + u2 + (v1 + v2) / 18446744073709551616) / 18446744073709551616 == 0) = okW ⟨u1, v1⟩ ⟨u2, v2⟩ := by unfold okW addH; rw [Bool.eq_iff_iff]; simp; omega
  simp [results, Try.results43, go_sem, addW, addH] <;> simpa using e1
set_option maxHeartbeats 1000000 in
theorem wless_any (u1 v1 u2 v2 : Int) (w : World) :
    Calls Try.prog 40 #[.agg #[.int .u64 u1, .int .u64 v1], .agg #[.int .u64 u2, .int .u64 v2]] w fun e w' => e = .returned (.bool (lessW ⟨u1, v1⟩ ⟨u2, v2⟩)) ∧ Below w.heap.size w w' := by
  go_enter Try.func40, Try.ntmps40
  go_wp2
  all_goals go_ret
  all_goals exact ⟨by simp_all [lessW] <;> omega, (by repeat (first | with_reducible refine Below.setCell ?_ (by first | (simp; done) | (simp; omega) | omega) _ | with_reducible refine Below.alloc ?_ (by first | (simp; done) | (simp; omega) | omega) _ | with_reducible refine Below.drew ?_ | with_reducible exact Below.refl _ _))⟩
set_option maxHeartbeats 1000000 in
theorem wrless_any (u1 v1 u2 v2 : Int) (w : World) :
    Calls Try.prog 18 #[.agg #[.int .u64 u1, .int .u64 v1], .agg #[.int .u64 u2, .int .u64 v2]] w fun e w' => e = .returned (.bool (lessW ⟨u1, v1⟩ ⟨u2, v2⟩)) ∧ Below w.heap.size w w' := by
  go_enter Try.func18, Try.ntmps18
  go_wp2
  all_goals go_ret
  all_goals exact ⟨by simp_all [lessW] <;> omega, (by repeat (first | with_reducible refine Below.setCell ?_ (by first | (simp; done) | (simp; omega) | omega) _ | with_reducible refine Below.alloc ?_ (by first | (simp; done) | (simp; omega) | omega) _ | with_reducible refine Below.drew ?_ | with_reducible exact Below.refl _ _))⟩
set_option maxHeartbeats 1000000 in
theorem wrsum_any (u1 v1 u2 v2 : Int) (w : World) (h1 : Word u1) (h2' : Word v1) (h3 : Word u2) (h4 : Word v2) :
    Calls Try.prog 44 #[.agg #[.int .u64 u1, .int .u64 v1], .agg #[.int .u64 u2, .int .u64 v2]] w fun e w' => e = .returned (.agg #[.int .u64 (addW ⟨u1, v1⟩ ⟨u2, v2⟩).hi, .int .u64 (addW ⟨u1, v1⟩ ⟨u2, v2⟩).lo]) ∧ Below w.heap.size w w' := by
  obtain ⟨a1, a2⟩ := h1; obtain ⟨b1, b2⟩ := h2'; obtain ⟨c1, c2⟩ := h3; obtain ⟨d1, d2⟩ := h4
  go_enter Try.func44, Try.ntmps44
  go_wp2
  all_goals refine bodyPost_ret (v := .agg #[.int .u64 (addW ⟨u1, v1⟩ ⟨u2, v2⟩).hi, .int .u64 (addW ⟨u1, v1⟩ ⟨u2, v2⟩).lo]) ?_ rfl ⟨rfl, (by repeat (first | with_reducible refine Below.setCell ?_ (by first | (simp; done) | (simp; omega) | omega) _ | with_reducible refine Below.alloc ?_ (by first | (simp; done) | (simp; omega) | omega) _ | with_reducible refine Below.drew ?_ | with_reducible exact Below.refl _ _))⟩
  all_goals simp only [IntKind.wrap_u64] at *
  all_goals simp [results, Try.results44, go_sem, addW, addH, IntKind.wrap_u64]
  all_goals omega
theorem bor_bd (x y : Int) : 0 ≤ bor x y ∧ bor x y ≤ 1 := by unfold bor; split <;> omega
theorem less_sum {u1 v1 u2 v2 : Int} (h1 : Word u1) (h2' : Word v1) (h3 : Word u2) (h4 : Word v2) : lessW ⟨(addW ⟨u1, v1⟩ ⟨u2, v2⟩).hi, (addW ⟨u1, v1⟩ ⟨u2, v2⟩).lo⟩ ⟨u1, v1⟩ = !okW ⟨u1, v1⟩ ⟨u2, v2⟩ := by
  obtain ⟨a1, a2⟩ := h1; obtain ⟨b1, b2⟩ := h2'; obtain ⟨c1, c2⟩ := h3; obtain ⟨d1, d2⟩ := h4
  rw [Bool.eq_iff_iff]
  simp only [lessW, okW, Bool.or_eq_true, Bool.and_eq_true, decide_eq_true_eq, Bool.not_eq_true', decide_eq_false_iff_not]
  simp only [addW, addH]
  omega
set_option maxHeartbeats 1000000 in
theorem wrplus_any (u1 v1 u2 v2 : Int) (w : World) (h1 : Word u1) (h2' : Word v1) (h3 : Word u2) (h4 : Word v2) :
    Calls Try.prog 49 #[.agg #[.int .u64 u1, .int .u64 v1], .agg #[.int .u64 u2, .int .u64 v2]] w fun e w' => e = .returned (.tuple #[.agg #[.int .u64 ((plusW ⟨u1, v1⟩ ⟨u2, v2⟩).1).hi, .int .u64 ((plusW ⟨u1, v1⟩ ⟨u2, v2⟩).1).lo], .bool (plusW ⟨u1, v1⟩ ⟨u2, v2⟩).2]) ∧ Below w.heap.size w w' := by
  have c1 := fun w => wrsum_any u1 v1 u2 v2 w h1 h2' h3 h4
  have c2 := wrless_any (addW ⟨u1, v1⟩ ⟨u2, v2⟩).hi (addW ⟨u1, v1⟩ ⟨u2, v2⟩).lo u1 v1
  have hk : lessW ⟨(addW ⟨u1, v1⟩ ⟨u2, v2⟩).hi, (addW ⟨u1, v1⟩ ⟨u2, v2⟩).lo⟩ ⟨u1, v1⟩ = !okW ⟨u1, v1⟩ ⟨u2, v2⟩ := less_sum h1 h2' h3 h4
  rw [hk] at c2
  clear hk
  unfold plusW
  generalize addW ⟨u1, v1⟩ ⟨u2, v2⟩ = s at c1 c2
  obtain ⟨x, y⟩ := s
  cases hk : okW ⟨u1, v1⟩ ⟨u2, v2⟩ with
  | false =>
    rw [hk] at c2
    have C1 := Lib.hid c1
    have C2 := Lib.hid c2
    clear c1 c2 hk
    go_enter Try.func49, Try.ntmps49
    go_wp2_with (fail)
    refine (C1.out _).mono ?_; rintro e w1 ⟨rfl, hb1⟩; obtain ⟨hc1, hf1⟩ := bcell hb1; have hz1 := hb1.size; (try simp at hz1); have hz1_0 : w.heap.size < w1.heap.size := (by omega); have hz1_1 : w.heap.size + 1 < w1.heap.size := (by omega); have hz1_2 : w.heap.size + 1 + 1 < w1.heap.size := (by omega)
    go_wp2_with (fail)
    refine (C2.out _).mono ?_; rintro e w2 ⟨rfl, hb2⟩; obtain ⟨hc2, hf2⟩ := bcell hb2; have hz2 := hb2.size; (try simp at hz2); have hz2_0 : w.heap.size < w2.heap.size := (by omega); have hz2_1 : w.heap.size + 1 < w2.heap.size := (by omega); have hz2_2 : w.heap.size + 1 + 1 < w2.heap.size := (by omega); have hz2_3 : w1.heap.size < w2.heap.size := (by omega)
    go_wp2
    refine bodyPost_ret (v := .tuple #[.agg #[.int .u64 0, .int .u64 0], .bool false]) (by simp [results, Try.results49, go_sem, *]) rfl ⟨by simp [zeroW], (by repeat (first | with_reducible refine Below.setCell ?_ (by first | (simp; done) | (simp; omega) | omega) _ | with_reducible refine Below.alloc ?_ (by first | (simp; done) | (simp; omega) | omega) _ | with_reducible refine Below.drew ?_ | with_reducible exact Below.refl _ _ | with_reducible refine Below.trans ?_ (Below.mono hb1 (by first | (simp; done) | (simp; omega) | omega)) | with_reducible refine Below.trans ?_ (Below.mono hb2 (by first | (simp; done) | (simp; omega) | omega))))⟩
  | true =>
    rw [hk] at c2
    have C1 := Lib.hid c1
    have C2 := Lib.hid c2
    clear c1 c2 hk
    go_enter Try.func49, Try.ntmps49
    go_wp2_with (fail)
    refine (C1.out _).mono ?_; rintro e w1 ⟨rfl, hb1⟩; obtain ⟨hc1, hf1⟩ := bcell hb1; have hz1 := hb1.size; (try simp at hz1); have hz1_0 : w.heap.size < w1.heap.size := (by omega); have hz1_1 : w.heap.size + 1 < w1.heap.size := (by omega); have hz1_2 : w.heap.size + 1 + 1 < w1.heap.size := (by omega)
    go_wp2_with (fail)
    refine (C2.out _).mono ?_; rintro e w2 ⟨rfl, hb2⟩; obtain ⟨hc2, hf2⟩ := bcell hb2; have hz2 := hb2.size; (try simp at hz2); have hz2_0 : w.heap.size < w2.heap.size := (by omega); have hz2_1 : w.heap.size + 1 < w2.heap.size := (by omega); have hz2_2 : w.heap.size + 1 + 1 < w2.heap.size := (by omega); have hz2_3 : w1.heap.size < w2.heap.size := (by omega)
    go_wp2
    refine bodyPost_ret (v := .tuple #[.agg #[.int .u64 x, .int .u64 y], .bool true]) (by simp [results, Try.results49, go_sem, *]) rfl ⟨by simp [zeroW], (by repeat (first | with_reducible refine Below.setCell ?_ (by first | (simp; done) | (simp; omega) | omega) _ | with_reducible refine Below.alloc ?_ (by first | (simp; done) | (simp; omega) | omega) _ | with_reducible refine Below.drew ?_ | with_reducible exact Below.refl _ _ | with_reducible refine Below.trans ?_ (Below.mono hb1 (by first | (simp; done) | (simp; omega) | omega)) | with_reducible refine Below.trans ?_ (Below.mono hb2 (by first | (simp; done) | (simp; omega) | omega))))⟩
set_option maxHeartbeats 1000000 in
theorem wdrop_any (u1 v1 u2 v2 : Int) (w : World) (h1 : Word u1) (h2' : Word v1) (h3 : Word u2) (h4 : Word v2) :
    Calls Try.prog 29 #[.agg #[.int .u64 u1, .int .u64 v1], .agg #[.int .u64 u2, .int .u64 v2]] w fun e w' => e = .returned (.tuple #[.agg #[.int .u64 ((dropW ⟨u1, v1⟩ ⟨u2, v2⟩).1).hi, .int .u64 ((dropW ⟨u1, v1⟩ ⟨u2, v2⟩).1).lo], .bool (dropW ⟨u1, v1⟩ ⟨u2, v2⟩).2]) ∧ Below w.heap.size w w' := by
  have c1 := wless_any u1 v1 u2 v2
  unfold dropW
  cases hk : lessW ⟨u1, v1⟩ ⟨u2, v2⟩ with
  | true =>
    rw [hk] at c1
    have C1 := Lib.hid c1
    clear c1 hk
    go_enter Try.func29, Try.ntmps29
    go_wp2_with (fail)
    refine (C1.out _).mono ?_; rintro e w1 ⟨rfl, hb1⟩; obtain ⟨hc1, hf1⟩ := bcell hb1; have hz1 := hb1.size; (try simp at hz1); have hz1_0 : w.heap.size < w1.heap.size := (by omega); have hz1_1 : w.heap.size + 1 < w1.heap.size := (by omega); have hz1_2 : w.heap.size + 1 + 1 < w1.heap.size := (by omega)
    go_wp2
    refine bodyPost_ret (v := .tuple #[.agg #[.int .u64 0, .int .u64 0], .bool false]) (by simp [results, Try.results29, go_sem, *]) rfl ⟨by simp [zeroW], (by repeat (first | with_reducible refine Below.setCell ?_ (by first | (simp; done) | (simp; omega) | omega) _ | with_reducible refine Below.alloc ?_ (by first | (simp; done) | (simp; omega) | omega) _ | with_reducible refine Below.drew ?_ | with_reducible exact Below.refl _ _ | with_reducible refine Below.trans ?_ (Below.mono hb1 (by first | (simp; done) | (simp; omega) | omega))))⟩
  | false =>
    rw [hk] at c1
    have C1 := Lib.hid c1
    clear c1 hk
    obtain ⟨a1, a2⟩ := h1; obtain ⟨b1, b2⟩ := h2'; obtain ⟨c1, c2⟩ := h3; obtain ⟨d1, d2⟩ := h4
    go_enter Try.func29, Try.ntmps29
    go_wp2_with (fail)
    refine (C1.out _).mono ?_; rintro e w1 ⟨rfl, hb1⟩; obtain ⟨hc1, hf1⟩ := bcell hb1; have hz1 := hb1.size; (try simp at hz1); have hz1_0 : w.heap.size < w1.heap.size := (by omega); have hz1_1 : w.heap.size + 1 < w1.heap.size := (by omega); have hz1_2 : w.heap.size + 1 + 1 < w1.heap.size := (by omega)
    have ⟨k0, k1⟩ := bor_bd v1 v2
    go_wp2_with (first | simp only [sub64_0 v1 v2 b1 d1 d2] | simp only [sub64 u1 u2 _ a1 c1 c2 k0 k1])
    refine bodyPost_ret (v := .tuple #[.agg #[.int .u64 ((u1 - u2 - bor v1 v2) % 18446744073709551616), .int .u64 ((v1 - v2) % 18446744073709551616)], .bool true]) (by simp [results, Try.results29, go_sem, *]) rfl ⟨by simp, (by repeat (first | with_reducible refine Below.setCell ?_ (by first | (simp; done) | (simp; omega) | omega) _ | with_reducible refine Below.alloc ?_ (by first | (simp; done) | (simp; omega) | omega) _ | with_reducible refine Below.drew ?_ | with_reducible exact Below.refl _ _ | with_reducible refine Below.trans ?_ (Below.mono hb1 (by first | (simp; done) | (simp; omega) | omega))))⟩
set_option maxHeartbeats 1000000 in
theorem wrdrop_any (u1 v1 u2 v2 : Int) (w : World) (h1 : Word u1) (h2' : Word v1) (h3 : Word u2) (h4 : Word v2) :
    Calls Try.prog 31 #[.agg #[.int .u64 u1, .int .u64 v1], .agg #[.int .u64 u2, .int .u64 v2]] w fun e w' => e = .returned (.tuple #[.agg #[.int .u64 ((dropW ⟨u1, v1⟩ ⟨u2, v2⟩).1).hi, .int .u64 ((dropW ⟨u1, v1⟩ ⟨u2, v2⟩).1).lo], .bool (dropW ⟨u1, v1⟩ ⟨u2, v2⟩).2]) ∧ Below w.heap.size w w' := by
  have c1 := wrless_any u1 v1 u2 v2
  unfold dropW
  cases hk : lessW ⟨u1, v1⟩ ⟨u2, v2⟩ with
  | true =>
    rw [hk] at c1
    have C1 := Lib.hid c1
    clear c1 hk
    go_enter Try.func31, Try.ntmps31
    go_wp2_with (fail)
    refine (C1.out _).mono ?_; rintro e w1 ⟨rfl, hb1⟩; obtain ⟨hc1, hf1⟩ := bcell hb1; have hz1 := hb1.size; (try simp at hz1); have hz1_0 : w.heap.size < w1.heap.size := (by omega); have hz1_1 : w.heap.size + 1 < w1.heap.size := (by omega); have hz1_2 : w.heap.size + 1 + 1 < w1.heap.size := (by omega)
    go_wp2
    refine bodyPost_ret (v := .tuple #[.agg #[.int .u64 0, .int .u64 0], .bool false]) (by simp [results, Try.results31, go_sem, *]) rfl ⟨by simp [zeroW], (by repeat (first | with_reducible refine Below.setCell ?_ (by first | (simp; done) | (simp; omega) | omega) _ | with_reducible refine Below.alloc ?_ (by first | (simp; done) | (simp; omega) | omega) _ | with_reducible refine Below.drew ?_ | with_reducible exact Below.refl _ _ | with_reducible refine Below.trans ?_ (Below.mono hb1 (by first | (simp; done) | (simp; omega) | omega))))⟩
  | false =>
    rw [hk] at c1
    have C1 := Lib.hid c1
    clear c1 hk
    obtain ⟨a1, a2⟩ := h1; obtain ⟨b1, b2⟩ := h2'; obtain ⟨c1, c2⟩ := h3; obtain ⟨d1, d2⟩ := h4
    go_enter Try.func31, Try.ntmps31
    go_wp2_with (fail)
    refine (C1.out _).mono ?_; rintro e w1 ⟨rfl, hb1⟩; obtain ⟨hc1, hf1⟩ := bcell hb1; have hz1 := hb1.size; (try simp at hz1); have hz1_0 : w.heap.size < w1.heap.size := (by omega); have hz1_1 : w.heap.size + 1 < w1.heap.size := (by omega); have hz1_2 : w.heap.size + 1 + 1 < w1.heap.size := (by omega)
    go_wp2
    all_goals refine bodyPost_ret (by simp [results, Try.results31, go_sem, *]; rfl) rfl ⟨?_, (by repeat (first | with_reducible refine Below.setCell ?_ (by first | (simp; done) | (simp; omega) | omega) _ | with_reducible refine Below.alloc ?_ (by first | (simp; done) | (simp; omega) | omega) _ | with_reducible refine Below.drew ?_ | with_reducible exact Below.refl _ _ | with_reducible refine Below.trans ?_ (Below.mono hb1 (by first | (simp; done) | (simp; omega) | omega))))⟩
    all_goals (clear hc1 hf1 hb1 C1; simp only [IntKind.wrap_u64] at *; simp [bor]; first | omega | (split <;> omega))
/-- A number without its sign. -/
def absI (x : Int) : Int := (x.natAbs : Int)
set_option maxHeartbeats 1000000 in
theorem nsize_any (x : Int) (w : World) (h0 : -9223372036854775808 ≤ x) (h1 : x < 9223372036854775808) :
    Calls Try.prog 46 #[.int .i64 x] w fun e w' => e = .returned (.int .u64 (absI x)) ∧ w = w' := by
  go_enter Try.func46, Try.ntmps46
  go_wp2
  all_goals go_ret
  all_goals exact ⟨ret_u64 (by simp only [absI, IntKind.wrap_u64]; omega), rfl⟩
namespace Mul64
theorem maskN (a : Nat) (ha : a < 18446744073709551616) : bits .and .u64 (a : Int) 4294967295 = ((a % 4294967296 : Nat) : Int) := by
  have u1 := bits_and_u64_nat a 4294967295 ha (by omega)
  have e : a &&& 4294967295 = a % 4294967296 := Nat.and_two_pow_sub_one_eq_mod a 32
  rw [e] at u1
  exact u1
theorem divN (a : Nat) : (a : Int) / 4294967296 = ((a / 4294967296 : Nat) : Int) := by omega
theorem mulN (a b : Nat) : (a : Int) * (b : Int) = ((a * b : Nat) : Int) := (Int.natCast_mul a b).symm
theorem addN (a b : Nat) : (a : Int) + (b : Int) = ((a + b : Nat) : Int) := (Int.natCast_add a b).symm
theorem wrapN (a : Nat) (ha : a < 18446744073709551616) : IntKind.u64.wrap (a : Int) = (a : Int) := by rw [IntKind.wrap_u64]; omega
theorem wrapM (a : Nat) : IntKind.u64.wrap (a : Int) = ((a % 18446744073709551616 : Nat) : Int) := by rw [IntKind.wrap_u64]; omega
end Mul64
set_option maxHeartbeats 1000000 in
theorem mul64_any (x y : Nat) (w : World) (hx : x < 18446744073709551616) (hy : y < 18446744073709551616) :
    Calls Try.prog 42 #[.int .u64 x, .int .u64 y] w fun e w' => e = .returned (.tuple #[.int .u64 ((x * y / 18446744073709551616 : Nat) : Int), .int .u64 ((x * y % 18446744073709551616 : Nat) : Int)]) ∧ w = w' := by
  obtain ⟨bd, bt, bw, hhi⟩ := Lib.mul64_hi x y hx hy
  have ba := Lib.half_mul_le (a := x / 4294967296) (b := y / 4294967296) (by omega) (by omega)
  have bb := Lib.half_mul_le (a := x / 4294967296) (b := y % 4294967296) (by omega) (by omega)
  have bc := Lib.half_mul_le (a := x % 4294967296) (b := y / 4294967296) (by omega) (by omega)
  have ba' : x / 4294967296 * (y / 4294967296) < 18446744073709551616 := by omega
  have bb' : x / 4294967296 * (y % 4294967296) < 18446744073709551616 := by omega
  have bc' : x % 4294967296 * (y / 4294967296) < 18446744073709551616 := by omega
  have bh1 : x / 4294967296 * (y / 4294967296) + (x / 4294967296 * (y % 4294967296) + x % 4294967296 * (y % 4294967296) / 4294967296) / 4294967296 < 18446744073709551616 := by omega
  have bh : x / 4294967296 * (y / 4294967296) + (x / 4294967296 * (y % 4294967296) + x % 4294967296 * (y % 4294967296) / 4294967296) / 4294967296 + ((x / 4294967296 * (y % 4294967296) + x % 4294967296 * (y % 4294967296) / 4294967296) % 4294967296 + x % 4294967296 * (y / 4294967296)) / 4294967296 < 18446744073709551616 := by omega
  go_enter Try.func42, Try.ntmps42
  go_wp2
  simp only [Mul64.maskN x hx, Mul64.maskN y hy, Mul64.divN, Mul64.mulN, Mul64.addN, Mul64.wrapN _ bd, Mul64.wrapN _ bb', Mul64.wrapN _ bt, Mul64.maskN _ bt, Mul64.wrapN _ bc', Mul64.wrapN _ bw, Mul64.wrapN _ ba', Mul64.wrapN _ bh1, Mul64.wrapN _ bh, Mul64.wrapM (x * y)]
  rw [hhi]
  go_ret2
  exact ⟨rfl, rfl⟩
end Go.Proofs.Ytlcbfabdfpdcgaa
