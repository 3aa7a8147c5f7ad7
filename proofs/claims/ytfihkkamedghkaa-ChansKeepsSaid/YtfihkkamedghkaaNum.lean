/- The functions of layer 1 (num) and of its reference over numbers and wide numbers: what each call computes, for every argument. -/
import Derived.Test.YtfihkkamedghkaaRows
import Derived.WalkKit
import Derived.WalkSpells
import Derived.WalkLawsBesides
import Derived.Deep.QuietTactic
import Derived.BigQuiet
import Derived.Lib.Hide
import Derived.Lib.Mul64
import Derived.Shelf.Spec.BitsCarry
import Derived.Laws.Bits64b
import Derived.Test.YtfihkkamedghkaaDir
namespace Go.Proofs.Ytfihkkamedghkaa
open Go.RowKit
def flowsB (a : Int) : Bool := decide (-2147483647 ≤ a) && decide (a ≤ 2147483647)
theorem flowsB_def {a : Int} : flowsB a = true ↔ -2147483647 ≤ a ∧ a ≤ 2147483647 := by simp [flowsB]
/-- What comes of a reckoning: the number and the error's number. -/
def chk (a b x : Int) : Int × Int := if flowsB a && flowsB b && flowsB x then (x, 0) else (0, 10)
theorem mul_bd {a b : Int} (a1 : -2147483647 ≤ a) (a2 : a ≤ 2147483647) (b1 : -2147483647 ≤ b) (b2 : b ≤ 2147483647) : -4611686014132420609 ≤ a * b ∧ a * b ≤ 4611686014132420609 := by
  have h : (a * b).natAbs ≤ 2147483647 * 2147483647 := by rw [Int.natAbs_mul]; exact Nat.mul_le_mul (by omega) (by omega)
  omega
theorem half_bd {a b : Int} (a1 : -2147483647 ≤ a) (a2 : a ≤ 2147483647) (b1 : -2147483647 ≤ b) (b2 : b ≤ 2147483647) : -2147483647 ≤ (a - b).tdiv 2 ∧ (a - b).tdiv 2 ≤ 2147483647 := by
  rw [Int.tdiv_eq_ediv]
  have : Int.sign 2 = 1 := rfl
  split <;> omega
set_option maxHeartbeats 1000000 in
theorem nfits_any (a : Int) (w : World) :
    Calls Try.prog 59 #[.int .i64 a] w fun e w' => e = .returned (.bool (flowsB a)) ∧ w = w' := by
  go_enter Try.func59, Try.ntmps59
  go_wp2
  all_goals go_ret
  all_goals exact ⟨by simp [flowsB, *] <;> omega, rfl⟩
def addN (a b : Int) : Int × Int := chk a b (a + b)
def subN (a b : Int) : Int × Int := chk a b (a - b)
def mulN (a b : Int) : Int × Int := chk a b (a * b)
set_option maxHeartbeats 1000000 in
theorem nmuldo_any (a b : Int) (w : World) (ha : flowsB a = true) (hb : flowsB b = true) :
    Calls Try.prog 112 #[.int .i64 a, .int .i64 b] w fun e w' => e = .returned (.int .i64 (a * b)) ∧ w = w' := by
  obtain ⟨a1, a2⟩ := flowsB_def.1 ha; obtain ⟨b1, b2⟩ := flowsB_def.1 hb
  have ⟨m1, m2⟩ := mul_bd a1 a2 b1 b2
  go_enter Try.func112, Try.ntmps112
  go_wp2
  go_ret
  exact ⟨by first | trivial | rfl, rfl⟩
set_option maxHeartbeats 1000000 in
theorem nchkmul_any (a b : Int) (w : World) :
    Calls Try.prog 111 #[.int .i64 a, .int .i64 b, .func (.func 112) #[] #[]] w fun e w' => e = .returned (.tuple #[.int .i64 (mulN a b).1, .int .i64 (mulN a b).2]) ∧ w = w' := by
  cases ha : flowsB a with
  | false =>
    go_enter Try.func111, Try.ntmps111
    go_wp2_with (go_at_call 59; refine (nfits_any _ _).mono ?_; rw [ha]; rintro e w' ⟨rfl, rfl⟩)
    go_ret2
    exact ⟨by simp [mulN, chk, ha], rfl⟩
  | true =>
   cases hb : flowsB b with
   | false =>
    go_enter Try.func111, Try.ntmps111
    go_wp2_with (go_at_call 59; first | ((with_reducible refine (nfits_any a _).mono ?_); rw [ha]; rintro e w' ⟨rfl, rfl⟩) | ((with_reducible refine (nfits_any b _).mono ?_); rw [hb]; rintro e w' ⟨rfl, rfl⟩))
    go_ret2
    exact ⟨by simp [mulN, chk, hb], rfl⟩
   | true =>
    cases hx : flowsB (a * b) with
    | false =>
      go_enter Try.func111, Try.ntmps111
      go_wp2_with (first | (go_at_call 59; first | ((with_reducible refine (nfits_any a _).mono ?_); rw [ha]; rintro e w' ⟨rfl, rfl⟩) | ((with_reducible refine (nfits_any b _).mono ?_); rw [hb]; rintro e w' ⟨rfl, rfl⟩) | ((with_reducible refine (nfits_any _ _).mono ?_); rw [hx]; rintro e w' ⟨rfl, rfl⟩)) | ((refine (nmuldo_any a b _ ha hb).mono ?_); rintro e w' ⟨rfl, rfl⟩))
      go_ret2
      exact ⟨by simp [mulN, chk, hx], rfl⟩
    | true =>
      go_enter Try.func111, Try.ntmps111
      go_wp2_with (first | (go_at_call 59; first | ((with_reducible refine (nfits_any a _).mono ?_); rw [ha]; rintro e w' ⟨rfl, rfl⟩) | ((with_reducible refine (nfits_any b _).mono ?_); rw [hb]; rintro e w' ⟨rfl, rfl⟩) | ((with_reducible refine (nfits_any _ _).mono ?_); rw [hx]; rintro e w' ⟨rfl, rfl⟩)) | ((refine (nmuldo_any a b _ ha hb).mono ?_); rintro e w' ⟨rfl, rfl⟩))
      go_ret2
      exact ⟨by simp [mulN, chk, ha, hb, hx], rfl⟩
set_option maxHeartbeats 1000000 in
theorem nmul_any (a b : Int) (w : World) :
    Calls Try.prog 106 #[.int .i64 a, .int .i64 b] w fun e w' => e = .returned (.tuple #[.int .i64 (mulN a b).1, .int .i64 (mulN a b).2]) ∧ w = w' := by
  go_enter Try.func106, Try.ntmps106
  go_wp2_with (refine (nchkmul_any a b _).mono ?_; rintro e w' ⟨rfl, rfl⟩)
  go_ret2
  exact ⟨rfl, rfl⟩
def halfN (a b : Int) : Int × Int := chk a b ((a - b).tdiv 2)

theorem ret_u64 {a b : Int} (h : a = b) : Ending.returned (.int .u64 a) = .returned (.int .u64 b) := by rw [h]
theorem ret_i64 {a b : Int} (h : a = b) : Ending.returned (.int .i64 a) = .returned (.int .i64 b) := by rw [h]
/-- A wide number: its two words. -/
structure W where
  hi : Int
  lo : Int
deriving DecidableEq
def Word (x : Int) : Prop := 0 ≤ x ∧ x < 18446744073709551616
def W.ok (a : W) : Prop := Word a.hi ∧ Word a.lo
theorem word_mod (x : Int) : Word (x % 18446744073709551616) := ⟨by omega, by omega⟩
/-- The carry. -/
def addH (a b : W) : Int := a.hi + b.hi + (a.lo + b.lo) / 18446744073709551616
def addW (a b : W) : W := ⟨addH a b % 18446744073709551616, (a.lo + b.lo) % 18446744073709551616⟩
def okW (a b : W) : Bool := decide (addH a b < 18446744073709551616)
def zeroW : W := ⟨0, 0⟩
def plusW (a b : W) : W × Bool := if okW a b then (addW a b, true) else (zeroW, false)
def lessW (a b : W) : Bool := decide (a.hi < b.hi) || decide (a.hi = b.hi) && decide (a.lo < b.lo)
def bor (x y : Int) : Int := if x < y then 1 else 0
def dropW (a b : W) : W × Bool := if lessW a b then (zeroW, false) else (⟨(a.hi - b.hi - bor a.lo b.lo) % 18446744073709551616, (a.lo - b.lo) % 18446744073709551616⟩, true)
theorem addW_ok (a b : W) : (addW a b).ok := ⟨word_mod _, word_mod _⟩
theorem zeroW_ok : zeroW.ok := ⟨⟨by decide, by decide⟩, ⟨by decide, by decide⟩⟩

theorem bor_bd (x y : Int) : 0 ≤ bor x y ∧ bor x y ≤ 1 := by unfold bor; split <;> omega
theorem less_sum {u1 v1 u2 v2 : Int} (h1 : Word u1) (h2' : Word v1) (h3 : Word u2) (h4 : Word v2) : lessW ⟨(addW ⟨u1, v1⟩ ⟨u2, v2⟩).hi, (addW ⟨u1, v1⟩ ⟨u2, v2⟩).lo⟩ ⟨u1, v1⟩ = !okW ⟨u1, v1⟩ ⟨u2, v2⟩ := by
  obtain ⟨a1, a2⟩ := h1; obtain ⟨b1, b2⟩ := h2'; obtain ⟨c1, c2⟩ := h3; obtain ⟨d1, d2⟩ := h4
  rw [Bool.eq_iff_iff]
  simp only [lessW, okW, Bool.or_eq_true, Bool.and_eq_true, decide_eq_true_eq, Bool.not_eq_true', decide_eq_false_iff_not]
  simp only [addW, addH]
  omega
/-- A number without its sign. -/
def absI (x : Int) : Int := (x.natAbs : Int)
namespace Mul64
theorem maskN (a : Nat) (ha : a < 18446744073709551616) : bits .and .u64 (a : Int) 4294967295 = ((a % 4294967296 : Nat) : Int) := by
  have u1 := bits_and_u64_nat a 4294967295 ha (by omega)
  have e : a &&& 4294967295 = a % 4294967296 := Nat.and_two_pow_sub_one_eq_mod a 32
  rw [e] at u1
  exact u1
theorem divN (a : Nat) : (a : Int) / 4294967296 = ((a / 4294967296 : Nat) : Int) := by omega
theorem mulN (a b : Nat) : (a : Int) * (b : Int) = ((a * b : Nat) : Int) := (Int.natCast_mul a b).symm
theorem addN (a b : Nat) : (a : Int) + (b : Int) = ((a + b : Nat) : Int) := (Int.natCast_add a b).symm
theorem wrapN (a : Nat) (ha : a < 18446744073709551616) : IntKind.u64.wrap (a : Int) = (a : Int) := by rw [IntKind.wrap_u64]; omega
theorem wrapM (a : Nat) : IntKind.u64.wrap (a : Int) = ((a % 18446744073709551616 : Nat) : Int) := by rw [IntKind.wrap_u64]; omega
end Mul64
end Go.Proofs.Ytfihkkamedghkaa
