/- times and Told of the reference of chapter 18: what each call computes. -/
import Derived.Test.YtfihkkamedghkaaStU
import Derived.Test.YtfihkkamedghkaaStG
import Derived.Test.YtfihkkamedghkaaStH
namespace Go.Proofs.Ytfihkkamedghkaa
open Go.RowKit
set_option linter.unusedVariables false
set_option maxHeartbeats 1000000 in
theorem rtimes_any (a b : Int) (w : World) :
    Calls Try.prog 82 #[.int .i64 a, .int .i64 b] w fun e w' => e = .returned (.tuple #[.int .i64 (mulN a b).1, .int .i64 (mulN a b).2]) ∧ w = w' := by
  cases ha : flowsB a with
  | false =>
    go_enter Try.func82, Try.ntmps82
    go_wp2_with ((with_reducible refine (srflow_any a _).mono ?_); rw [ha]; rintro e w' ⟨rfl, rfl⟩)
    go_ret2
    exact ⟨by simp [mulN, chk, ha], rfl⟩
  | true =>
   cases hb : flowsB b with
   | false =>
    go_enter Try.func82, Try.ntmps82
    go_wp2_with (first | ((with_reducible refine (srflow_any a _).mono ?_); rw [ha]; rintro e w' ⟨rfl, rfl⟩) | ((with_reducible refine (srflow_any b _).mono ?_); rw [hb]; rintro e w' ⟨rfl, rfl⟩))
    go_ret2
    exact ⟨by simp [mulN, chk, hb], rfl⟩
   | true =>
    obtain ⟨a1, a2⟩ := flowsB_def.1 ha; obtain ⟨b1, b2⟩ := flowsB_def.1 hb
    have ⟨m1, m2⟩ := mul_bd a1 a2 b1 b2
    cases hx : flowsB (a * b) with
    | false =>
      go_enter Try.func82, Try.ntmps82
      go_wp2_with (first | ((with_reducible refine (srflow_any a _).mono ?_); rw [ha]; rintro e w' ⟨rfl, rfl⟩) | ((with_reducible refine (srflow_any b _).mono ?_); rw [hb]; rintro e w' ⟨rfl, rfl⟩) | ((with_reducible refine (srflow_any _ _).mono ?_); rw [hx]; rintro e w' ⟨rfl, rfl⟩))
      go_ret2
      exact ⟨by simp [mulN, chk, hx], rfl⟩
    | true =>
      go_enter Try.func82, Try.ntmps82
      go_wp2_with (first | ((with_reducible refine (srflow_any a _).mono ?_); rw [ha]; rintro e w' ⟨rfl, rfl⟩) | ((with_reducible refine (srflow_any b _).mono ?_); rw [hb]; rintro e w' ⟨rfl, rfl⟩) | ((with_reducible refine (srflow_any _ _).mono ?_); rw [hx]; rintro e w' ⟨rfl, rfl⟩))
      go_ret2
      exact ⟨by simp [mulN, chk, ha, hb, hx], rfl⟩
set_option maxHeartbeats 1000000 in
theorem rtold_any (kd x sc : Int) (w : World) :
    Calls Try.prog 51 #[.int .i64 kd, .int .i64 x, .int .i64 sc] w fun e w' => e = .returned (.tuple #[.int .i64 (toldF kd x sc).1, .int .i64 (toldF kd x sc).2]) ∧ w = w' := by
  by_cases h1 : kd = 1
  · subst h1
    go_enter Try.func51, Try.ntmps51
    go_wp2_with (refine (rtimes_any _ _ _).mono ?_; rintro e w' ⟨rfl, rfl⟩)
    go_ret2
    exact ⟨by simp [toldF], rfl⟩
  have g1 : (kd == 1) = false := by simpa using h1
  by_cases h2 : kd = 2
  · subst h2
    by_cases hx : x = 0
    · subst hx
      go_enter Try.func51, Try.ntmps51
      go_wp2_with (refine (rtimes_any _ _ _).mono ?_; rintro e w' ⟨rfl, rfl⟩)
      go_ret2
      exact ⟨by simp [toldF], rfl⟩
    have gx : (x != 0) = true := by simpa using hx
    by_cases hy : x = 1
    · subst hy
      go_enter Try.func51, Try.ntmps51
      go_wp2_with (refine (rtimes_any _ _ _).mono ?_; rintro e w' ⟨rfl, rfl⟩)
      go_ret2
      exact ⟨by simp [toldF], rfl⟩
    have gy : (x != 1) = true := by simpa using hy
    go_enter Try.func51, Try.ntmps51
    go_wp2_with (refine (rtimes_any _ _ _).mono ?_; rintro e w' ⟨rfl, rfl⟩)
    go_ret2
    exact ⟨by simp [toldF, hx, hy], rfl⟩
  have g2 : (kd == 2) = false := by simpa using h2
  by_cases h3 : kd = 3
  · subst h3
    have HT : Hid (∀ W, Calls Try.prog 82 #[.int .i64 x, .int .i64 x] W fun e w' => e = .returned (.tuple #[.int .i64 (mulN x x).1, .int .i64 (mulN x x).2]) ∧ W = w') := Lib.hid (fun W => rtimes_any x x W)
    rcases mulN_two x x with h | h
    · have hp := mul_pair h
      have e3 : toldF 3 x sc = mulN (mulN x x).1 sc := by simp [toldF, h]
      rw [e3]
      generalize (mulN x x).1 = y1 at *
      rw [h] at HT
      go_enter Try.func51, Try.ntmps51
      go_wp2_with (first | ((with_reducible refine (HT.out _).mono ?_); rintro e w' ⟨rfl, rfl⟩) | refine (rtimes_any _ _ _).mono ?_; rintro e w' ⟨rfl, rfl⟩)
      go_ret2
      exact ⟨rfl, rfl⟩
    · have e3 : toldF 3 x sc = (0, 10) := by simp [toldF, h]
      rw [e3]
      rw [h] at HT
      go_enter Try.func51, Try.ntmps51
      go_wp2_with (first | ((with_reducible refine (HT.out _).mono ?_); rintro e w' ⟨rfl, rfl⟩) | refine (rtimes_any _ _ _).mono ?_; rintro e w' ⟨rfl, rfl⟩)
      go_ret2
      exact ⟨rfl, rfl⟩
  have g3 : (kd == 3) = false := by simpa using h3
  go_enter Try.func51, Try.ntmps51
  go_wp2_with (refine (rtimes_any _ _ _).mono ?_; rintro e w' ⟨rfl, rfl⟩)
  go_ret2
  exact ⟨by simp [toldF, h1, h2, h3], rfl⟩
end Go.Proofs.Ytfihkkamedghkaa
