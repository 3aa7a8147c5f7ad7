/- The sum of a list: num and eddyref01. -/
import Derived.Test.YtmgpknadefhikaaNum
import Derived.Test.YtmgpknadefhikaaReads
import Derived.WalkMore
namespace Go.Proofs.Ytmgpknadefhikaa
open Go.RowKit
def sumS (xs : List Int) : Int := xs.foldl (fun s x => wrap64 (s + x)) 0
/-- What comes of a list: the sum and the error's number. -/
def sumN (xs : List Int) : Int × Int := if xs.all flowsB && flowsB (sumS xs) then (sumS xs, 0) else (0, 10)
theorem sumS_snoc (xs : List Int) (k : Nat) (h : k < xs.length) : sumS (xs.take (k + 1)) = wrap64 (sumS (xs.take k) + xs[k]) := by
  unfold sumS
  rw [List.take_succ_eq_append_getElem h, List.foldl_append]
  rfl
theorem all_snoc (xs : List Int) (k : Nat) (h : k < xs.length) (ha : (xs.take k).all flowsB = true) (hx : flowsB xs[k] = true) : (xs.take (k + 1)).all flowsB = true := by
  rw [List.take_succ_eq_append_getElem h, List.all_append, ha]
  simp [hx]
theorem all_not (xs : List Int) (k : Nat) (h : k < xs.length) (hx : flowsB xs[k] = false) : xs.all flowsB = false := by
  rw [List.all_eq_false]
  exact ⟨xs[k], List.getElem_mem h, by simp [hx]⟩
theorem nplus_any (a b : Int) (w : World) :
    Calls Try.prog 37 #[.int .i64 a, .int .i64 b] w fun e w' => e = .returned (.int .i64 (wrap64 (a + b))) ∧ w = w' := by
  go_enter Try.func37, Try.ntmps37
  go_wp2
  go_ret
  exact ⟨by first | trivial | rfl, rfl⟩
set_option maxHeartbeats 1000000 in
theorem sum_any (A : Option Addr) (n c : Nat) (xs : List Int) (w : World) (hn : xs.length = n) (hr : Reads w w.heap.size 1 A n (xs.map (Value.int .i64))) (hm : n ≤ maxLen) :
    Calls Try.prog 25 #[.slice A n c] w fun e w' => e = .returned (.tuple #[.int .i64 (sumN xs).1, .int .i64 (sumN xs).2]) ∧ w = w' := by
  unfold maxLen at hm
  subst hn
  go_enter Try.func25, Try.ntmps25
  go_wp2
  go_step3
  go_wp2
  go_step3
  go_wp2
  go_loop [4, 5, 9] (fun t g i => ∃ k : Nat, k ≤ xs.length ∧ i = .int .i64 k ∧ t = .int .i64 (sumS (xs.take k)) ∧ g = .bool true ∧ (xs.take k).all flowsB = true) (fun _ _ i => xs.length - (intOf i).toNat)
  case atStart => exact ⟨0, Nat.zero_le _, rfl, rfl, rfl, rfl⟩
  case round =>
    obtain ⟨k, hk, rfl, rfl, rfl, ha⟩ := hrel
    by_cases hlt : k < xs.length
    · have HS := Lib.hid (sumS_snoc xs k hlt)
      have HA := Lib.hid (all_snoc xs k hlt ha)
      have HN := Lib.hid (all_not xs k hlt)
      have HT := Lib.hid ha
      obtain ⟨ad, u, rfl, hab, hx, hc⟩ := hr.at_ hlt
      obtain rfl : Value.int .i64 xs[k] = u := by simpa [List.getElem?_eq_getElem hlt] using hx
      clear hx hr ha
      generalize xs[k] = x at *
      generalize sumS (xs.take k) = s at *
      cases hf : flowsB x with
      | true =>
        go_wp2_with (first | (go_at_call 15; refine (nfits_any _ _).mono ?_; rw [hf]; rintro e w' ⟨rfl, rfl⟩) | (go_at_call 37; refine (nplus_any _ _ _).mono ?_; rintro e w' ⟨rfl, rfl⟩))
        go_round
        case rel => exact ⟨k + 1, by omega, by go_num, by rw [HS.out], rfl, HA.out hf⟩
        case measure => simp [intOf]; omega
      | false =>
        go_wp2_with (first | (go_at_call 15; refine (nfits_any _ _).mono ?_; rw [hf]; rintro e w' ⟨rfl, rfl⟩))
        rw [Exit.noGoto_ret]
        go_ret2
        exact ⟨by simp [sumN, HN.out hf], rfl⟩
    · have hke : k = xs.length := by omega
      subst hke
      rw [List.take_length] at *
      have HA := Lib.hid ha
      clear hr ha
      generalize hs : sumS xs = s at *
      have HX := Lib.hid hs
      clear hs
      cases hf : flowsB s with
      | true =>
        go_wp2_with (first | (go_at_call 15; refine (nfits_any _ _).mono ?_; rw [hf]; rintro e w' ⟨rfl, rfl⟩))
        rw [Exit.noGoto_ret]
        go_ret2
        exact ⟨by simp [sumN, HA.out, HX.out, hf], rfl⟩
      | false =>
        go_wp2_with (first | (go_at_call 15; refine (nfits_any _ _).mono ?_; rw [hf]; rintro e w' ⟨rfl, rfl⟩))
        rw [Exit.noGoto_ret]
        go_ret2
        exact ⟨by simp [sumN, HA.out, HX.out, hf], rfl⟩
set_option maxHeartbeats 1000000 in
theorem rsum_any (A : Option Addr) (n c : Nat) (xs : List Int) (w : World) (hn : xs.length = n) (hr : Reads w w.heap.size 1 A n (xs.map (Value.int .i64))) (hm : n ≤ maxLen) :
    Calls Try.prog 26 #[.slice A n c] w fun e w' => e = .returned (.tuple #[.int .i64 (sumN xs).1, .int .i64 (sumN xs).2]) ∧ w = w' := by
  unfold maxLen at hm
  subst hn
  go_enter Try.func26, Try.ntmps26
  go_wp2
  go_loop [4, 5] (fun t i => ∃ k : Nat, k ≤ xs.length ∧ i = .int .i64 k ∧ t = .int .i64 (sumS (xs.take k)) ∧ (xs.take k).all flowsB = true) (fun _ i => xs.length - (intOf i).toNat)
  case atStart => exact ⟨0, Nat.zero_le _, rfl, rfl, rfl⟩
  case round =>
    obtain ⟨k, hk, rfl, rfl, ha⟩ := hrel
    by_cases hlt : k < xs.length
    · have HS := Lib.hid (sumS_snoc xs k hlt)
      have HA := Lib.hid (all_snoc xs k hlt ha)
      have HN := Lib.hid (all_not xs k hlt)
      have HT := Lib.hid ha
      obtain ⟨ad, u, rfl, hab, hx, hc⟩ := hr.at_ hlt
      obtain rfl : Value.int .i64 xs[k] = u := by simpa [List.getElem?_eq_getElem hlt] using hx
      clear hx hr ha
      generalize xs[k] = x at *
      generalize sumS (xs.take k) = s at *
      cases hf : flowsB x with
      | true =>
        go_wp2_with (first | (go_at_call 16; refine (nrfits_any _ _).mono ?_; rw [hf]; rintro e w' ⟨rfl, rfl⟩))
        go_round
        case rel => exact ⟨k + 1, by omega, by go_num, by rw [HS.out], HA.out hf⟩
        case measure => simp [intOf]; omega
      | false =>
        go_wp2_with (first | (go_at_call 16; refine (nrfits_any _ _).mono ?_; rw [hf]; rintro e w' ⟨rfl, rfl⟩))
        go_ret2
        exact ⟨by simp [sumN, HN.out hf], rfl⟩
    · have hke : k = xs.length := by omega
      subst hke
      rw [List.take_length] at *
      have HA := Lib.hid ha
      clear hr ha
      generalize hs : sumS xs = s at *
      have HX := Lib.hid hs
      clear hs
      cases hf : flowsB s with
      | true =>
        go_wp2_with (first | (go_at_call 38; refine (ntold_any _ _).mono ?_; rw [hf]; rintro e w' ⟨rfl, rfl⟩))
        go_ret2
        exact ⟨by simp [sumN, HA.out, HX.out, hf], rfl⟩
      | false =>
        go_wp2_with (first | (go_at_call 38; refine (ntold_any _ _).mono ?_; rw [hf]; rintro e w' ⟨rfl, rfl⟩))
        go_ret2
        exact ⟨by simp [sumN, HA.out, HX.out, hf], rfl⟩
end Go.Proofs.Ytmgpknadefhikaa
