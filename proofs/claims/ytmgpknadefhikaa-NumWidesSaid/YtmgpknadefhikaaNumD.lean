/- math/bits.Div64 by ten. -/
import Derived.Test.YtmgpknadefhikaaNumP
namespace Go.Proofs.Ytmgpknadefhikaa
open Go.RowKit
set_option maxRecDepth 100000 in
set_option maxHeartbeats 1000000 in
theorem len10 (w : World) : Calls Try.prog 51 #[.int .u64 10] w fun e w' => e = .returned (.int .i64 4) ∧ w = w' := by
  go_enter Try.func51, Try.ntmps51
  go_wp2
  go_ret
  exact ⟨ret_i64 (by first | rfl | decide +kernel), rfl⟩
set_option maxRecDepth 100000 in
set_option maxHeartbeats 1000000 in
theorem lz10 (w : World) : Calls Try.prog 50 #[.int .u64 10] w fun e w' => e = .returned (.int .i64 60) ∧ w = w' := by
  go_enter Try.func50, Try.ntmps50
  go_wp2_with (go_at_call 51; refine (len10 _).mono ?_; rintro e w' ⟨rfl, rfl⟩)
  go_ret
  exact ⟨rfl, rfl⟩
theorem or_shift (r lo : Nat) (h1 : r < 10) (h2 : lo < 18446744073709551616) : bits .or .u64 ((r : Int) * 1152921504606846976) ((lo : Int) / 16) = ((r * 1152921504606846976 + lo / 16 : Nat) : Int) := by
  have h := bits_or_u64_nat (r * 1152921504606846976) (lo / 16) (by omega) (by omega)
  have e : r * 1152921504606846976 ||| lo / 16 = r * 1152921504606846976 + lo / 16 := by
    have := Nat.shiftLeft_add_eq_or_of_lt (b := lo / 16) (i := 60) (by omega) r
    rw [Nat.shiftLeft_eq] at this
    exact this.symm
  rw [e] at h
  exact h
theorem and_zero (m : Nat) (h : m < 16) : bits .and .u64 ((m * 1152921504606846976 : Nat) : Int) 4294967295 = 0 := by
  rw [Mul64.maskN _ (by omega)]
  omega
theorem wN (a : Nat) (ha : a < 18446744073709551616) : IntKind.u64.wrap (a : Int) = (a : Int) := by rw [IntKind.wrap_u64]; omega
/-- The steps of the long division of r * 2^64 + lo by ten, each a number. -/
structure Div10 (r lo u v q t vd x q2 t2 : Nat) : Prop where
  u1 : bits .or .u64 (IntKind.u64.wrap ((r : Int) * 1152921504606846976)) ((lo : Int) / 16) = (u : Int)
  v1 : IntKind.u64.wrap ((lo : Int) * 1152921504606846976) = (v : Int)
  v2 : bits .and .u64 (v : Int) 4294967295 = 0
  v3 : (v : Int) / 4294967296 = (vd : Int)
  q1 : IntKind.u64.wrap ((u : Int) / 2684354560) = (q : Int)
  t1 : IntKind.u64.wrap ((u : Int) - IntKind.u64.wrap ((q : Int) * 2684354560)) = (t : Int)
  g1 : decide ((4294967296 : Int) ≤ (q : Int)) = false
  x1 : IntKind.u64.wrap (IntKind.u64.wrap (IntKind.u64.wrap ((u : Int) * 4294967296) + (vd : Int)) - IntKind.u64.wrap ((q : Int) * 11529215046068469760)) = (x : Int)
  q21 : IntKind.u64.wrap ((x : Int) / 2684354560) = (q2 : Int)
  t21 : IntKind.u64.wrap ((x : Int) - IntKind.u64.wrap ((q2 : Int) * 2684354560)) = (t2 : Int)
  g2 : decide ((4294967296 : Int) ≤ (q2 : Int)) = false
  o1 : IntKind.u64.wrap (IntKind.u64.wrap ((q : Int) * 4294967296) + (q2 : Int)) = ((r * 18446744073709551616 + lo) / 10 : Nat)
  o2 : IntKind.u64.wrap (IntKind.u64.wrap (IntKind.u64.wrap ((x : Int) * 4294967296)) - IntKind.u64.wrap ((q2 : Int) * 11529215046068469760)) / 1152921504606846976 = ((r * 18446744073709551616 + lo) % 10 : Nat)
theorem divN10 (a : Nat) : (a : Int) / 2684354560 = ((a / 2684354560 : Nat) : Int) := by omega
theorem modsub (a b n : Int) : (a % n - b % n) % n = (a - b) % n := (Int.sub_emod a b n).symm
theorem modadd (a b n : Int) : (a % n + b) % n = (a + b) % n := by rw [Int.add_emod, Int.emod_emod, ← Int.add_emod]
theorem wsub {a b c : Nat} (h : a = b + c) (hc : c < 18446744073709551616) : IntKind.u64.wrap ((a : Int) - IntKind.u64.wrap (b : Int)) = (c : Int) := by
  rw [IntKind.wrap_u64, IntKind.wrap_u64]
  have e : ((a : Int) - (b : Int) % 18446744073709551616) % 18446744073709551616 = ((a : Int) - b) % 18446744073709551616 := by
    rw [Int.sub_emod, Int.emod_emod, ← Int.sub_emod]
  rw [e, show (a : Int) - (b : Int) = (c : Int) by omega]
  exact Int.emod_eq_of_lt (by omega) (by omega)
theorem ret_uu {a b c d : Int} (h1 : a = c) (h2 : b = d) : Ending.returned (.tuple #[.int .u64 a, .int .u64 b]) = .returned (.tuple #[.int .u64 c, .int .u64 d]) := by rw [h1, h2]
theorem div_ten (Q R : Nat) (h : R < 10) : (10 * Q + R) / 10 = Q ∧ (10 * Q + R) % 10 = R := by omega
theorem shift_back (R : Nat) : ((268435456 * R : Nat) : Int) * 4294967296 / 1152921504606846976 = (R : Int) := by omega
theorem div_tail (N Q t : Nat) (e : 268435456 * N = 2684354560 * Q + t) (ht : t < 2684354560) : ∃ R : Nat, R < 10 ∧ N = 10 * Q + R ∧ t = 268435456 * R := ⟨N - 10 * Q, by omega, by omega, by omega⟩
theorem div10_steps (r lo : Nat) (h1 : r < 10) (h2 : lo < 18446744073709551616) : ∃ u v q t vd x q2 t2 : Nat, Div10 r lo u v q t vd x q2 t2 := by
  obtain ⟨lh, ll, hl, hll, hlh⟩ : ∃ lh ll : Nat, lo = 16 * lh + ll ∧ ll < 16 ∧ lh < 1152921504606846976 := ⟨lo / 16, lo % 16, by omega, by omega, by omega⟩
  obtain ⟨u, hu⟩ : ∃ u : Nat, u = r * 1152921504606846976 + lh := ⟨_, rfl⟩
  have hub : u < 11529215046068469760 := by omega
  obtain ⟨q, t, hut, ht, hqe⟩ : ∃ q t : Nat, u = q * 2684354560 + t ∧ t < 2684354560 ∧ u / 2684354560 = q := ⟨u / 2684354560, u % 2684354560, (Nat.div_add_mod' u 2684354560).symm, Nat.mod_lt _ (by decide), rfl⟩
  have hq : q < 4294967296 := by omega
  obtain ⟨vd, hvd⟩ : ∃ vd : Nat, vd = ll * 268435456 := ⟨_, rfl⟩
  obtain ⟨x, hx⟩ : ∃ x : Nat, x = t * 4294967296 + vd := ⟨_, rfl⟩
  have hxb : x < 11529215046068469760 := by omega
  obtain ⟨q2, t2, hxt, ht2, hq2e⟩ : ∃ q2 t2 : Nat, x = q2 * 2684354560 + t2 ∧ t2 < 2684354560 ∧ x / 2684354560 = q2 := ⟨x / 2684354560, x % 2684354560, (Nat.div_add_mod' x 2684354560).symm, Nat.mod_lt _ (by decide), rfl⟩
  have hq2 : q2 < 4294967296 := by omega
  obtain ⟨R, hR, hN, hT⟩ : ∃ R : Nat, R < 10 ∧ r * 18446744073709551616 + lo = 10 * (q * 4294967296 + q2) + R ∧ t2 = 268435456 * R := by
    have e : 268435456 * (r * 18446744073709551616 + lo) = 2684354560 * (q * 4294967296 + q2) + t2 := by
      rw [hl]; rw [hvd] at hx; omega
    exact div_tail _ _ _ e ht2
  have hQ : (r * 18446744073709551616 + lo) / 10 = q * 4294967296 + q2 ∧ (r * 18446744073709551616 + lo) % 10 = R := by
    rw [hN]; exact div_ten _ _ hR
  refine ⟨u, ll * 1152921504606846976, q, t, vd, x, q2, t2, ?_, ?_, ?_, ?_, ?_, ?_, ?_, ?_, ?_, ?_, ?_, ?_, ?_⟩
  · rw [IntKind.wrap_u64, Int.emod_eq_of_lt (by omega) (by omega), or_shift r lo h1 h2, hu, hl]; omega
  · rw [IntKind.wrap_u64, hl]; omega
  · exact and_zero _ hll
  · omega
  · rw [divN10, hqe, wN _ (by omega)]
  · rw [show (q : Int) * 2684354560 = ((q * 2684354560 : Nat) : Int) by omega]; exact wsub hut (by omega)
  · exact decide_eq_false (by omega)
  · rw [IntKind.wrap_u64 (IntKind.u64.wrap (IntKind.u64.wrap ((u : Int) * 4294967296) + (vd : Int)) - IntKind.u64.wrap ((q : Int) * 11529215046068469760)), IntKind.wrap_u64 (IntKind.u64.wrap ((u : Int) * 4294967296) + (vd : Int)), IntKind.wrap_u64 ((u : Int) * 4294967296), IntKind.wrap_u64 ((q : Int) * 11529215046068469760), modadd, modsub, show (u : Int) * 4294967296 + (vd : Int) - (q : Int) * 11529215046068469760 = (x : Int) by omega]
    exact Int.emod_eq_of_lt (by omega) (by omega)
  · rw [divN10, hq2e, wN _ (by omega)]
  · rw [show (q2 : Int) * 2684354560 = ((q2 * 2684354560 : Nat) : Int) by omega]; exact wsub hxt (by omega)
  · exact decide_eq_false (by omega)
  · rw [show (q : Int) * 4294967296 = ((q * 4294967296 : Nat) : Int) by omega, wN _ (by omega), show ((q * 4294967296 : Nat) : Int) + (q2 : Int) = ((q * 4294967296 + q2 : Nat) : Int) by omega, wN _ (by omega)]
    rw [hQ.1]
  · rw [show IntKind.u64.wrap (IntKind.u64.wrap ((x : Int) * 4294967296)) = IntKind.u64.wrap ((x : Int) * 4294967296) by simp only [IntKind.wrap_u64, Int.emod_emod]]
    rw [IntKind.wrap_u64 (IntKind.u64.wrap ((x : Int) * 4294967296) - IntKind.u64.wrap ((q2 : Int) * 11529215046068469760)), IntKind.wrap_u64 ((x : Int) * 4294967296), IntKind.wrap_u64 ((q2 : Int) * 11529215046068469760), modsub, show (x : Int) * 4294967296 - (q2 : Int) * 11529215046068469760 = (t2 : Int) * 4294967296 by omega, Int.emod_eq_of_lt (by omega) (by omega)]
    rw [hQ.2, hT]
    exact shift_back R
set_option maxRecDepth 100000 in
set_option maxHeartbeats 2000000 in
theorem div10_pos (r lo : Nat) (h0 : 0 < r) (h1 : r < 10) (h2 : lo < 18446744073709551616) (w : World) : Calls Try.prog 47 #[.int .u64 r, .int .u64 lo, .int .u64 10] w fun e w' => e = .returned (.tuple #[.int .u64 ((r * 18446744073709551616 + lo) / 10 : Nat), .int .u64 ((r * 18446744073709551616 + lo) % 10 : Nat)]) ∧ w = w' := by
  have a2 : ((r : Int) == 0) = false := beq_false_of_ne (by omega)
  have a3 : decide ((10 : Int) ≤ r) = false := decide_eq_false (by omega)
  have e3 : bits .and .u64 11529215046068469760 4294967295 = 0 := by decide +kernel
  obtain ⟨u, v, q, t, vd, x, q2, t2, D⟩ := div10_steps r lo h1 h2
  obtain ⟨u1, v1, v2, v3, q1, t1, g1, x1, q21, t21, g2, o1, o2⟩ := D
  have n1 : 0 ≤ IntKind.u64.wrap (IntKind.u64.wrap (4294967296 * (t : Int)) + (vd : Int)) := by rw [IntKind.wrap_u64]; omega
  have n2 : 0 ≤ IntKind.u64.wrap (IntKind.u64.wrap (4294967296 * (t2 : Int))) := by rw [IntKind.wrap_u64]; omega
  generalize (r * 18446744073709551616 + lo) / 10 = Q at *
  generalize (r * 18446744073709551616 + lo) % 10 = R at *
  clear h0 h1 h2
  go_enter Try.func47, Try.ntmps47
  go_wp2_with (go_at_call 50; refine (lz10 _).mono ?_; rintro e w' ⟨rfl, rfl⟩)
  clear u1 v1 q1 t1
  go_loop [15, 16] (fun a b => a = .int .u64 q ∧ b = .int .u64 t) (fun _ _ => 0)
  case atStart => exact ⟨rfl, rfl⟩
  case round =>
    obtain ⟨rfl, rfl⟩ := hrel
    go_wp2
    clear n1 x1 q21 t21
    go_loop [18, 16] (fun a b => a = .int .u64 q2 ∧ b = .int .u64 t2) (fun _ _ => 0)
    case atStart => exact ⟨rfl, rfl⟩
    case round =>
      obtain ⟨rfl, rfl⟩ := hrel
      go_wp2
      go_ret2
      exact ⟨by rw [← o2]; rfl, rfl⟩
set_option maxRecDepth 100000 in
set_option maxHeartbeats 2000000 in
theorem div10_zero (lo : Nat) (h2 : lo < 18446744073709551616) (w : World) : Calls Try.prog 47 #[.int .u64 0, .int .u64 lo, .int .u64 10] w fun e w' => e = .returned (.tuple #[.int .u64 (lo / 10 : Nat), .int .u64 (lo % 10 : Nat)]) ∧ Below w.heap.size w w' := by
  have e1 : IntKind.u64.wrap ((lo : Int) / 10) = ((lo / 10 : Nat) : Int) := by rw [IntKind.wrap_u64]; omega
  have e2 : IntKind.u64.wrap ((lo : Int) % 10) = ((lo % 10 : Nat) : Int) := by rw [IntKind.wrap_u64]; omega
  have e3 : (lo : Int) / 10 = ((lo / 10 : Nat) : Int) := by omega
  have e4 : (lo : Int) % 10 = ((lo % 10 : Nat) : Int) := by omega
  have HE := Lib.hid (And.intro e1 e4)
  clear h2 e1 e2 e3 e4
  go_enter Try.func47, Try.ntmps47
  go_wp2
  go_region
  all_goals
    go_wp2
    go_ret2
    exact ⟨ret_uu HE.out.1 HE.out.2, (by repeat (first | with_reducible refine Below.setCell ?_ (by first | (simp; done) | (simp; omega) | omega) _ | with_reducible refine Below.alloc ?_ (by first | (simp; done) | (simp; omega) | omega) _ | with_reducible refine Below.drew ?_ | with_reducible exact Below.refl _ _))⟩
theorem div10_any (r lo : Nat) (h1 : r < 10) (h2 : lo < 18446744073709551616) (w : World) : Calls Try.prog 47 #[.int .u64 r, .int .u64 lo, .int .u64 10] w fun e w' => e = .returned (.tuple #[.int .u64 ((r * 18446744073709551616 + lo) / 10 : Nat), .int .u64 ((r * 18446744073709551616 + lo) % 10 : Nat)]) ∧ Below w.heap.size w w' := by
  rcases Nat.eq_zero_or_pos r with h0 | h0
  · subst h0
    rw [Nat.zero_mul, Nat.zero_add]
    exact div10_zero lo h2 w
  · exact (div10_pos r lo h0 h1 h2 w).mono fun _ _ h => ⟨h.1, h.2 ▸ Below.refl _ _⟩
end Go.Proofs.Ytmgpknadefhikaa
