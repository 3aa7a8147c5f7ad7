/- The squares: eddyref01's square of a word. -/
import Derived.Test.YtlcbfabdfpdcgaaNum
namespace Go.Proofs.Ytlcbfabdfpdcgaa
open Go.RowKit
/-- A natural number as a wide one. -/
def wideN (n : Nat) : W := ⟨((n / 18446744073709551616 : Nat) : Int), ((n % 18446744073709551616 : Nat) : Int)⟩
theorem sq_split (n : Nat) : n * n = (n / 4294967296) * (n / 4294967296) * 18446744073709551616 + (n / 4294967296) * (n % 4294967296) * 8589934592 + (n % 4294967296) * (n % 4294967296) := by
  have h := Lib.split_mul (n / 4294967296) (n % 4294967296) (n / 4294967296) (n % 4294967296) 4294967296
  have e : n / 4294967296 * 4294967296 + n % 4294967296 = n := by omega
  rw [e, Nat.mul_comm (n % 4294967296) (n / 4294967296)] at h
  refine h.trans ?_
  generalize n / 4294967296 * (n / 4294967296) = a
  generalize n / 4294967296 * (n % 4294967296) = b
  generalize n % 4294967296 * (n % 4294967296) = c
  clear h e
  omega
theorem sq_plus (n : Nat) (hn : n < 18446744073709551616) :
    plusW ⟨((n / 4294967296 * (n / 4294967296) : Nat) : Int), ((n % 4294967296 * (n % 4294967296) : Nat) : Int)⟩
      ⟨((n / 4294967296 * (n % 4294967296) / 2147483648 : Nat) : Int), ((n / 4294967296 * (n % 4294967296) * 8589934592 % 18446744073709551616 : Nat) : Int)⟩ = (wideN (n * n), true) := by
  have ha := Lib.half_mul_le (a := n / 4294967296) (b := n / 4294967296) (by omega) (by omega)
  have hb := Lib.half_mul_le (a := n / 4294967296) (b := n % 4294967296) (by omega) (by omega)
  have hc := Lib.half_mul_le (a := n % 4294967296) (b := n % 4294967296) (by omega) (by omega)
  have hl : n * n < 18446744073709551616 * 18446744073709551616 := Nat.mul_lt_mul'' hn hn
  rw [wideN, sq_split n] at *
  generalize n / 4294967296 * (n / 4294967296) = a at *
  generalize n / 4294967296 * (n % 4294967296) = b at *
  generalize n % 4294967296 * (n % 4294967296) = c at *
  have hk : okW ⟨(a : Int), (c : Int)⟩ ⟨((b / 2147483648 : Nat) : Int), ((b * 8589934592 % 18446744073709551616 : Nat) : Int)⟩ = true := by
    simp only [okW, decide_eq_true_eq]; simp only [addH]; omega
  simp only [plusW, hk, if_true, addW, addH, Prod.mk.injEq, W.mk.injEq, and_true]
  omega
set_option maxHeartbeats 1000000 in
theorem square_any (n : Nat) (hn : n < 18446744073709551616) (w : World) :
    Calls Try.prog 45 #[.int .u64 n] w fun e w' => e = .returned (.agg #[.int .u64 (wideN (n * n)).hi, .int .u64 (wideN (n * n)).lo]) ∧ Below w.heap.size w w' := by
  have ha := Lib.half_mul_le (a := n / 4294967296) (b := n / 4294967296) (by omega) (by omega)
  have hb := Lib.half_mul_le (a := n / 4294967296) (b := n % 4294967296) (by omega) (by omega)
  have hc := Lib.half_mul_le (a := n % 4294967296) (b := n % 4294967296) (by omega) (by omega)
  have ha' : n / 4294967296 * (n / 4294967296) < 18446744073709551616 := by omega
  have hb' : n / 4294967296 * (n % 4294967296) < 18446744073709551616 := by omega
  have hc' : n % 4294967296 * (n % 4294967296) < 18446744073709551616 := by omega
  have c1 := fun w => wrplus_any ((n / 4294967296 * (n / 4294967296) : Nat) : Int) ((n % 4294967296 * (n % 4294967296) : Nat) : Int)
      ((n / 4294967296 * (n % 4294967296) / 2147483648 : Nat) : Int) ((n / 4294967296 * (n % 4294967296) * 8589934592 % 18446744073709551616 : Nat) : Int) w ⟨by omega, by omega⟩ ⟨by omega, by omega⟩ ⟨by omega, by omega⟩ ⟨by omega, by omega⟩
  rw [sq_plus n hn] at c1
  generalize wideN (n * n) = s at c1
  obtain ⟨x, y⟩ := s
  have C1 := Lib.hid c1
  clear c1 ha hb hc
  go_enter Try.func45, Try.ntmps45
  go_wp2_with (fail)
  simp only [Mul64.maskN n hn, Mul64.divN, Mul64.mulN, Mul64.wrapN _ ha', Mul64.wrapN _ hb', Mul64.wrapN _ hc']
  refine (C1.out _).mono ?_; rintro e w1 ⟨rfl, hb1⟩; obtain ⟨hc1, hf1⟩ := bcell hb1; have hz1 := hb1.size; (try simp at hz1); have hz1_0 : w.heap.size < w1.heap.size := (by omega); have hz1_1 : w.heap.size + 1 < w1.heap.size := (by omega); have hz1_2 : w.heap.size + 1 + 1 < w1.heap.size := (by omega)
  go_wp2
  have q0 : w1.cell? ⟨w.heap.size, 0, none⟩ = some (.int .u64 0) := (hc1 _ _ (by simp; omega)).trans (by go_simp)
  have q1 : w1.cell? ⟨w.heap.size, 1, none⟩ = some (.int .u64 0) := (hc1 _ _ (by simp; omega)).trans (by go_simp)
  refine bodyPost_ret (v := .agg #[.int .u64 x, .int .u64 y]) (by simp [results, Try.results45, go_sem, q0, q1, hz1_0]) rfl ⟨by simp, (by repeat (first | with_reducible refine Below.setCell ?_ (by first | (simp; done) | (simp; omega) | omega) _ | with_reducible refine Below.alloc ?_ (by first | (simp; done) | (simp; omega) | omega) _ | with_reducible refine Below.drew ?_ | with_reducible exact Below.refl _ _ | with_reducible refine Below.trans ?_ (Below.mono hb1 (by first | (simp; done) | (simp; omega) | omega))))⟩
end Go.Proofs.Ytlcbfabdfpdcgaa
