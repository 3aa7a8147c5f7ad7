/- Gain of trade and of eddyref12: what each call computes, for every argument. -/
import Derived.Test.YtlcbfabdfpdcgaaTrdL
import Derived.Test.YtlcbfabdfpdcgaaNumS
namespace Go.Proofs.Ytlcbfabdfpdcgaa
open Go.RowKit
set_option linter.unusedVariables false
def M128 : Nat := 340282366920938463463374607431768211456
theorem wide_add (a b : Nat) (ha : a < M128) (hb : b < M128) : addW (wideN a) (wideN b) = wideN ((a + b) % M128) := by
  unfold M128 at *
  simp only [addW, wideN, addH, W.mk.injEq]
  omega
theorem reads2 {w : World} {b : Nat} {x y : Value} (h0 : w.cell? ⟨b, 0, none⟩ = some x) (h1 : w.cell? ⟨b, 1, none⟩ = some y) (hb : b < w.heap.size) : Reads w w.heap.size 1 (some ⟨b, 0, none⟩) 2 [x, y] := by
  refine ⟨rfl, fun _ => ⟨_, rfl, hb, fun j u hu => ?_⟩⟩
  rcases j with _ | _ | j
  · simp at hu; subst hu; exact h0
  · simp at hu; subst hu; exact h1
  · simp at hu
theorem wide_less (a b : Nat) (ha : a < M128) (hb : b < M128) : lessW (wideN a) (wideN b) = decide (a < b) := by
  unfold M128 at *
  rw [Bool.eq_iff_iff]
  simp only [lessW, Bool.or_eq_true, Bool.and_eq_true, decide_eq_true_eq]
  simp only [wideN]
  omega
theorem wide_drop (a b : Nat) (ha : a < M128) (h : b ≤ a) : dropW (wideN a) (wideN b) = (wideN (a - b), true) := by
  unfold dropW
  rw [wide_less a b ha (by omega), decide_eq_false (by omega)]
  simp only [Bool.false_eq_true, if_false, Prod.mk.injEq, and_true]
  unfold M128 at ha
  by_cases hc : (wideN a).lo < (wideN b).lo
  · rw [show bor (wideN a).lo (wideN b).lo = 1 from if_pos hc]
    simp only [wideN, W.mk.injEq] at hc ⊢
    omega
  · rw [show bor (wideN a).lo (wideN b).lo = 0 from if_neg hc]
    simp only [wideN, W.mk.injEq] at hc ⊢
    omega
theorem sqL2 (x y : Int) (hx0 : -9223372036854775808 ≤ x) (hx : x < 9223372036854775808) (hy0 : -9223372036854775808 ≤ y) (hy : y < 9223372036854775808) : sqL [x, y] = wideN (x.natAbs * x.natAbs + y.natAbs * y.natAbs) := by
  have h1 : x.natAbs * x.natAbs ≤ 9223372036854775808 * 9223372036854775808 := Nat.mul_le_mul (by omega) (by omega)
  have h2 : y.natAbs * y.natAbs ≤ 9223372036854775808 * 9223372036854775808 := Nat.mul_le_mul (by omega) (by omega)
  show addW (addW zeroW (sqOne x)) (sqOne y) = _
  rw [show zeroW = wideN 0 from rfl]
  unfold sqOne
  generalize x.natAbs * x.natAbs = p at *
  generalize y.natAbs * y.natAbs = q at *
  rw [wide_add 0 p (by decide) (by unfold M128; omega), Nat.zero_add, Nat.mod_eq_of_lt (by unfold M128; omega), wide_add p q (by unfold M128; omega) (by unfold M128; omega), Nat.mod_eq_of_lt (by unfold M128; omega)]
theorem half_facts {a b : Int} (a1 : -2147483647 ≤ a) (a2 : a ≤ 2147483647) (b1 : -2147483647 ≤ b) (b2 : b ≤ 2147483647) :
    ∃ h r : Int, (a - b).tdiv 2 = h ∧ (b - a).tdiv 2 = -h ∧ a - b = 2 * h + r ∧ -1 ≤ r ∧ r ≤ 1 ∧ (0 < h → 0 ≤ r) ∧ (h < 0 → r ≤ 0) := by
  have e1 := Int.tdiv_eq_ediv (a := a - b) (b := 2)
  have e2 := Int.tdiv_eq_ediv (a := b - a) (b := 2)
  have hs : Int.sign 2 = 1 := rfl
  rw [hs] at e1 e2
  refine ⟨(a - b).tdiv 2, a - b - 2 * (a - b).tdiv 2, rfl, ?_, by omega, ?_⟩
  · rw [e1, e2]; split <;> split <;> omega
  · rw [e1]; split <;> omega
theorem sq_diff (a b h r : Int) (e : a - b = 2 * h + r) : a * a + b * b - ((a - h) * (a - h) + (b + h) * (b + h)) = 2 * (h * (h + r)) := by
  obtain rfl : a = b + 2 * h + r := by omega
  grind
theorem sq_pos {h r : Int} (h0 : h ≠ 0) (r1 : -1 ≤ r) (r2 : r ≤ 1) (hp : 0 < h → 0 ≤ r) (hn : h < 0 → r ≤ 0) : 1 ≤ h * (h + r) := by
  rcases Int.lt_or_lt_of_ne h0 with hh | hh
  · have := Int.mul_pos_of_neg_of_neg hh (show h + r < 0 by omega); omega
  · have := Int.mul_pos hh (show 0 < h + r by omega); omega
theorem natAbs_sq (x : Int) : ((x.natAbs * x.natAbs : Nat) : Int) = x * x := Int.natAbs_mul_self
/-- What halving takes from the squares. -/
theorem half_less {a b h r : Int} (a1 : -2147483647 ≤ a) (a2 : a ≤ 2147483647) (b1 : -2147483647 ≤ b) (b2 : b ≤ 2147483647) (e : a - b = 2 * h + r) (r1 : -1 ≤ r) (r2 : r ≤ 1) (hp : 0 < h → 0 ≤ r) (hn : h < 0 → r ≤ 0) :
    ∃ n : Nat, dropW (sqL [a, b]) (sqL [a - h, b + h]) = (wideN n, true) ∧ n < M128 ∧ ((h = 0 ∧ n = 0) ∨ (h ≠ 0 ∧ 2 ≤ n)) := by
  rw [sqL2 a b (by omega) (by omega) (by omega) (by omega), sqL2 (a - h) (b + h) (by omega) (by omega) (by omega) (by omega)]
  have hd := sq_diff a b h r e
  have i1 := natAbs_sq a; have i2 := natAbs_sq b; have i3 := natAbs_sq (a - h); have i4 := natAbs_sq (b + h)
  rw [← i1, ← i2, ← i3, ← i4] at hd
  have u1 : a.natAbs * a.natAbs ≤ 2147483647 * 2147483647 := Nat.mul_le_mul (by omega) (by omega)
  have u2 : b.natAbs * b.natAbs ≤ 2147483647 * 2147483647 := Nat.mul_le_mul (by omega) (by omega)
  clear i1 i2 i3 i4
  generalize a.natAbs * a.natAbs = A at *
  generalize b.natAbs * b.natAbs = B at *
  generalize (a - h).natAbs * (a - h).natAbs = C at *
  generalize (b + h).natAbs * (b + h).natAbs = D at *
  rcases Int.decEq h 0 with h0 | h0
  · have hq := sq_pos h0 r1 r2 hp hn
    generalize h * (h + r) = q at *
    exact ⟨_, wide_drop (A + B) (C + D) (by unfold M128; omega) (by omega), by unfold M128; omega, .inr ⟨h0, by omega⟩⟩
  · subst h0
    rw [Int.zero_mul] at hd
    exact ⟨_, wide_drop (A + B) (C + D) (by unfold M128; omega) (by omega), by unfold M128; omega, .inl ⟨rfl, by omega⟩⟩
theorem wide_ne {n : Nat} (h : n ≠ 0) (hn : n < M128) : ¬ ((wideN n).hi = 0 ∧ (wideN n).lo = 0) := by
  unfold M128 at hn
  simp only [wideN]
  omega
/-- What the sum of the squares loses, and the error's number. -/
def gainT (v wr f me peer rest told : Int) : W × Int :=
  if (balT v wr f me peer rest told).2.2 = 0 then
    ((dropW (sqL [(endsT v wr f me peer rest told).1, (endsT v wr f me peer rest told).2.1]) (sqL [(endsT v wr f me peer rest told).1 + (balT v wr f me peer rest told).2.1, (endsT v wr f me peer rest told).2.1 - (balT v wr f me peer rest told).2.1])).1, 0)
  else (zeroW, (balT v wr f me peer rest told).2.2)
theorem gain_cases (v wr f me peer rest told : Int) :
    (∃ e, e ≠ 0 ∧ balT v wr f me peer rest told = (⟨0, 0, 0⟩, 0, e) ∧ gainT v wr f me peer rest told = (zeroW, e)) ∨
    (∃ v2 w2 f2 n x y, balT v wr f me peer rest told = (⟨v2, w2, f2⟩, n, 0) ∧ endsT v wr f me peer rest told = (x, y, 0) ∧ endsT v2 w2 f2 me peer rest told = (x + n, y - n, 0) ∧ n = (y - x).tdiv 2 ∧ (n = 0 → v2 = v ∧ w2 = wr ∧ f2 = f) ∧ (n ≠ 0 → v2 = v + 1 ∧ w2 = me) ∧
      gainT v wr f me peer rest told = ((dropW (sqL [x, y]) (sqL [x + n, y - n])).1, 0) ∧ flowsB x = true ∧ flowsB y = true ∧ flowsB (x + n) = true ∧ flowsB (y - n) = true) := by
  obtain ⟨⟨⟨v2, w2, f2⟩, n, e⟩, hb⟩ : ∃ t, balT v wr f me peer rest told = t := ⟨_, rfl⟩
  by_cases he : e = 0
  · subst he
    obtain ⟨x, y, h1, h2, h3, h4, h5⟩ := bal_ok hb
    obtain ⟨fx, fy⟩ := ends_fits h1
    obtain ⟨gx, gy⟩ := ends_fits h2
    exact .inr ⟨v2, w2, f2, n, x, y, hb, h1, h2, h3, h4, h5, by unfold gainT; rw [hb, h1]; rfl, fx, fy, gx, gy⟩
  · have := balT_err (v := v) (wr := wr) (f := f) (me := me) (peer := peer) (rest := rest) (told := told) (by rw [hb]; exact he)
    rw [hb] at this
    simp only [] at this
    obtain ⟨h1, rfl⟩ := this
    rw [h1] at hb
    exact .inl ⟨e, he, hb, by unfold gainT; rw [hb]; exact if_neg he⟩
set_option maxRecDepth 100000 in
set_option maxHeartbeats 4000000 in
theorem gain_any (v wr f me peer rest told : Int) (w : World) :
    Calls Try.prog 15 #[.int .i64 me, .int .i64 peer, .agg #[.int .i64 v, .int .i64 wr, .int .i64 f], .int .i64 rest, .int .i64 told] w fun e w' => e = .returned (.tuple #[.agg #[.int .u64 (gainT v wr f me peer rest told).1.hi, .int .u64 (gainT v wr f me peer rest told).1.lo], .int .i64 (gainT v wr f me peer rest told).2]) ∧ Below w.heap.size w w' := by
  have c1 := fun w => bal_any v wr f me peer rest told w
  rcases gain_cases v wr f me peer rest told with ⟨e, he, hb, hg⟩ | ⟨v2, w2, f2, n, x, y, hb, h1, h2, hn, _, _, hg, fx, fy, gx, gy⟩
  · rw [hb] at c1
    rw [hg]
    have C1 := Lib.hid c1
    clear c1 hb hg
    go_enter Try.func15, Try.ntmps15
    go_wp2_with (fail)
    refine (C1.out _).mono ?_; rintro e w1 ⟨rfl, hb1⟩; obtain ⟨hc1, hf1⟩ := bcell hb1; have hz1 := hb1.size; (try simp at hz1); have hz1_0 : w.heap.size < w1.heap.size := (by omega); have hz1_1 : w.heap.size + 1 < w1.heap.size := (by omega)
    go_wp2
    refine bodyPost_ret (v := .tuple #[.agg #[.int .u64 0, .int .u64 0], .int .i64 e]) (by simp [results, Try.results15, go_sem, *]) rfl ⟨rfl, (by repeat (first | with_reducible refine Below.setCell ?_ (by first | (simp; done) | (simp; omega) | omega) _ | with_reducible refine Below.alloc ?_ (by first | (simp; done) | (simp; omega) | omega) _ | with_reducible refine Below.drew ?_ | with_reducible exact Below.refl _ _ | with_reducible refine Below.trans ?_ (Below.mono hb1 (by first | (simp; done) | (simp; omega) | omega))))⟩
  · have c2 := fun w => ends_any v wr f me peer rest told w
    have c3 := fun w => ends_any v2 w2 f2 me peer rest told w
    rw [hb] at c1
    rw [h1] at c2
    rw [h2] at c3
    rw [hg]
    generalize x + n = x' at *
    generalize y - n = y' at *
    obtain ⟨x1, x2⟩ := flowsB_def.1 fx; obtain ⟨y1, y2⟩ := flowsB_def.1 fy
    obtain ⟨x3, x4⟩ := flowsB_def.1 gx; obtain ⟨y3, y4⟩ := flowsB_def.1 gy
    have c4 := fun b0 c w hr => squares_any (some ⟨b0, 0, none⟩) 2 c [x, y] w rfl hr (by intro z hz; simp at hz; omega) (by decide)
    have c5 := fun b0 c w hr => squares_any (some ⟨b0, 0, none⟩) 2 c [x', y'] w rfl hr (by intro z hz; simp at hz; omega) (by decide)
    have k1 := sqL_ok [x, y]; have k2 := sqL_ok [x', y']
    generalize sqL [x, y] = p at *
    generalize sqL [x', y'] = q at *
    obtain ⟨ph, pl⟩ := p; obtain ⟨qh, ql⟩ := q
    have c6 := fun w => wdrop_any ph pl qh ql w k1.1 k1.2 k2.1 k2.2
    generalize dropW ⟨ph, pl⟩ ⟨qh, ql⟩ = r at *
    obtain ⟨⟨rh, rl⟩, rb⟩ := r
    have C1 := Lib.hid c1; have C2 := Lib.hid c2; have C3 := Lib.hid c3; have C4 := Lib.hid c4; have C5 := Lib.hid c5; have C6 := Lib.hid c6
    clear c1 c2 c3 c4 c5 c6 hb hg h1 h2 hn fx fy gx gy x1 x2 x3 x4 y1 y2 y3 y4 k1 k2
    go_enter Try.func15, Try.ntmps15
    go_wp2_with (fail)
    refine (C1.out _).mono ?_; rintro e w1 ⟨rfl, hb1⟩; obtain ⟨hc1, hf1⟩ := bcell hb1; have hz1 := hb1.size; (try simp at hz1); have hz1_0 : w.heap.size < w1.heap.size := (by omega); have hz1_0_1 : w.heap.size < w1.heap.size + 1 := (by omega); have hz1_0_2 : w.heap.size < w1.heap.size + 1 + 1 := (by omega); have hz1_0_3 : w.heap.size < w1.heap.size + 1 + 1 + 1 := (by omega); have hz1_1 : w.heap.size + 1 < w1.heap.size := (by omega); have hz1_1_1 : w.heap.size + 1 < w1.heap.size + 1 := (by omega); have hz1_1_2 : w.heap.size + 1 < w1.heap.size + 1 + 1 := (by omega); have hz1_1_3 : w.heap.size + 1 < w1.heap.size + 1 + 1 + 1 := (by omega)
    go_wp2_with (fail)
    refine (C2.out _).mono ?_; rintro e w2 ⟨rfl, hb2⟩; obtain ⟨hc2, hf2⟩ := bcell hb2; have hz2 := hb2.size; (try simp at hz2); have hz2_0 : w.heap.size < w2.heap.size := (by omega); have hz2_0_1 : w.heap.size < w2.heap.size + 1 := (by omega); have hz2_0_2 : w.heap.size < w2.heap.size + 1 + 1 := (by omega); have hz2_0_3 : w.heap.size < w2.heap.size + 1 + 1 + 1 := (by omega); have hz2_1 : w.heap.size + 1 < w2.heap.size := (by omega); have hz2_1_1 : w.heap.size + 1 < w2.heap.size + 1 := (by omega); have hz2_1_2 : w.heap.size + 1 < w2.heap.size + 1 + 1 := (by omega); have hz2_1_3 : w.heap.size + 1 < w2.heap.size + 1 + 1 + 1 := (by omega); have hz2_2 : w1.heap.size < w2.heap.size := (by omega)
    go_wp2_with (fail)
    refine (C3.out _).mono ?_; rintro e w3 ⟨rfl, hb3⟩; obtain ⟨hc3, hf3⟩ := bcell hb3; have hz3 := hb3.size; (try simp at hz3); have hz3_0 : w.heap.size < w3.heap.size := (by omega); have hz3_0_1 : w.heap.size < w3.heap.size + 1 := (by omega); have hz3_0_2 : w.heap.size < w3.heap.size + 1 + 1 := (by omega); have hz3_0_3 : w.heap.size < w3.heap.size + 1 + 1 + 1 := (by omega); have hz3_1 : w.heap.size + 1 < w3.heap.size := (by omega); have hz3_1_1 : w.heap.size + 1 < w3.heap.size + 1 := (by omega); have hz3_1_2 : w.heap.size + 1 < w3.heap.size + 1 + 1 := (by omega); have hz3_1_3 : w.heap.size + 1 < w3.heap.size + 1 + 1 + 1 := (by omega); have hz3_2 : w1.heap.size < w3.heap.size := (by omega)
    go_wp2_with (fail)
    refine (C4.out _ _ _ (reads2 (by go_simp) (by go_simp) (by simp))).mono ?_
    rintro e w4 ⟨rfl, hb4⟩
    obtain ⟨hc4, hf4⟩ := bcell hb4; have hz4 := hb4.size; (try simp at hz4); have hz4_0 : w.heap.size + 1 < w4.heap.size := (by omega); have hz4_1 : w.heap.size < w4.heap.size := (by omega)
    go_wp2_with (fail)
    refine (C5.out _ _ _ (reads2 (by go_simp) (by go_simp) (by simp))).mono ?_
    rintro e w5 ⟨rfl, hb5⟩
    obtain ⟨hc5, hf5⟩ := bcell hb5; have hz5 := hb5.size; (try simp at hz5); have hz5_0 : w.heap.size + 1 < w5.heap.size := (by omega); have hz5_1 : w.heap.size < w5.heap.size := (by omega)
    go_wp2_with (fail)
    refine (C6.out _).mono ?_; rintro e w6 ⟨rfl, hb6⟩; obtain ⟨hc6, hf6⟩ := bcell hb6; have hz6 := hb6.size; (try simp at hz6); have hz6_0 : w.heap.size < w6.heap.size := (by omega); have hz6_0_1 : w.heap.size < w6.heap.size + 1 := (by omega); have hz6_0_2 : w.heap.size < w6.heap.size + 1 + 1 := (by omega); have hz6_0_3 : w.heap.size < w6.heap.size + 1 + 1 + 1 := (by omega); have hz6_1 : w.heap.size + 1 < w6.heap.size := (by omega); have hz6_1_1 : w.heap.size + 1 < w6.heap.size + 1 := (by omega); have hz6_1_2 : w.heap.size + 1 < w6.heap.size + 1 + 1 := (by omega); have hz6_1_3 : w.heap.size + 1 < w6.heap.size + 1 + 1 + 1 := (by omega)
    go_wp2
    refine bodyPost_ret (v := .tuple #[.agg #[.int .u64 rh, .int .u64 rl], .int .i64 0]) (by simp [results, Try.results15, go_sem, *]) rfl ⟨rfl, (by repeat (first | with_reducible refine Below.setCell ?_ (by first | (simp; done) | (simp; omega) | omega) _ | with_reducible refine Below.alloc ?_ (by first | (simp; done) | (simp; omega) | omega) _ | with_reducible refine Below.drew ?_ | with_reducible exact Below.refl _ _ | with_reducible refine Below.trans ?_ (Below.mono hb6 (by first | (simp; done) | (simp; omega) | omega)) | with_reducible refine Below.trans ?_ (Below.mono hb5 (by first | (simp; done) | (simp; omega) | omega)) | with_reducible refine Below.trans ?_ (Below.mono hb4 (by first | (simp; done) | (simp; omega) | omega)) | with_reducible refine Below.trans ?_ (Below.mono hb3 (by first | (simp; done) | (simp; omega) | omega)) | with_reducible refine Below.trans ?_ (Below.mono hb2 (by first | (simp; done) | (simp; omega) | omega)) | with_reducible refine Below.trans ?_ (Below.mono hb1 (by first | (simp; done) | (simp; omega) | omega))))⟩
set_option maxRecDepth 100000 in
set_option maxHeartbeats 4000000 in
theorem rgain_any (v wr f me peer rest told : Int) (w : World) :
    Calls Try.prog 16 #[.int .i64 me, .int .i64 peer, .agg #[.int .i64 v, .int .i64 wr, .int .i64 f], .int .i64 rest, .int .i64 told] w fun e w' => e = .returned (.tuple #[.agg #[.int .u64 (gainT v wr f me peer rest told).1.hi, .int .u64 (gainT v wr f me peer rest told).1.lo], .int .i64 (gainT v wr f me peer rest told).2]) ∧ Below w.heap.size w w' := by
  have c1 := fun w => rbal_any v wr f me peer rest told w
  rcases gain_cases v wr f me peer rest told with ⟨e, he, hb, hg⟩ | ⟨v2, w2, f2, n, x, y, hb, h1, h2, hn, _, _, hg, fx, fy, gx, gy⟩
  · rw [hb] at c1
    rw [hg]
    have C1 := Lib.hid c1
    clear c1 hb hg
    go_enter Try.func16, Try.ntmps16
    go_wp2_with (fail)
    refine (C1.out _).mono ?_; rintro e w1 ⟨rfl, hb1⟩; obtain ⟨hc1, hf1⟩ := bcell hb1; have hz1 := hb1.size; (try simp at hz1); have hz1_0 : w.heap.size < w1.heap.size := (by omega); have hz1_1 : w.heap.size + 1 < w1.heap.size := (by omega)
    go_wp2
    refine bodyPost_ret (v := .tuple #[.agg #[.int .u64 0, .int .u64 0], .int .i64 e]) (by simp [results, Try.results16, go_sem, *]) rfl ⟨rfl, (by repeat (first | with_reducible refine Below.setCell ?_ (by first | (simp; done) | (simp; omega) | omega) _ | with_reducible refine Below.alloc ?_ (by first | (simp; done) | (simp; omega) | omega) _ | with_reducible refine Below.drew ?_ | with_reducible exact Below.refl _ _ | with_reducible refine Below.trans ?_ (Below.mono hb1 (by first | (simp; done) | (simp; omega) | omega))))⟩
  · have c2 := fun w => rends_any v wr f me peer rest told w
    have c3 := fun w => rends_any v2 w2 f2 me peer rest told w
    rw [hb] at c1
    rw [h1] at c2
    rw [h2] at c3
    rw [hg]
    generalize x + n = x' at *
    generalize y - n = y' at *
    obtain ⟨x1, x2⟩ := flowsB_def.1 fx; obtain ⟨y1, y2⟩ := flowsB_def.1 fy
    obtain ⟨x3, x4⟩ := flowsB_def.1 gx; obtain ⟨y3, y4⟩ := flowsB_def.1 gy
    have c4 := fun b0 c w hr => rsquares_any (some ⟨b0, 0, none⟩) 2 c [x, y] w rfl hr (by intro z hz; simp at hz; omega) (by decide)
    have c5 := fun b0 c w hr => rsquares_any (some ⟨b0, 0, none⟩) 2 c [x', y'] w rfl hr (by intro z hz; simp at hz; omega) (by decide)
    have k1 := sqL_ok [x, y]; have k2 := sqL_ok [x', y']
    generalize sqL [x, y] = p at *
    generalize sqL [x', y'] = q at *
    obtain ⟨ph, pl⟩ := p; obtain ⟨qh, ql⟩ := q
    have c6 := fun w => wrdrop_any ph pl qh ql w k1.1 k1.2 k2.1 k2.2
    generalize dropW ⟨ph, pl⟩ ⟨qh, ql⟩ = r at *
    obtain ⟨⟨rh, rl⟩, rb⟩ := r
    have C1 := Lib.hid c1; have C2 := Lib.hid c2; have C3 := Lib.hid c3; have C4 := Lib.hid c4; have C5 := Lib.hid c5; have C6 := Lib.hid c6
    clear c1 c2 c3 c4 c5 c6 hb hg h1 h2 hn fx fy gx gy x1 x2 x3 x4 y1 y2 y3 y4 k1 k2
    go_enter Try.func16, Try.ntmps16
    go_wp2_with (fail)
    refine (C1.out _).mono ?_; rintro e w1 ⟨rfl, hb1⟩; obtain ⟨hc1, hf1⟩ := bcell hb1; have hz1 := hb1.size; (try simp at hz1); have hz1_0 : w.heap.size < w1.heap.size := (by omega); have hz1_0_1 : w.heap.size < w1.heap.size + 1 := (by omega); have hz1_0_2 : w.heap.size < w1.heap.size + 1 + 1 := (by omega); have hz1_0_3 : w.heap.size < w1.heap.size + 1 + 1 + 1 := (by omega); have hz1_1 : w.heap.size + 1 < w1.heap.size := (by omega); have hz1_1_1 : w.heap.size + 1 < w1.heap.size + 1 := (by omega); have hz1_1_2 : w.heap.size + 1 < w1.heap.size + 1 + 1 := (by omega); have hz1_1_3 : w.heap.size + 1 < w1.heap.size + 1 + 1 + 1 := (by omega)
    go_wp2_with (fail)
    refine (C2.out _).mono ?_; rintro e w2 ⟨rfl, hb2⟩; obtain ⟨hc2, hf2⟩ := bcell hb2; have hz2 := hb2.size; (try simp at hz2); have hz2_0 : w.heap.size < w2.heap.size := (by omega); have hz2_0_1 : w.heap.size < w2.heap.size + 1 := (by omega); have hz2_0_2 : w.heap.size < w2.heap.size + 1 + 1 := (by omega); have hz2_0_3 : w.heap.size < w2.heap.size + 1 + 1 + 1 := (by omega); have hz2_1 : w.heap.size + 1 < w2.heap.size := (by omega); have hz2_1_1 : w.heap.size + 1 < w2.heap.size + 1 := (by omega); have hz2_1_2 : w.heap.size + 1 < w2.heap.size + 1 + 1 := (by omega); have hz2_1_3 : w.heap.size + 1 < w2.heap.size + 1 + 1 + 1 := (by omega); have hz2_2 : w1.heap.size < w2.heap.size := (by omega)
    go_wp2_with (fail)
    refine (C3.out _).mono ?_; rintro e w3 ⟨rfl, hb3⟩; obtain ⟨hc3, hf3⟩ := bcell hb3; have hz3 := hb3.size; (try simp at hz3); have hz3_0 : w.heap.size < w3.heap.size := (by omega); have hz3_0_1 : w.heap.size < w3.heap.size + 1 := (by omega); have hz3_0_2 : w.heap.size < w3.heap.size + 1 + 1 := (by omega); have hz3_0_3 : w.heap.size < w3.heap.size + 1 + 1 + 1 := (by omega); have hz3_1 : w.heap.size + 1 < w3.heap.size := (by omega); have hz3_1_1 : w.heap.size + 1 < w3.heap.size + 1 := (by omega); have hz3_1_2 : w.heap.size + 1 < w3.heap.size + 1 + 1 := (by omega); have hz3_1_3 : w.heap.size + 1 < w3.heap.size + 1 + 1 + 1 := (by omega); have hz3_2 : w1.heap.size < w3.heap.size := (by omega)
    go_wp2_with (fail)
    refine (C4.out _ _ _ (reads2 (by go_simp) (by go_simp) (by simp))).mono ?_
    rintro e w4 ⟨rfl, hb4⟩
    obtain ⟨hc4, hf4⟩ := bcell hb4; have hz4 := hb4.size; (try simp at hz4); have hz4_0 : w.heap.size + 1 < w4.heap.size := (by omega); have hz4_1 : w.heap.size < w4.heap.size := (by omega)
    go_wp2_with (fail)
    refine (C5.out _ _ _ (reads2 (by go_simp) (by go_simp) (by simp))).mono ?_
    rintro e w5 ⟨rfl, hb5⟩
    obtain ⟨hc5, hf5⟩ := bcell hb5; have hz5 := hb5.size; (try simp at hz5); have hz5_0 : w.heap.size + 1 < w5.heap.size := (by omega); have hz5_1 : w.heap.size < w5.heap.size := (by omega)
    go_wp2_with (fail)
    refine (C6.out _).mono ?_; rintro e w6 ⟨rfl, hb6⟩; obtain ⟨hc6, hf6⟩ := bcell hb6; have hz6 := hb6.size; (try simp at hz6); have hz6_0 : w.heap.size < w6.heap.size := (by omega); have hz6_0_1 : w.heap.size < w6.heap.size + 1 := (by omega); have hz6_0_2 : w.heap.size < w6.heap.size + 1 + 1 := (by omega); have hz6_0_3 : w.heap.size < w6.heap.size + 1 + 1 + 1 := (by omega); have hz6_1 : w.heap.size + 1 < w6.heap.size := (by omega); have hz6_1_1 : w.heap.size + 1 < w6.heap.size + 1 := (by omega); have hz6_1_2 : w.heap.size + 1 < w6.heap.size + 1 + 1 := (by omega); have hz6_1_3 : w.heap.size + 1 < w6.heap.size + 1 + 1 + 1 := (by omega)
    go_wp2
    refine bodyPost_ret (v := .tuple #[.agg #[.int .u64 rh, .int .u64 rl], .int .i64 0]) (by simp [results, Try.results16, go_sem, *]) rfl ⟨rfl, (by repeat (first | with_reducible refine Below.setCell ?_ (by first | (simp; done) | (simp; omega) | omega) _ | with_reducible refine Below.alloc ?_ (by first | (simp; done) | (simp; omega) | omega) _ | with_reducible refine Below.drew ?_ | with_reducible exact Below.refl _ _ | with_reducible refine Below.trans ?_ (Below.mono hb6 (by first | (simp; done) | (simp; omega) | omega)) | with_reducible refine Below.trans ?_ (Below.mono hb5 (by first | (simp; done) | (simp; omega) | omega)) | with_reducible refine Below.trans ?_ (Below.mono hb4 (by first | (simp; done) | (simp; omega) | omega)) | with_reducible refine Below.trans ?_ (Below.mono hb3 (by first | (simp; done) | (simp; omega) | omega)) | with_reducible refine Below.trans ?_ (Below.mono hb2 (by first | (simp; done) | (simp; omega) | omega)) | with_reducible refine Below.trans ?_ (Below.mono hb1 (by first | (simp; done) | (simp; omega) | omega))))⟩
end Go.Proofs.Ytlcbfabdfpdcgaa
