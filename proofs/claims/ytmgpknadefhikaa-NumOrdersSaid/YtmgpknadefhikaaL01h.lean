/- Whatever two numbers: eddylaw01's NumHalves returns true. No conditions. -/
import Derived.Test.YtmgpknadefhikaaAwk
namespace Go.Proofs.Ytmgpknadefhikaa
open Go.ChangeShapes Go.WideShapes Go.ChangeAt Go.RowKit Go.Joins
set_option linter.unusedVariables false
theorem wide_less (a b : Nat) (ha : a < M128) (hb : b < M128) : lessW (wideN a) (wideN b) = decide (a < b) := by
  unfold M128 at *
  rw [Bool.eq_iff_iff]
  simp only [lessW, Bool.or_eq_true, Bool.and_eq_true, decide_eq_true_eq]
  simp only [wideN]
  omega
theorem wide_drop (a b : Nat) (ha : a < M128) (h : b ≤ a) : dropW (wideN a) (wideN b) = (wideN (a - b), true) := by
  unfold dropW
  rw [wide_less a b ha (by omega), decide_eq_false (by omega)]
  simp only [Bool.false_eq_true, if_false, Prod.mk.injEq, and_true]
  unfold M128 at ha
  by_cases hc : (wideN a).lo < (wideN b).lo
  · rw [show bor (wideN a).lo (wideN b).lo = 1 from if_pos hc]
    simp only [wideN, W.mk.injEq] at hc ⊢
    omega
  · rw [show bor (wideN a).lo (wideN b).lo = 0 from if_neg hc]
    simp only [wideN, W.mk.injEq] at hc ⊢
    omega
theorem sqL2 (x y : Int) (hx0 : -9223372036854775808 ≤ x) (hx : x < 9223372036854775808) (hy0 : -9223372036854775808 ≤ y) (hy : y < 9223372036854775808) : sqL [x, y] = wideN (x.natAbs * x.natAbs + y.natAbs * y.natAbs) := by
  have h1 : x.natAbs * x.natAbs ≤ 9223372036854775808 * 9223372036854775808 := Nat.mul_le_mul (by omega) (by omega)
  have h2 : y.natAbs * y.natAbs ≤ 9223372036854775808 * 9223372036854775808 := Nat.mul_le_mul (by omega) (by omega)
  show addW (addW zeroW (sqOne x)) (sqOne y) = _
  rw [show zeroW = wideN 0 from rfl]
  unfold sqOne
  generalize x.natAbs * x.natAbs = p at *
  generalize y.natAbs * y.natAbs = q at *
  rw [wide_add 0 p (by decide) (by unfold M128; omega), Nat.zero_add, Nat.mod_eq_of_lt (by unfold M128; omega), wide_add p q (by unfold M128; omega) (by unfold M128; omega), Nat.mod_eq_of_lt (by unfold M128; omega)]
theorem half_facts {a b : Int} (a1 : -2147483647 ≤ a) (a2 : a ≤ 2147483647) (b1 : -2147483647 ≤ b) (b2 : b ≤ 2147483647) :
    ∃ h r : Int, (a - b).tdiv 2 = h ∧ (b - a).tdiv 2 = -h ∧ a - b = 2 * h + r ∧ -1 ≤ r ∧ r ≤ 1 ∧ (0 < h → 0 ≤ r) ∧ (h < 0 → r ≤ 0) := by
  have e1 := Int.tdiv_eq_ediv (a := a - b) (b := 2)
  have e2 := Int.tdiv_eq_ediv (a := b - a) (b := 2)
  have hs : Int.sign 2 = 1 := rfl
  rw [hs] at e1 e2
  refine ⟨(a - b).tdiv 2, a - b - 2 * (a - b).tdiv 2, rfl, ?_, by omega, ?_⟩
  · rw [e1, e2]; split <;> split <;> omega
  · rw [e1]; split <;> omega
theorem sq_diff (a b h r : Int) (e : a - b = 2 * h + r) : a * a + b * b - ((a - h) * (a - h) + (b + h) * (b + h)) = 2 * (h * (h + r)) := by
  obtain rfl : a = b + 2 * h + r := by omega
  grind
theorem sq_pos {h r : Int} (h0 : h ≠ 0) (r1 : -1 ≤ r) (r2 : r ≤ 1) (hp : 0 < h → 0 ≤ r) (hn : h < 0 → r ≤ 0) : 1 ≤ h * (h + r) := by
  rcases Int.lt_or_lt_of_ne h0 with hh | hh
  · have := Int.mul_pos_of_neg_of_neg hh (show h + r < 0 by omega); omega
  · have := Int.mul_pos hh (show 0 < h + r by omega); omega
theorem natAbs_sq (x : Int) : ((x.natAbs * x.natAbs : Nat) : Int) = x * x := Int.natAbs_mul_self
/-- What halving takes from the squares. -/
theorem half_less {a b h r : Int} (a1 : -2147483647 ≤ a) (a2 : a ≤ 2147483647) (b1 : -2147483647 ≤ b) (b2 : b ≤ 2147483647) (e : a - b = 2 * h + r) (r1 : -1 ≤ r) (r2 : r ≤ 1) (hp : 0 < h → 0 ≤ r) (hn : h < 0 → r ≤ 0) :
    ∃ n : Nat, dropW (sqL [a, b]) (sqL [a - h, b + h]) = (wideN n, true) ∧ n < M128 ∧ ((h = 0 ∧ n = 0) ∨ (h ≠ 0 ∧ 2 ≤ n)) := by
  rw [sqL2 a b (by omega) (by omega) (by omega) (by omega), sqL2 (a - h) (b + h) (by omega) (by omega) (by omega) (by omega)]
  have hd := sq_diff a b h r e
  have i1 := natAbs_sq a; have i2 := natAbs_sq b; have i3 := natAbs_sq (a - h); have i4 := natAbs_sq (b + h)
  rw [← i1, ← i2, ← i3, ← i4] at hd
  have u1 : a.natAbs * a.natAbs ≤ 2147483647 * 2147483647 := Nat.mul_le_mul (by omega) (by omega)
  have u2 : b.natAbs * b.natAbs ≤ 2147483647 * 2147483647 := Nat.mul_le_mul (by omega) (by omega)
  clear i1 i2 i3 i4
  generalize a.natAbs * a.natAbs = A at *
  generalize b.natAbs * b.natAbs = B at *
  generalize (a - h).natAbs * (a - h).natAbs = C at *
  generalize (b + h).natAbs * (b + h).natAbs = D at *
  rcases Int.decEq h 0 with h0 | h0
  · have hq := sq_pos h0 r1 r2 hp hn
    generalize h * (h + r) = q at *
    exact ⟨_, wide_drop (A + B) (C + D) (by unfold M128; omega) (by omega), by unfold M128; omega, .inr ⟨h0, by omega⟩⟩
  · subst h0
    rw [Int.zero_mul] at hd
    exact ⟨_, wide_drop (A + B) (C + D) (by unfold M128; omega) (by omega), by unfold M128; omega, .inl ⟨rfl, by omega⟩⟩
theorem wide_ne {n : Nat} (h : n ≠ 0) (hn : n < M128) : ¬ ((wideN n).hi = 0 ∧ (wideN n).lo = 0) := by
  unfold M128 at hn
  simp only [wideN]
  omega
set_option maxHeartbeats 4000000 in
theorem numHalves_out (a b : Int) (w : World) (h : (flowsB a && flowsB b) = false) :
    Calls Try.prog 7 #[.int .i64 a, .int .i64 b] w fun e w' => e = .returned (.bool true) ∧ Below w.heap.size w w' := by
  have c1 := fun w => nhalf_any a b w
  have e1 : halfN a b = (0, 10) := by unfold halfN chk; rw [h]; simp
  rw [e1] at c1
  have C1 := Lib.hid c1
  clear c1 e1
  have hc : (a < -2147483647) ∨ (¬ a < -2147483647 ∧ 2147483647 < a) ∨ (¬ a < -2147483647 ∧ ¬ 2147483647 < a ∧ b < -2147483647) ∨ (¬ a < -2147483647 ∧ ¬ 2147483647 < a ∧ ¬ b < -2147483647 ∧ 2147483647 < b) := by
    simp [flowsB] at h; omega
  clear h
  rcases hc with h | ⟨h1, h2⟩ | ⟨h1, h2, h3⟩ | ⟨h1, h2, h3, h4⟩
  all_goals
    go_enter Try.func7, Try.ntmps7
    go_wp2_with (fail)
    refine (C1.out _).mono ?_; rintro e w' ⟨rfl, rfl⟩
    go_wp2_with (fail)
    refine (awake_any _).mono ?_; rintro e w1 ⟨rfl, hb1⟩; obtain ⟨hc1, hf1⟩ := bcell hb1; have hz1 := hb1.size; (try simp at hz1)
    go_wp2
    go_ret
    exact ⟨rfl, (by repeat (first | with_reducible refine Below.setCell ?_ (by first | (simp; done) | (simp; omega) | omega) _ | with_reducible refine Below.alloc ?_ (by first | (simp; done) | (simp; omega) | omega) _ | with_reducible refine Below.drew ?_ | with_reducible exact Below.refl _ _ | with_reducible refine Below.trans ?_ (Below.mono hb1 (by first | (simp; done) | (simp; omega) | omega))))⟩
set_option maxRecDepth 100000 in
set_option maxHeartbeats 4000000 in
theorem numHalves_in (a b : Int) (w : World) (ha : flowsB a = true) (hb : flowsB b = true) :
    Calls Try.prog 7 #[.int .i64 a, .int .i64 b] w fun e w' => e = .returned (.bool true) ∧ Below w.heap.size w w' := by
  obtain ⟨a1, a2⟩ := flowsB_def.1 ha; obtain ⟨b1, b2⟩ := flowsB_def.1 hb
  obtain ⟨h, r, e1, e2, e3, r1, r2, hp, hn⟩ := half_facts a1 a2 b1 b2
  obtain ⟨n, hd, hnM, hz⟩ := half_less a1 a2 b1 b2 e3 r1 r2 hp hn
  have hh1 : flowsB h = true := by rw [flowsB_def]; omega
  have hh2 : flowsB (-h) = true := by rw [flowsB_def]; omega
  obtain ⟨x, hx⟩ : ∃ x, x = a - h := ⟨_, rfl⟩
  obtain ⟨y, hy⟩ : ∃ y, y = b + h := ⟨_, rfl⟩
  have hx1 : flowsB x = true := by rw [flowsB_def]; omega
  have hy1 : flowsB y = true := by rw [flowsB_def]; omega
  have c1 := fun w => nhalf_any a b w
  have c2 := fun w => nhalf_any b a w
  have c3 := fun w => nsub_any a h w
  have c4 := fun w => nadd_any b h w
  rw [show halfN a b = (h, 0) by unfold halfN chk; rw [e1, ha, hb, hh1]; rfl] at c1
  rw [show halfN b a = (-h, 0) by unfold halfN chk; rw [e2, ha, hb, hh2]; rfl] at c2
  rw [show subN a h = (x, 0) by unfold subN chk; rw [← hx, ha, hh1, hx1]; rfl] at c3
  rw [show addN b h = (y, 0) by unfold addN chk; rw [← hy, hb, hh1, hy1]; rfl] at c4
  rw [← hx, ← hy] at hd
  have c5 := fun b0 c w hr => squares_any (some ⟨b0, 0, none⟩) 2 c [a, b] w rfl hr (by intro z hz; simp at hz; omega) (by decide)
  have c6 := fun b0 c w hr => squares_any (some ⟨b0, 0, none⟩) 2 c [x, y] w rfl hr (by intro z hz; simp at hz; omega) (by decide)
  have k1 := sqL_ok [a, b]; have k2 := sqL_ok [x, y]
  generalize sqL [a, b] = p at *
  generalize sqL [x, y] = q at *
  obtain ⟨ph, pl⟩ := p; obtain ⟨qh, ql⟩ := q
  have c7 := fun w => wdrop_any ph pl qh ql w k1.1 k1.2 k2.1 k2.2
  have c8 := wless_any (wideN n).hi (wideN n).lo 0 2
  rw [hd] at c7
  have hl : lessW ⟨(wideN n).hi, (wideN n).lo⟩ ⟨0, 2⟩ = decide (n < 2) := wide_less n 2 hnM (by decide)
  rw [hl] at c8
  have hwx : x - y ≤ 1 := by omega
  have hwy : y - x ≤ 1 := by omega
  have hws : x + y = a + b := by omega
  have x1 : -2147483647 ≤ x := by omega
  have x2 : x ≤ 2147483647 := by omega
  have y1 : -2147483647 ≤ y := by omega
  have y2 : y ≤ 2147483647 := by omega
  have q1 : -2147483647 ≤ h := by omega
  have q2 : h ≤ 2147483647 := by omega
  clear hx hy e1 e2 e3 r1 r2 hp hn k1 k2 hd hl hx1 hy1 hh1 hh2 ha hb
  rcases hz with ⟨rfl, rfl⟩ | ⟨h0, h2⟩
  · rw [show wideN 0 = ⟨0, 0⟩ from rfl] at *
    have C1 := Lib.hid c1; have C2 := Lib.hid c2; have C3 := Lib.hid c3; have C4 := Lib.hid c4; have C5 := Lib.hid c5; have C6 := Lib.hid c6; have C7 := Lib.hid c7
    clear c1 c2 c3 c4 c5 c6 c7 c8
    go_enter Try.func7, Try.ntmps7
    go_wp2_with (fail)
    refine (C1.out _).mono ?_; rintro e w' ⟨rfl, rfl⟩
    go_wp2_with (fail)
    refine (C2.out _).mono ?_; rintro e w' ⟨rfl, rfl⟩
    go_wp2_with (fail)
    refine (C3.out _).mono ?_; rintro e w' ⟨rfl, rfl⟩
    go_wp2_with (fail)
    refine (C4.out _).mono ?_; rintro e w' ⟨rfl, rfl⟩
    go_wp2_with (fail)
    refine (C5.out _ _ _ (reads2 (by go_simp) (by go_simp) (by simp))).mono ?_
    rintro e w1 ⟨rfl, hb1⟩
    have hz1 := hb1.size; (try simp at hz1)
    go_wp2_with (fail)
    refine (C6.out _ _ _ (reads2 (by go_simp) (by go_simp) (by simp))).mono ?_
    rintro e w2 ⟨rfl, hb2⟩
    have hz2 := hb2.size; (try simp at hz2)
    go_wp2_with (fail)
    refine (C7.out _).mono ?_; rintro e w3 ⟨rfl, hb3⟩; obtain ⟨hc3, hf3⟩ := bcell hb3; have hz3 := hb3.size; (try simp at hz3)
    go_wp2_with (fail)
    refine (awake_any _).mono ?_; rintro e w4 ⟨rfl, hb4⟩; obtain ⟨hc4, hf4⟩ := bcell hb4; have hz4 := hb4.size; (try simp at hz4)
    go_wp2
    go_ret
    exact ⟨rfl, (by repeat (first | with_reducible refine Below.setCell ?_ (by first | (simp; done) | (simp; omega) | omega) _ | with_reducible refine Below.alloc ?_ (by first | (simp; done) | (simp; omega) | omega) _ | with_reducible refine Below.drew ?_ | with_reducible exact Below.refl _ _ | with_reducible refine Below.trans ?_ (Below.mono hb4 (by first | (simp; done) | (simp; omega) | omega)) | with_reducible refine Below.trans ?_ (Below.mono hb3 (by first | (simp; done) | (simp; omega) | omega)) | with_reducible refine Below.trans ?_ (Below.mono hb2 (by first | (simp; done) | (simp; omega) | omega)) | with_reducible refine Below.trans ?_ (Below.mono hb1 (by first | (simp; done) | (simp; omega) | omega))))⟩
  · have hne := wide_ne (n := n) (by omega) hnM
    rw [decide_eq_false (by omega : ¬ n < 2)] at c8
    generalize wideN n = l at *
    obtain ⟨lh, ll⟩ := l
    have hh0 : (h == 0) = false := beq_false_of_ne h0
    have C1 := Lib.hid c1; have C2 := Lib.hid c2; have C3 := Lib.hid c3; have C4 := Lib.hid c4; have C5 := Lib.hid c5; have C6 := Lib.hid c6; have C7 := Lib.hid c7; have C8 := Lib.hid c8
    have hl0 : (lh == 0) = false ∨ (lh = 0 ∧ (ll == 0) = false) := by
      cases e1 : (lh == 0) <;> cases e2 : (ll == 0) <;> simp_all
    clear c1 c2 c3 c4 c5 c6 c7 c8 hne hnM h2
    rcases hl0 with hl0 | ⟨rfl, hl0⟩
    all_goals
      go_enter Try.func7, Try.ntmps7
      go_wp2_with (fail)
      refine (C1.out _).mono ?_; rintro e w' ⟨rfl, rfl⟩
      go_wp2_with (fail)
      refine (C2.out _).mono ?_; rintro e w' ⟨rfl, rfl⟩
      go_wp2_with (fail)
      refine (C3.out _).mono ?_; rintro e w' ⟨rfl, rfl⟩
      go_wp2_with (fail)
      refine (C4.out _).mono ?_; rintro e w' ⟨rfl, rfl⟩
      go_wp2_with (fail)
      refine (C5.out _ _ _ (reads2 (by go_simp) (by go_simp) (by simp))).mono ?_
      rintro e w1 ⟨rfl, hb1⟩
      have hz1 := hb1.size; (try simp at hz1)
      go_wp2_with (fail)
      refine (C6.out _ _ _ (reads2 (by go_simp) (by go_simp) (by simp))).mono ?_
      rintro e w2 ⟨rfl, hb2⟩
      have hz2 := hb2.size; (try simp at hz2)
      go_wp2_with (fail)
      refine (C7.out _).mono ?_; rintro e w3 ⟨rfl, hb3⟩; obtain ⟨hc3, hf3⟩ := bcell hb3; have hz3 := hb3.size; (try simp at hz3)
      go_wp2_with (fail)
      refine (C8.out _).mono ?_; rintro e w5 ⟨rfl, hb5⟩; obtain ⟨hc5, hf5⟩ := bcell hb5; have hz5 := hb5.size; (try simp at hz5)
      go_wp2_with (fail)
      refine (awake_any _).mono ?_; rintro e w4 ⟨rfl, hb4⟩; obtain ⟨hc4, hf4⟩ := bcell hb4; have hz4 := hb4.size; (try simp at hz4)
      go_wp2
      go_ret
      exact ⟨rfl, (by repeat (first | with_reducible refine Below.setCell ?_ (by first | (simp; done) | (simp; omega) | omega) _ | with_reducible refine Below.alloc ?_ (by first | (simp; done) | (simp; omega) | omega) _ | with_reducible refine Below.drew ?_ | with_reducible exact Below.refl _ _ | with_reducible refine Below.trans ?_ (Below.mono hb4 (by first | (simp; done) | (simp; omega) | omega)) | with_reducible refine Below.trans ?_ (Below.mono hb5 (by first | (simp; done) | (simp; omega) | omega)) | with_reducible refine Below.trans ?_ (Below.mono hb3 (by first | (simp; done) | (simp; omega) | omega)) | with_reducible refine Below.trans ?_ (Below.mono hb2 (by first | (simp; done) | (simp; omega) | omega)) | with_reducible refine Below.trans ?_ (Below.mono hb1 (by first | (simp; done) | (simp; omega) | omega))))⟩
theorem numHalves_any (a b : Int) (w : World) :
    Calls Try.prog 7 #[.int .i64 a, .int .i64 b] w fun e w' => e = .returned (.bool true) ∧ Below w.heap.size w w' := by
  cases ha : flowsB a with
  | false => exact numHalves_out a b w (by rw [ha]; rfl)
  | true =>
    cases hb : flowsB b with
    | false => exact numHalves_out a b w (by rw [ha, hb]; rfl)
    | true => exact numHalves_in a b w ha hb
theorem numHalves_lifted (os : Os) (started : os.Started) (H : Type) (enc : TypeId × Value → H) :
    ReturnsInHanded {} Try.checked os 7 .any (Rows.numHalvesSpec.pre6 enc Try.prog Try.f7 Rows.numHalvesRow.domain false) (Rows.numHalvesSpec.post enc Try.prog Try.f7 false true false false) := by
  refine returnsInHanded_of_change_sized (C := Try.checked) own started (by kernel_rfl) Try.func7
    (ChangeSpec.witness6 (enc := enc) (C := Try.checked) false ⟨#[], #[.int .i64 0, .int .i64 0], []⟩ 8 (by kernel_rfl) (by kernel_rfl) (by kernel_rfl) (by kernel_rfl)) ?_
  intro W base args ds gs before hval hW _ hsz _
  have hW' := hW
  obtain ⟨p, q, hA, hV, rfl, hfz, hnd⟩ := hW
  obtain ⟨rfl, rfl⟩ := trodVars_none hV
  rw [Try.params7] at hA hval
  obtain ⟨v0, vs0, d0, ds0, p0, q0, hargs, rfl, rfl, h0, r0⟩ := trodAll_cons hA
  obtain ⟨v1, vs1, d1, ds1, p1, q1, rfl, rfl, rfl, h1, r1⟩ := trodAll_cons r0
  obtain ⟨rfl, rfl, rfl⟩ := trodAll_nil r1
  obtain rfl : args = #[v0, v1] := by cases args; simp_all
  obtain ⟨a, rfl, _, _, wa⟩ := open_int Try.underlying2 (hval 0 _ v0 rfl rfl) h0
  obtain ⟨b, rfl, _, _, wb⟩ := open_int Try.underlying2 (hval 1 _ v1 rfl rfl) h1
  refine (numHalves_any a b W).mono fun e W' ⟨he, hg⟩ => ?_
  subst he
  exact ⟨_, rfl, law_post laidOut rfl (by kernel_rfl) rfl Try.underlying4 rfl hW' hg⟩

theorem numHalves_holds : Rows.NumHalvesSaid :=
  OpenClaim.holds_of_wide 7 Try.f7 rfl rfl rfl rfl rfl rfl rfl ⟨rfl, rfl, rfl, rfl, rfl⟩ rfl rfl rfl rfl rfl (by kernel_rfl) Try.func7 (by kernel_rfl)
    (of_decide_eq_true (by kernel_rfl)) (by unfold Func.isWrapper; first | (rw [if_pos (by decide +kernel)]; kernel_rfl) | (rw [if_neg (by decide +kernel)]; exact ⟨rfl, rfl⟩))
    (fun os started H enc _ => numHalves_lifted os started H enc)

end Go.Proofs.Ytmgpknadefhikaa
