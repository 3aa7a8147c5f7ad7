/- Whatever the numbers and the register: eddylaw12's TradeAlone returns true. No conditions. -/
import Derived.Test.YtlcbfabdfpdcgaaL12a
import Derived.Test.YtlcbfabdfpdcgaaGain
namespace Go.Proofs.Ytlcbfabdfpdcgaa
open Go.ChangeShapes Go.WideShapes Go.ChangeAt Go.RowKit Go.Joins
set_option linter.unusedVariables false
theorem order_cases {x y c d : Int} (h1 : min x y ≤ min c d) (h2 : max c d ≤ max x y) (h3 : c + d = x + y) (hlo : x ≤ y → c ≤ d) (hhi : y ≤ x → d ≤ c) :
    (x < y ∧ ¬ y < x ∧ c < d ∧ ¬ d < c ∧ ¬ c < x ∧ ¬ d < x ∧ ¬ y < c ∧ ¬ y < d) ∨ (x < y ∧ ¬ y < x ∧ ¬ c < d ∧ ¬ d < c ∧ ¬ c < x ∧ ¬ d < x ∧ ¬ y < c ∧ ¬ y < d) ∨
    (¬ x < y ∧ ¬ y < x ∧ ¬ c < d ∧ ¬ d < c ∧ ¬ c < x ∧ ¬ d < x ∧ ¬ y < c ∧ ¬ y < d) ∨
    (¬ x < y ∧ y < x ∧ ¬ c < d ∧ ¬ d < c ∧ ¬ c < y ∧ ¬ d < y ∧ ¬ x < c ∧ ¬ x < d) ∨ (¬ x < y ∧ y < x ∧ ¬ c < d ∧ d < c ∧ ¬ c < y ∧ ¬ d < y ∧ ¬ x < c ∧ ¬ x < d) := by
  rcases Int.lt_trichotomy x y with h | h | h <;> rcases Int.lt_trichotomy c d with k | k | k
  all_goals first
    | (exfalso; omega)
    | (refine .inl ⟨?_, ?_, ?_, ?_, ?_, ?_, ?_, ?_⟩ <;> omega)
    | (refine .inr (.inl ⟨?_, ?_, ?_, ?_, ?_, ?_, ?_, ?_⟩) <;> omega)
    | (refine .inr (.inr (.inl ⟨?_, ?_, ?_, ?_, ?_, ?_, ?_, ?_⟩)) <;> omega)
    | (refine .inr (.inr (.inr (.inl ⟨?_, ?_, ?_, ?_, ?_, ?_, ?_, ?_⟩))) <;> omega)
    | (refine .inr (.inr (.inr (.inr ⟨?_, ?_, ?_, ?_, ?_, ?_, ?_, ?_⟩))) <;> omega)
set_option maxRecDepth 100000 in
set_option maxHeartbeats 8000000 in
theorem tradeAlone_any (me peer v wr f rest told : Int) (w : World) :
    Calls Try.prog 7 #[.int .i64 me, .int .i64 peer, .agg #[.int .i64 v, .int .i64 wr, .int .i64 f], .int .i64 rest, .int .i64 told] w fun e w' => e = .returned (.bool true) ∧ Below w.heap.size w w' := by
  have c1 := fun w => bal_any v wr f me peer rest told w
  rcases gain_cases v wr f me peer rest told with ⟨e, he, hb, hg⟩ | ⟨v2, w2, f2, n, x, y, hb, h1, h2, hn, hz, hnz, hg, fx, fy, gx, gy⟩
  · rw [hb] at c1
    have C1 := Lib.hid c1
    clear c1 hb hg
    go_enter Try.func7, Try.ntmps7
    go_wp2_with (fail)
    refine (C1.out _).mono ?_; rintro e w1 ⟨rfl, hb1⟩; obtain ⟨hc1, hf1⟩ := bcell hb1; have hz1 := hb1.size; (try simp at hz1); have hz1_0 : w.heap.size < w1.heap.size := (by omega); have hz1_0_1 : w.heap.size < w1.heap.size + 1 := (by omega); have hz1_0_2 : w.heap.size < w1.heap.size + 1 + 1 := (by omega); have hz1_0_3 : w.heap.size < w1.heap.size + 1 + 1 + 1 := (by omega)
    go_wp2_with (fail)
    refine (awake_any _).mono ?_; rintro e w5 ⟨rfl, hb5⟩; obtain ⟨hc5, hf5⟩ := bcell hb5; have hz5 := hb5.size; (try simp at hz5)
    go_wp2
    go_ret
    exact ⟨rfl, (by repeat (first | with_reducible refine Below.setCell ?_ (by first | (simp; done) | (simp; omega) | omega) _ | with_reducible refine Below.alloc ?_ (by first | (simp; done) | (simp; omega) | omega) _ | with_reducible refine Below.drew ?_ | with_reducible exact Below.refl _ _ | with_reducible refine Below.trans ?_ (Below.mono hb5 (by first | (simp; done) | (simp; omega) | omega)) | with_reducible refine Below.trans ?_ (Below.mono hb1 (by first | (simp; done) | (simp; omega) | omega))))⟩
  · have c2 := fun w => ends_any v wr f me peer rest told w
    have c3 := fun w => ends_any v2 w2 f2 me peer rest told w
    have c4 := fun w => gain_any v wr f me peer rest told w
    rw [hb] at c1
    rw [h1] at c2
    rw [h2] at c3
    rw [hg] at c4
    obtain ⟨hwx, hwy, hmn, hmx⟩ := bal_between hn
    have hhc := half_cases hn
    obtain ⟨x1, x2⟩ := flowsB_def.1 fx; obtain ⟨y1, y2⟩ := flowsB_def.1 fy
    obtain ⟨x3, x4⟩ := flowsB_def.1 gx; obtain ⟨y3, y4⟩ := flowsB_def.1 gy
    obtain ⟨N, hd, hNM, hcz⟩ := half_less (h := -n) (r := -(y - x - 2 * n)) x1 x2 y1 y2 (by omega) (by omega) (by omega) (by omega) (by omega)
    rw [show x - -n = x + n by omega, show y + -n = y - n by omega] at hd
    rw [hd] at c4
    have ho := order_cases hmn hmx (by omega) (by omega) (by omega)
    have hcn : x + n - x = n := by omega
    have hws : x + n + (y - n) = x + y := by omega
    have n1 : -2147483647 ≤ n := by omega
    have n2 : n ≤ 2147483647 := by omega
    clear hmn hmx hhc hd hb hg h1 h2 hn fx fy gx gy
    generalize x + n = c at *
    generalize y - n = d at *
    have c5 := fun w => wrless_any (wideN N).hi (wideN N).lo 0 2 w
    have hl : lessW ⟨(wideN N).hi, (wideN N).lo⟩ ⟨0, 2⟩ = decide (N < 2) := wide_less N 2 hNM (by decide)
    rw [hl] at c5
    clear hl hNM
    by_cases hn0 : n = 0
    · obtain ⟨rfl, rfl, rfl⟩ := hz hn0
      obtain rfl : N = 0 := by omega
      rw [show wideN 0 = ⟨0, 0⟩ from rfl] at c4
      subst hn0
      have C1 := Lib.hid c1; have C2 := Lib.hid c2; have C3 := Lib.hid c3; have C4 := Lib.hid c4
      clear c1 c2 c3 c4 c5 hz hnz hcz
      rcases ho with ⟨u1, u2, u3, u4, k1, k2, k3, k4⟩ | ⟨u1, u2, u3, u4, k1, k2, k3, k4⟩ | ⟨u1, u2, u3, u4, k1, k2, k3, k4⟩ | ⟨u1, u2, u3, u4, k1, k2, k3, k4⟩ | ⟨u1, u2, u3, u4, k1, k2, k3, k4⟩
      all_goals first
        | (exfalso; omega)
        | skip
      all_goals
        go_enter Try.func7, Try.ntmps7
        go_wp2_with (fail)
        refine (C1.out _).mono ?_; rintro e w1 ⟨rfl, hb1⟩; obtain ⟨hc1, hf1⟩ := bcell hb1; have hz1 := hb1.size; (try simp at hz1); have hz1_0 : w.heap.size < w1.heap.size := (by omega); have hz1_0_1 : w.heap.size < w1.heap.size + 1 := (by omega); have hz1_0_2 : w.heap.size < w1.heap.size + 1 + 1 := (by omega); have hz1_0_3 : w.heap.size < w1.heap.size + 1 + 1 + 1 := (by omega)
        go_wp2_with (fail)
        refine (C2.out _).mono ?_; rintro e w2 ⟨rfl, hb2⟩; obtain ⟨hc2, hf2⟩ := bcell hb2; have hz2 := hb2.size; (try simp at hz2); have hz2_0 : w.heap.size < w2.heap.size := (by omega); have hz2_0_1 : w.heap.size < w2.heap.size + 1 := (by omega); have hz2_0_2 : w.heap.size < w2.heap.size + 1 + 1 := (by omega); have hz2_0_3 : w.heap.size < w2.heap.size + 1 + 1 + 1 := (by omega); have hz2_1 : w1.heap.size < w2.heap.size := (by omega); have hz2_1_1 : w1.heap.size < w2.heap.size + 1 := (by omega); have hz2_1_2 : w1.heap.size < w2.heap.size + 1 + 1 := (by omega); have hz2_1_3 : w1.heap.size < w2.heap.size + 1 + 1 + 1 := (by omega)
        go_wp2_with (fail)
        refine (C3.out _).mono ?_; rintro e w3 ⟨rfl, hb3⟩; obtain ⟨hc3, hf3⟩ := bcell hb3; have hz3 := hb3.size; (try simp at hz3); have hz3_0 : w.heap.size < w3.heap.size := (by omega); have hz3_0_1 : w.heap.size < w3.heap.size + 1 := (by omega); have hz3_0_2 : w.heap.size < w3.heap.size + 1 + 1 := (by omega); have hz3_0_3 : w.heap.size < w3.heap.size + 1 + 1 + 1 := (by omega); have hz3_1 : w1.heap.size < w3.heap.size := (by omega); have hz3_1_1 : w1.heap.size < w3.heap.size + 1 := (by omega); have hz3_1_2 : w1.heap.size < w3.heap.size + 1 + 1 := (by omega); have hz3_1_3 : w1.heap.size < w3.heap.size + 1 + 1 + 1 := (by omega)
        go_wp2_with (fail)
        refine (C4.out _).mono ?_; rintro e w4 ⟨rfl, hb4⟩; obtain ⟨hc4, hf4⟩ := bcell hb4; have hz4 := hb4.size; (try simp at hz4); have hz4_0 : w.heap.size < w4.heap.size := (by omega); have hz4_0_1 : w.heap.size < w4.heap.size + 1 := (by omega); have hz4_0_2 : w.heap.size < w4.heap.size + 1 + 1 := (by omega); have hz4_0_3 : w.heap.size < w4.heap.size + 1 + 1 + 1 := (by omega); have hz4_1 : w1.heap.size < w4.heap.size := (by omega); have hz4_1_1 : w1.heap.size < w4.heap.size + 1 := (by omega); have hz4_1_2 : w1.heap.size < w4.heap.size + 1 + 1 := (by omega); have hz4_1_3 : w1.heap.size < w4.heap.size + 1 + 1 + 1 := (by omega)
        go_wp2_with (fail)
        refine (awake_any _).mono ?_; rintro e w5 ⟨rfl, hb5⟩; obtain ⟨hc5, hf5⟩ := bcell hb5; have hz5 := hb5.size; (try simp at hz5)
        go_wp2
        go_ret
        exact ⟨rfl, (by repeat (first | with_reducible refine Below.setCell ?_ (by first | (simp; done) | (simp; omega) | omega) _ | with_reducible refine Below.alloc ?_ (by first | (simp; done) | (simp; omega) | omega) _ | with_reducible refine Below.drew ?_ | with_reducible exact Below.refl _ _ | with_reducible refine Below.trans ?_ (Below.mono hb5 (by first | (simp; done) | (simp; omega) | omega)) | with_reducible refine Below.trans ?_ (Below.mono hb4 (by first | (simp; done) | (simp; omega) | omega)) | with_reducible refine Below.trans ?_ (Below.mono hb3 (by first | (simp; done) | (simp; omega) | omega)) | with_reducible refine Below.trans ?_ (Below.mono hb2 (by first | (simp; done) | (simp; omega) | omega)) | with_reducible refine Below.trans ?_ (Below.mono hb1 (by first | (simp; done) | (simp; omega) | omega))))⟩
    · obtain ⟨rfl, rfl⟩ := hnz hn0
      have c6 := fun w => rnewer_any (v + 1) w2 f2 v wr f w
      rw [show newerB (v + 1) w2 v wr = true by unfold newerB; simp; omega] at c6
      rw [decide_eq_false (by omega : ¬ N < 2)] at c5
      generalize wideN N = l at *
      obtain ⟨lh, ll⟩ := l
      have hn00 : (n == 0) = false := beq_false_of_ne hn0
      have C1 := Lib.hid c1; have C2 := Lib.hid c2; have C3 := Lib.hid c3; have C4 := Lib.hid c4; have C5 := Lib.hid c5; have C6 := Lib.hid c6
      clear c1 c2 c3 c4 c5 c6 hz hnz hcz
      rcases ho with ⟨u1, u2, u3, u4, k1, k2, k3, k4⟩ | ⟨u1, u2, u3, u4, k1, k2, k3, k4⟩ | ⟨u1, u2, u3, u4, k1, k2, k3, k4⟩ | ⟨u1, u2, u3, u4, k1, k2, k3, k4⟩ | ⟨u1, u2, u3, u4, k1, k2, k3, k4⟩
      all_goals first
        | (exfalso; omega)
        | skip
      all_goals
        go_enter Try.func7, Try.ntmps7
        go_wp2_with (fail)
        refine (C1.out _).mono ?_; rintro e w1 ⟨rfl, hb1⟩; obtain ⟨hc1, hf1⟩ := bcell hb1; have hz1 := hb1.size; (try simp at hz1); have hz1_0 : w.heap.size < w1.heap.size := (by omega); have hz1_0_1 : w.heap.size < w1.heap.size + 1 := (by omega); have hz1_0_2 : w.heap.size < w1.heap.size + 1 + 1 := (by omega); have hz1_0_3 : w.heap.size < w1.heap.size + 1 + 1 + 1 := (by omega)
        go_wp2_with (fail)
        refine (C2.out _).mono ?_; rintro e w2 ⟨rfl, hb2⟩; obtain ⟨hc2, hf2⟩ := bcell hb2; have hz2 := hb2.size; (try simp at hz2); have hz2_0 : w.heap.size < w2.heap.size := (by omega); have hz2_0_1 : w.heap.size < w2.heap.size + 1 := (by omega); have hz2_0_2 : w.heap.size < w2.heap.size + 1 + 1 := (by omega); have hz2_0_3 : w.heap.size < w2.heap.size + 1 + 1 + 1 := (by omega); have hz2_1 : w1.heap.size < w2.heap.size := (by omega); have hz2_1_1 : w1.heap.size < w2.heap.size + 1 := (by omega); have hz2_1_2 : w1.heap.size < w2.heap.size + 1 + 1 := (by omega); have hz2_1_3 : w1.heap.size < w2.heap.size + 1 + 1 + 1 := (by omega)
        go_wp2_with (fail)
        refine (C3.out _).mono ?_; rintro e w3 ⟨rfl, hb3⟩; obtain ⟨hc3, hf3⟩ := bcell hb3; have hz3 := hb3.size; (try simp at hz3); have hz3_0 : w.heap.size < w3.heap.size := (by omega); have hz3_0_1 : w.heap.size < w3.heap.size + 1 := (by omega); have hz3_0_2 : w.heap.size < w3.heap.size + 1 + 1 := (by omega); have hz3_0_3 : w.heap.size < w3.heap.size + 1 + 1 + 1 := (by omega); have hz3_1 : w1.heap.size < w3.heap.size := (by omega); have hz3_1_1 : w1.heap.size < w3.heap.size + 1 := (by omega); have hz3_1_2 : w1.heap.size < w3.heap.size + 1 + 1 := (by omega); have hz3_1_3 : w1.heap.size < w3.heap.size + 1 + 1 + 1 := (by omega)
        go_wp2_with (fail)
        refine (C4.out _).mono ?_; rintro e w4 ⟨rfl, hb4⟩; obtain ⟨hc4, hf4⟩ := bcell hb4; have hz4 := hb4.size; (try simp at hz4); have hz4_0 : w.heap.size < w4.heap.size := (by omega); have hz4_0_1 : w.heap.size < w4.heap.size + 1 := (by omega); have hz4_0_2 : w.heap.size < w4.heap.size + 1 + 1 := (by omega); have hz4_0_3 : w.heap.size < w4.heap.size + 1 + 1 + 1 := (by omega); have hz4_1 : w1.heap.size < w4.heap.size := (by omega); have hz4_1_1 : w1.heap.size < w4.heap.size + 1 := (by omega); have hz4_1_2 : w1.heap.size < w4.heap.size + 1 + 1 := (by omega); have hz4_1_3 : w1.heap.size < w4.heap.size + 1 + 1 + 1 := (by omega)
        go_wp2_with (fail)
        refine (C6.out _).mono ?_; rintro e w6 ⟨rfl, hb6⟩; obtain ⟨hc6, hf6⟩ := bcell hb6; have hz6 := hb6.size; (try simp at hz6); have hz6_0 : w.heap.size < w6.heap.size := (by omega); have hz6_0_1 : w.heap.size < w6.heap.size + 1 := (by omega); have hz6_0_2 : w.heap.size < w6.heap.size + 1 + 1 := (by omega); have hz6_0_3 : w.heap.size < w6.heap.size + 1 + 1 + 1 := (by omega); have hz6_1 : w1.heap.size < w6.heap.size := (by omega); have hz6_1_1 : w1.heap.size < w6.heap.size + 1 := (by omega); have hz6_1_2 : w1.heap.size < w6.heap.size + 1 + 1 := (by omega); have hz6_1_3 : w1.heap.size < w6.heap.size + 1 + 1 + 1 := (by omega); have hz6_2 : w4.heap.size < w6.heap.size := (by omega); have hz6_2_1 : w4.heap.size < w6.heap.size + 1 := (by omega); have hz6_2_2 : w4.heap.size < w6.heap.size + 1 + 1 := (by omega); have hz6_2_3 : w4.heap.size < w6.heap.size + 1 + 1 + 1 := (by omega)
        go_wp2_with (fail)
        refine (C5.out _).mono ?_; rintro e w7 ⟨rfl, hb7⟩; obtain ⟨hc7, hf7⟩ := bcell hb7; have hz7 := hb7.size; (try simp at hz7)
        go_wp2_with (fail)
        refine (awake_any _).mono ?_; rintro e w5 ⟨rfl, hb5⟩; obtain ⟨hc5, hf5⟩ := bcell hb5; have hz5 := hb5.size; (try simp at hz5)
        go_wp2
        go_ret
        exact ⟨rfl, (by repeat (first | with_reducible refine Below.setCell ?_ (by first | (simp; done) | (simp; omega) | omega) _ | with_reducible refine Below.alloc ?_ (by first | (simp; done) | (simp; omega) | omega) _ | with_reducible refine Below.drew ?_ | with_reducible exact Below.refl _ _ | with_reducible refine Below.trans ?_ (Below.mono hb5 (by first | (simp; done) | (simp; omega) | omega)) | with_reducible refine Below.trans ?_ (Below.mono hb7 (by first | (simp; done) | (simp; omega) | omega)) | with_reducible refine Below.trans ?_ (Below.mono hb6 (by first | (simp; done) | (simp; omega) | omega)) | with_reducible refine Below.trans ?_ (Below.mono hb4 (by first | (simp; done) | (simp; omega) | omega)) | with_reducible refine Below.trans ?_ (Below.mono hb3 (by first | (simp; done) | (simp; omega) | omega)) | with_reducible refine Below.trans ?_ (Below.mono hb2 (by first | (simp; done) | (simp; omega) | omega)) | with_reducible refine Below.trans ?_ (Below.mono hb1 (by first | (simp; done) | (simp; omega) | omega))))⟩

theorem tradeAlone_lifted (os : Os) (started : os.Started) (H : Type) (enc : TypeId × Value → H) :
    ReturnsInHanded {} Try.checked os 7 .any (Rows.tradeAloneSpec.pre6 enc Try.prog Try.f7 Rows.tradeAloneRow.domain false) (Rows.tradeAloneSpec.post enc Try.prog Try.f7 false true false false) := by
  refine returnsInHanded_of_change_sized (C := Try.checked) own started (by kernel_rfl) Try.func7
    (ChangeSpec.witness6 (enc := enc) (C := Try.checked) false ⟨#[], #[.int .i64 0, .int .i64 0, .agg #[.int .i64 0, .int .i64 0, .int .i64 0], .int .i64 0, .int .i64 0], []⟩ 8 (by kernel_rfl) (by kernel_rfl) (by kernel_rfl) (by kernel_rfl)) ?_
  intro W base args ds gs before hval hW _ hsz _
  have hW' := hW
  obtain ⟨p, q, hA, hV, rfl, hfz, hnd⟩ := hW
  obtain ⟨rfl, rfl⟩ := trodVars_none hV
  rw [Try.params7] at hA hval
  obtain ⟨v0, vs0, d0, ds0, p0, q0, hargs, rfl, rfl, h0, r0⟩ := trodAll_cons hA
  obtain ⟨v1, vs1, d1, ds1, p1, q1, rfl, rfl, rfl, h1, r1⟩ := trodAll_cons r0
  obtain ⟨v2, vs2, d2, ds2, p2, q2, rfl, rfl, rfl, h2, r2⟩ := trodAll_cons r1
  obtain ⟨v3, vs3, d3, ds3, p3, q3, rfl, rfl, rfl, h3, r3⟩ := trodAll_cons r2
  obtain ⟨v4, vs4, d4, ds4, p4, q4, rfl, rfl, rfl, h4, r4⟩ := trodAll_cons r3
  obtain ⟨rfl, rfl, rfl⟩ := trodAll_nil r4
  obtain rfl : args = #[v0, v1, v2, v3, v4] := by cases args; simp_all
  obtain ⟨me, rfl, _, _, wa⟩ := open_int Try.underlying3 (hval 0 _ v0 rfl rfl) h0
  obtain ⟨peer, rfl, _, _, wb⟩ := open_int Try.underlying3 (hval 1 _ v1 rfl rfl) h1
  obtain ⟨v, wr, f, rfl, _, _, _⟩ := open_reg (hval 2 _ v2 rfl rfl) h2
  obtain ⟨rest, rfl, _, _, wam⟩ := open_int Try.underlying2 (hval 3 _ v3 rfl rfl) h3
  obtain ⟨told, rfl, _, _, wk⟩ := open_int Try.underlying2 (hval 4 _ v4 rfl rfl) h4
  refine (tradeAlone_any me peer v wr f rest told W).mono fun e W' ⟨he, hg⟩ => ?_
  subst he
  exact ⟨_, rfl, law_post laidOut rfl (by kernel_rfl) rfl Try.underlying4 rfl hW' hg⟩

theorem tradeAlone_holds : Rows.TradeAloneSaid :=
  OpenClaim.holds_of_wide 7 Try.f7 rfl rfl rfl rfl rfl rfl rfl ⟨rfl, rfl, rfl, rfl, rfl⟩ rfl rfl rfl rfl rfl (by kernel_rfl) Try.func7 (by kernel_rfl)
    (of_decide_eq_true (by kernel_rfl)) (by unfold Func.isWrapper; first | (rw [if_pos (by decide +kernel)]; kernel_rfl) | (rw [if_neg (by decide +kernel)]; exact ⟨rfl, rfl⟩))
    (fun os started H enc _ => tradeAlone_lifted os started H enc)

end Go.Proofs.Ytlcbfabdfpdcgaa
