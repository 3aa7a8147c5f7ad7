/- Whatever the node, its input, two extreme values and a list of told ones: eddylaw16 ExtAges returns true. No conditions. -/
import Derived.Test.YtdiccafoajjbmaaL16t
import Derived.Test.YtdiccafoajjbmaaOpnE
import Derived.Deep.Cut
import Derived.Deep.CutRange
import Derived.Deep.RegionHeld3
namespace Go.Proofs.Ytdiccafoajjbmaa
open Go.ChangeShapes Go.WideShapes Go.ChangeAt Go.RowKit Go.Joins Go.BigFrame
set_option linter.unusedVariables false
/-- What an extreme value is behind k Ticks. -/
def agedE (s id x : Int) (has : Bool) (k : Int) (e0 e : E) : Prop :=
  fitE e ∧ (e.has = true → e.org ≠ id → e.val = e0.val ∧ e.age = e0.age + k) ∧ (1 ≤ k → e.has = true → e.org = id → has = true ∧ e = ⟨true, x, id, 0⟩) ∧ (1 ≤ k → has = true → e.has = true ∧ s * e.val ≤ s * x)
theorem aged_zero {s id x : Int} {has : Bool} {e : E} (h : fitE e) : agedE s id x has 0 e e :=
  ⟨h, fun _ _ => ⟨rfl, by omega⟩, fun h1 => absurd h1 (by omega), fun h1 => absurd h1 (by omega)⟩
theorem oo_cases (id : Int) (e : E) : olderE (othersE id e) = ⟨false, 0, 0, 0⟩ ∨ (e.has = true ∧ e.org ≠ id ∧ olderE (othersE id e) = ⟨true, e.val, e.org, e.age + 1⟩) := by
  unfold othersE
  split
  · exact .inl rfl
  · rename_i h1
    simp only [Bool.and_eq_true, decide_eq_true_eq, not_and] at h1
    unfold olderE
    split
    · exact .inl rfl
    · rename_i h2
      simp only [Bool.or_eq_true, Bool.not_eq_true', decide_eq_true_eq, not_or, Bool.not_eq_false] at h2
      exact .inr ⟨h2.1, h1 h2.1, rfl⟩
theorem aged_step {s id x : Int} {has : Bool} {k : Int} {e0 e : E} (hs : s = 1 ∨ s = -1) (hk : 0 ≤ k) (fo : fitE ⟨true, x, id, 0⟩) (h : agedE s id x has k e0 e) :
    agedE s id x has (k + 1) e0 (match has with | true => pickE s (olderE (othersE id e)) ⟨true, x, id, 0⟩ | false => olderE (othersE id e)) := by
  obtain ⟨h1, h2, _, _⟩ := h
  have fu : fitE (olderE (othersE id e)) := older_fit (others_fit h1)
  cases has with
  | false =>
    refine ⟨fu, ?_, ?_, fun _ hc => by cases hc⟩
    · intro hh ho
      rcases oo_cases id e with hc | ⟨c1, c2, c3⟩
      · rw [hc] at hh; cases hh
      · obtain ⟨v1, v2⟩ := h2 c1 c2
        show (olderE (othersE id e)).val = _ ∧ (olderE (othersE id e)).age = _
        rw [c3]
        exact ⟨v1, by simp only []; omega⟩
    · intro _ hh ho
      rcases oo_cases id e with hc | ⟨c1, c2, c3⟩
      · rw [hc] at hh; cases hh
      · simp only [] at ho
        rw [c3] at ho
        exact absurd ho c2
  | true =>
    simp only []
    have fp := pick_fit (s := s) fu fo
    rcases pick_eq hs (olderE (othersE id e)) ⟨true, x, id, 0⟩ with ⟨ha, hp⟩ | ⟨ha, hp⟩
    · rw [hp]
      exact ⟨fo, fun _ ho => absurd rfl ho, fun _ _ _ => ⟨rfl, rfl⟩, fun _ _ => ⟨rfl, Int.le_refl _⟩⟩
    · rw [hp]
      rcases oo_cases id e with hc | ⟨c1, c2, c3⟩
      · exfalso
        apply ha
        rw [hc]
        exact ⟨rfl, .inl rfl⟩
      · obtain ⟨v1, v2⟩ := h2 c1 c2
        rw [c3] at fu ha ⊢
        refine ⟨fu, fun _ _ => ⟨v1, by simp only []; omega⟩, fun _ _ ho => absurd ho c2, fun _ _ => ⟨rfl, ?_⟩⟩
        apply Decidable.byContradiction
        intro hc
        apply ha
        exact ⟨rfl, .inr (.inl (by simp only [] at hc ⊢; omega))⟩
theorem aged_tick {id x k : Int} {has : Bool} {a b p q : E} (hk : 0 ≤ k) (fo : fitE ⟨true, x, id, 0⟩) (h1 : agedE 1 id x has k a p) (h2 : agedE (-1) id x has k b q) :
    agedE 1 id x has (k + 1) a (tickE id x has p q).1 ∧ agedE (-1) id x has (k + 1) b (tickE id x has p q).2 := by
  have a1 := aged_step (.inl rfl) hk fo h1
  have a2 := aged_step (.inr rfl) hk fo h2
  unfold tickE
  cases has <;> exact ⟨a1, a2⟩
/-- Which values the law's first loop meets. -/
theorem aged_cases {s id x : Int} {has : Bool} {k : Int} {a e : E} (hk : 1 ≤ k) (h : agedE s id x has k a e) :
    (e.has = false ∧ has = false) ∨ (e.has = true ∧ e.org = id ∧ has = true) ∨ (e.has = true ∧ e.org ≠ id ∧ e.val = a.val ∧ e.age = a.age + k) := by
  obtain ⟨h1, h2, h3, h4⟩ := h
  cases hh : e.has with
  | false =>
    cases hz : has with
    | false => exact .inl ⟨rfl, rfl⟩
    | true =>
      have := (h4 hk hz).1
      rw [hh] at this
      cases this
  | true =>
    by_cases ho : e.org = id
    · exact .inr (.inl ⟨rfl, ho, (h3 hk hh ho).1⟩)
    · exact .inr (.inr ⟨rfl, ho, h2 hh ho⟩)
theorem aged_end {s id x : Int} {has : Bool} {a e : E} (fa : fitE a) (h : agedE s id x has 64 a e) :
    (has = true ∧ e = ⟨true, x, id, 0⟩) ∨ (has = false ∧ e = ⟨false, 0, 0, 0⟩) := by
  have hb := fitE_bd fa
  have hf := fitE_bd h.1
  rcases aged_cases (by omega) h with ⟨c1, c2⟩ | ⟨c1, c2, c3⟩ | ⟨c1, c2, c3, c4⟩
  · exact .inr ⟨c2, fitE_none h.1 c1⟩
  · exact .inl ⟨c3, (h.2.2.1 (by omega) c1 c2).2⟩
  · omega
theorem hear_cases (s id : Int) {a t : E} (fa : fitE a) : pickE s a (othersE id t) = a ∨ pickE s a (othersE id t) = t := by
  unfold othersE
  split
  · rename_i h
    left
    unfold pickE
    split
    · rename_i h2
      unfold rholdsB at h2
      cases ha : a.has with
      | false => exact (fitE_none fa ha).symm
      | true => simp [ha] at h2
    · rfl
  · exact pick_cases s a t
/-- What a round of the law's first loop meets. -/
theorem ages_round {id x k : Int} {has : Bool} {a b u v : E} (hk : 0 ≤ k) (h1 : agedE 1 id x has (k + 1) a u) (h2 : agedE (-1) id x has (k + 1) b v) :
    (has = false ∧ u.has = false) ∨ (has = false ∧ u.has = true ∧ u.org ≠ id ∧ u.val = a.val ∧ a.age + k + 1 = u.age) ∨
    (has = true ∧ u.has = true ∧ v.has = true ∧ ¬ x < u.val ∧ ¬ v.val < x ∧ u.org = id) ∨
    (has = true ∧ u.has = true ∧ v.has = true ∧ ¬ x < u.val ∧ ¬ v.val < x ∧ u.org ≠ id ∧ u.val = a.val ∧ a.age + k + 1 = u.age) := by
  have hc := aged_cases (by omega) h1
  cases has with
  | false =>
    rcases hc with ⟨c1, _⟩ | ⟨_, _, c3⟩ | ⟨c1, c2, c3, c4⟩
    · exact .inl ⟨rfl, c1⟩
    · cases c3
    · exact .inr (.inl ⟨rfl, c1, c2, c3, by omega⟩)
  | true =>
    obtain ⟨u1, u2⟩ := h1.2.2.2 (by omega) rfl
    obtain ⟨v1, v2⟩ := h2.2.2.2 (by omega) rfl
    rcases hc with ⟨c1, _⟩ | ⟨_, c2, _⟩ | ⟨_, c2, c3, c4⟩
    · rw [u1] at c1; cases c1
    · exact .inr (.inr (.inl ⟨rfl, u1, v1, by omega, by omega, c2⟩))
    · exact .inr (.inr (.inr ⟨rfl, u1, v1, by omega, by omega, c2, c3, by omega⟩))
/-- One of two; where it is not the first, the fields tell. -/
theorem ext_cases {u p t : E} (h : u = p ∨ u = t) : u = p ∨ (u = t ∧ ¬ (u.has = p.has ∧ u.val = p.val ∧ u.org = p.org ∧ u.age = p.age)) := by
  by_cases hp : u = p
  · exact .inl hp
  · rcases h with h | h
    · exact absurd h hp
    · refine .inr ⟨h, fun hc => hp ?_⟩
      obtain ⟨a1, a2, a3, a4⟩ := u
      obtain ⟨b1, b2, b3, b4⟩ := p
      simp only [] at hc
      obtain ⟨rfl, rfl, rfl, rfl⟩ := hc
      rfl
theorem ite4 {p q r s : Prop} [Decidable p] [Decidable q] [Decidable r] [Decidable s] {α : Type} {x y : α} (h : ¬ (p ∧ q ∧ r ∧ s)) : (if p then if q then if r then if s then x else y else y else y else y) = y := by
  by_cases hp : p
  · by_cases hq : q
    · by_cases hr : r
      · by_cases hs : s
        · exact absurd ⟨hp, hq, hr, hs⟩ h
        · simp [hp, hq, hr, hs]
      · simp [hp, hq, hr]
    · simp [hp, hq]
  · simp [hp]
set_option maxRecDepth 100000 in
set_option maxHeartbeats 4000000 in
theorem ages_n0 (id x : Int) (has : Bool) (ha : Bool) (va oa aa : Int) (hb : Bool) (vb ob ab : Int) (T : Option Addr) (n c : Nat) (N1 : Hid (∀ w, Calls Try.prog 9 #[.int .i64 id] w fun e w' => e = .returned (.bool false) ∧ Below w.heap.size w w')) (w : World) :
    Calls Try.prog 5 #[.int .i64 id, .bool has, .int .i64 x, .agg #[.bool ha, .int .i64 va, .int .i64 oa, .int .i64 aa], .agg #[.bool hb, .int .i64 vb, .int .i64 ob, .int .i64 ab], .slice T n c] w fun e w' => e = .returned (.bool true) ∧ Below w.heap.size w w' := by
  go_enter Try.func5, Try.ntmps5
  go_wp2_with (fail)
  refine (N1.out _).mono ?_; rintro e w1 ⟨rfl, hb1⟩; obtain ⟨hc1, hf1⟩ := bcell hb1; have hz1 := hb1.size; (try simp at hz1); have hz1_0 : w.heap.size < w1.heap.size := (by omega); have hz1_0_1 : w.heap.size < w1.heap.size + 1 := (by omega); have hz1_0_2 : w.heap.size < w1.heap.size + 1 + 1 := (by omega); have hz1_0_3 : w.heap.size < w1.heap.size + 1 + 1 + 1 := (by omega); have hz1_1 : w.heap.size + 1 < w1.heap.size := (by omega); have hz1_1_1 : w.heap.size + 1 < w1.heap.size + 1 := (by omega); have hz1_1_2 : w.heap.size + 1 < w1.heap.size + 1 + 1 := (by omega); have hz1_1_3 : w.heap.size + 1 < w1.heap.size + 1 + 1 + 1 := (by omega)
  go_wp2_with (fail)
  refine (awake_any _).mono ?_; rintro e w2 ⟨rfl, hb2⟩; obtain ⟨hc2, hf2⟩ := bcell hb2; have hz2 := hb2.size; (try simp at hz2); have hz2_0 : w.heap.size < w2.heap.size := (by omega); have hz2_0_1 : w.heap.size < w2.heap.size + 1 := (by omega); have hz2_0_2 : w.heap.size < w2.heap.size + 1 + 1 := (by omega); have hz2_0_3 : w.heap.size < w2.heap.size + 1 + 1 + 1 := (by omega); have hz2_1 : w.heap.size + 1 < w2.heap.size := (by omega); have hz2_1_1 : w.heap.size + 1 < w2.heap.size + 1 := (by omega); have hz2_1_2 : w.heap.size + 1 < w2.heap.size + 1 + 1 := (by omega); have hz2_1_3 : w.heap.size + 1 < w2.heap.size + 1 + 1 + 1 := (by omega)
  go_wp2
  go_ret
  exact ⟨rfl, (by repeat (first | with_reducible refine Below.setCell ?_ (by first | (simp; done) | (simp; omega) | omega) _ | with_reducible refine Below.alloc ?_ (by first | (simp; done) | (simp; omega) | omega) _ | with_reducible refine Below.drew ?_ | with_reducible exact Below.refl _ _ | with_reducible refine Below.trans ?_ (Below.mono hb1 (by first | (simp; done) | (simp; omega) | omega)) | with_reducible refine Below.trans ?_ (Below.mono hb2 (by first | (simp; done) | (simp; omega) | omega))))⟩
set_option maxRecDepth 100000 in
set_option maxHeartbeats 4000000 in
theorem ages_n1 (id x : Int) (has : Bool) (ha : Bool) (va oa aa : Int) (hb : Bool) (vb ob ab : Int) (T : Option Addr) (n c : Nat) (N1 : Hid (∀ w, Calls Try.prog 9 #[.int .i64 id] w fun e w' => e = .returned (.bool true) ∧ Below w.heap.size w w')) (N2 : Hid (∀ w, Calls Try.prog 10 #[.int .i64 x] w fun e w' => e = .returned (.bool false) ∧ Below w.heap.size w w')) (w : World) :
    Calls Try.prog 5 #[.int .i64 id, .bool has, .int .i64 x, .agg #[.bool ha, .int .i64 va, .int .i64 oa, .int .i64 aa], .agg #[.bool hb, .int .i64 vb, .int .i64 ob, .int .i64 ab], .slice T n c] w fun e w' => e = .returned (.bool true) ∧ Below w.heap.size w w' := by
  go_enter Try.func5, Try.ntmps5
  go_wp2_with (fail)
  refine (N1.out _).mono ?_; rintro e w1 ⟨rfl, hb1⟩; obtain ⟨hc1, hf1⟩ := bcell hb1; have hz1 := hb1.size; (try simp at hz1); have hz1_0 : w.heap.size < w1.heap.size := (by omega); have hz1_0_1 : w.heap.size < w1.heap.size + 1 := (by omega); have hz1_0_2 : w.heap.size < w1.heap.size + 1 + 1 := (by omega); have hz1_0_3 : w.heap.size < w1.heap.size + 1 + 1 + 1 := (by omega); have hz1_1 : w.heap.size + 1 < w1.heap.size := (by omega); have hz1_1_1 : w.heap.size + 1 < w1.heap.size + 1 := (by omega); have hz1_1_2 : w.heap.size + 1 < w1.heap.size + 1 + 1 := (by omega); have hz1_1_3 : w.heap.size + 1 < w1.heap.size + 1 + 1 + 1 := (by omega)
  go_wp2_with (fail)
  refine (N2.out _).mono ?_; rintro e w2 ⟨rfl, hb2⟩; obtain ⟨hc2, hf2⟩ := bcell hb2; have hz2 := hb2.size; (try simp at hz2); have hz2_0 : w.heap.size < w2.heap.size := (by omega); have hz2_0_1 : w.heap.size < w2.heap.size + 1 := (by omega); have hz2_0_2 : w.heap.size < w2.heap.size + 1 + 1 := (by omega); have hz2_0_3 : w.heap.size < w2.heap.size + 1 + 1 + 1 := (by omega); have hz2_1 : w.heap.size + 1 < w2.heap.size := (by omega); have hz2_1_1 : w.heap.size + 1 < w2.heap.size + 1 := (by omega); have hz2_1_2 : w.heap.size + 1 < w2.heap.size + 1 + 1 := (by omega); have hz2_1_3 : w.heap.size + 1 < w2.heap.size + 1 + 1 + 1 := (by omega)
  go_wp2_with (fail)
  refine (awake_any _).mono ?_; rintro e w3 ⟨rfl, hb3⟩; obtain ⟨hc3, hf3⟩ := bcell hb3; have hz3 := hb3.size; (try simp at hz3); have hz3_0 : w.heap.size < w3.heap.size := (by omega); have hz3_0_1 : w.heap.size < w3.heap.size + 1 := (by omega); have hz3_0_2 : w.heap.size < w3.heap.size + 1 + 1 := (by omega); have hz3_0_3 : w.heap.size < w3.heap.size + 1 + 1 + 1 := (by omega); have hz3_1 : w.heap.size + 1 < w3.heap.size := (by omega); have hz3_1_1 : w.heap.size + 1 < w3.heap.size + 1 := (by omega); have hz3_1_2 : w.heap.size + 1 < w3.heap.size + 1 + 1 := (by omega); have hz3_1_3 : w.heap.size + 1 < w3.heap.size + 1 + 1 + 1 := (by omega)
  go_wp2
  go_ret
  exact ⟨rfl, (by repeat (first | with_reducible refine Below.setCell ?_ (by first | (simp; done) | (simp; omega) | omega) _ | with_reducible refine Below.alloc ?_ (by first | (simp; done) | (simp; omega) | omega) _ | with_reducible refine Below.drew ?_ | with_reducible exact Below.refl _ _ | with_reducible refine Below.trans ?_ (Below.mono hb1 (by first | (simp; done) | (simp; omega) | omega)) | with_reducible refine Below.trans ?_ (Below.mono hb2 (by first | (simp; done) | (simp; omega) | omega)) | with_reducible refine Below.trans ?_ (Below.mono hb3 (by first | (simp; done) | (simp; omega) | omega))))⟩
set_option maxRecDepth 100000 in
set_option maxHeartbeats 4000000 in
theorem ages_n2 (id x : Int) (has : Bool) (ha : Bool) (va oa aa : Int) (hb : Bool) (vb ob ab : Int) (T : Option Addr) (n c : Nat) (N1 : Hid (∀ w, Calls Try.prog 9 #[.int .i64 id] w fun e w' => e = .returned (.bool true) ∧ Below w.heap.size w w')) (N2 : Hid (∀ w, Calls Try.prog 10 #[.int .i64 x] w fun e w' => e = .returned (.bool true) ∧ Below w.heap.size w w')) (F1 : Hid (∀ w, Calls Try.prog 8 #[.agg #[.bool ha, .int .i64 va, .int .i64 oa, .int .i64 aa]] w fun e w' => e = .returned (.bool false) ∧ Below w.heap.size w w')) (w : World) :
    Calls Try.prog 5 #[.int .i64 id, .bool has, .int .i64 x, .agg #[.bool ha, .int .i64 va, .int .i64 oa, .int .i64 aa], .agg #[.bool hb, .int .i64 vb, .int .i64 ob, .int .i64 ab], .slice T n c] w fun e w' => e = .returned (.bool true) ∧ Below w.heap.size w w' := by
  go_enter Try.func5, Try.ntmps5
  go_wp2_with (fail)
  refine (N1.out _).mono ?_; rintro e w1 ⟨rfl, hb1⟩; obtain ⟨hc1, hf1⟩ := bcell hb1; have hz1 := hb1.size; (try simp at hz1); have hz1_0 : w.heap.size < w1.heap.size := (by omega); have hz1_0_1 : w.heap.size < w1.heap.size + 1 := (by omega); have hz1_0_2 : w.heap.size < w1.heap.size + 1 + 1 := (by omega); have hz1_0_3 : w.heap.size < w1.heap.size + 1 + 1 + 1 := (by omega); have hz1_1 : w.heap.size + 1 < w1.heap.size := (by omega); have hz1_1_1 : w.heap.size + 1 < w1.heap.size + 1 := (by omega); have hz1_1_2 : w.heap.size + 1 < w1.heap.size + 1 + 1 := (by omega); have hz1_1_3 : w.heap.size + 1 < w1.heap.size + 1 + 1 + 1 := (by omega)
  go_wp2_with (fail)
  refine (N2.out _).mono ?_; rintro e w2 ⟨rfl, hb2⟩; obtain ⟨hc2, hf2⟩ := bcell hb2; have hz2 := hb2.size; (try simp at hz2); have hz2_0 : w.heap.size < w2.heap.size := (by omega); have hz2_0_1 : w.heap.size < w2.heap.size + 1 := (by omega); have hz2_0_2 : w.heap.size < w2.heap.size + 1 + 1 := (by omega); have hz2_0_3 : w.heap.size < w2.heap.size + 1 + 1 + 1 := (by omega); have hz2_1 : w.heap.size + 1 < w2.heap.size := (by omega); have hz2_1_1 : w.heap.size + 1 < w2.heap.size + 1 := (by omega); have hz2_1_2 : w.heap.size + 1 < w2.heap.size + 1 + 1 := (by omega); have hz2_1_3 : w.heap.size + 1 < w2.heap.size + 1 + 1 + 1 := (by omega)
  go_wp2_with (fail)
  refine (F1.out _).mono ?_; rintro e w3 ⟨rfl, hb3⟩; obtain ⟨hc3, hf3⟩ := bcell hb3; have hz3 := hb3.size; (try simp at hz3); have hz3_0 : w.heap.size < w3.heap.size := (by omega); have hz3_0_1 : w.heap.size < w3.heap.size + 1 := (by omega); have hz3_0_2 : w.heap.size < w3.heap.size + 1 + 1 := (by omega); have hz3_0_3 : w.heap.size < w3.heap.size + 1 + 1 + 1 := (by omega); have hz3_1 : w.heap.size + 1 < w3.heap.size := (by omega); have hz3_1_1 : w.heap.size + 1 < w3.heap.size + 1 := (by omega); have hz3_1_2 : w.heap.size + 1 < w3.heap.size + 1 + 1 := (by omega); have hz3_1_3 : w.heap.size + 1 < w3.heap.size + 1 + 1 + 1 := (by omega)
  go_wp2_with (fail)
  refine (awake_any _).mono ?_; rintro e w4 ⟨rfl, hb4⟩; obtain ⟨hc4, hf4⟩ := bcell hb4; have hz4 := hb4.size; (try simp at hz4); have hz4_0 : w.heap.size < w4.heap.size := (by omega); have hz4_0_1 : w.heap.size < w4.heap.size + 1 := (by omega); have hz4_0_2 : w.heap.size < w4.heap.size + 1 + 1 := (by omega); have hz4_0_3 : w.heap.size < w4.heap.size + 1 + 1 + 1 := (by omega); have hz4_1 : w.heap.size + 1 < w4.heap.size := (by omega); have hz4_1_1 : w.heap.size + 1 < w4.heap.size + 1 := (by omega); have hz4_1_2 : w.heap.size + 1 < w4.heap.size + 1 + 1 := (by omega); have hz4_1_3 : w.heap.size + 1 < w4.heap.size + 1 + 1 + 1 := (by omega)
  go_wp2
  go_ret
  exact ⟨rfl, (by repeat (first | with_reducible refine Below.setCell ?_ (by first | (simp; done) | (simp; omega) | omega) _ | with_reducible refine Below.alloc ?_ (by first | (simp; done) | (simp; omega) | omega) _ | with_reducible refine Below.drew ?_ | with_reducible exact Below.refl _ _ | with_reducible refine Below.trans ?_ (Below.mono hb1 (by first | (simp; done) | (simp; omega) | omega)) | with_reducible refine Below.trans ?_ (Below.mono hb2 (by first | (simp; done) | (simp; omega) | omega)) | with_reducible refine Below.trans ?_ (Below.mono hb3 (by first | (simp; done) | (simp; omega) | omega)) | with_reducible refine Below.trans ?_ (Below.mono hb4 (by first | (simp; done) | (simp; omega) | omega))))⟩
set_option maxRecDepth 100000 in
set_option maxHeartbeats 4000000 in
theorem ages_n3 (id x : Int) (has : Bool) (ha : Bool) (va oa aa : Int) (hb : Bool) (vb ob ab : Int) (T : Option Addr) (n c : Nat) (N1 : Hid (∀ w, Calls Try.prog 9 #[.int .i64 id] w fun e w' => e = .returned (.bool true) ∧ Below w.heap.size w w')) (N2 : Hid (∀ w, Calls Try.prog 10 #[.int .i64 x] w fun e w' => e = .returned (.bool true) ∧ Below w.heap.size w w')) (F1 : Hid (∀ w, Calls Try.prog 8 #[.agg #[.bool ha, .int .i64 va, .int .i64 oa, .int .i64 aa]] w fun e w' => e = .returned (.bool true) ∧ Below w.heap.size w w')) (F2 : Hid (∀ w, Calls Try.prog 8 #[.agg #[.bool hb, .int .i64 vb, .int .i64 ob, .int .i64 ab]] w fun e w' => e = .returned (.bool false) ∧ Below w.heap.size w w')) (w : World) :
    Calls Try.prog 5 #[.int .i64 id, .bool has, .int .i64 x, .agg #[.bool ha, .int .i64 va, .int .i64 oa, .int .i64 aa], .agg #[.bool hb, .int .i64 vb, .int .i64 ob, .int .i64 ab], .slice T n c] w fun e w' => e = .returned (.bool true) ∧ Below w.heap.size w w' := by
  go_enter Try.func5, Try.ntmps5
  go_wp2_with (fail)
  refine (N1.out _).mono ?_; rintro e w1 ⟨rfl, hb1⟩; obtain ⟨hc1, hf1⟩ := bcell hb1; have hz1 := hb1.size; (try simp at hz1); have hz1_0 : w.heap.size < w1.heap.size := (by omega); have hz1_0_1 : w.heap.size < w1.heap.size + 1 := (by omega); have hz1_0_2 : w.heap.size < w1.heap.size + 1 + 1 := (by omega); have hz1_0_3 : w.heap.size < w1.heap.size + 1 + 1 + 1 := (by omega); have hz1_1 : w.heap.size + 1 < w1.heap.size := (by omega); have hz1_1_1 : w.heap.size + 1 < w1.heap.size + 1 := (by omega); have hz1_1_2 : w.heap.size + 1 < w1.heap.size + 1 + 1 := (by omega); have hz1_1_3 : w.heap.size + 1 < w1.heap.size + 1 + 1 + 1 := (by omega)
  go_wp2_with (fail)
  refine (N2.out _).mono ?_; rintro e w2 ⟨rfl, hb2⟩; obtain ⟨hc2, hf2⟩ := bcell hb2; have hz2 := hb2.size; (try simp at hz2); have hz2_0 : w.heap.size < w2.heap.size := (by omega); have hz2_0_1 : w.heap.size < w2.heap.size + 1 := (by omega); have hz2_0_2 : w.heap.size < w2.heap.size + 1 + 1 := (by omega); have hz2_0_3 : w.heap.size < w2.heap.size + 1 + 1 + 1 := (by omega); have hz2_1 : w.heap.size + 1 < w2.heap.size := (by omega); have hz2_1_1 : w.heap.size + 1 < w2.heap.size + 1 := (by omega); have hz2_1_2 : w.heap.size + 1 < w2.heap.size + 1 + 1 := (by omega); have hz2_1_3 : w.heap.size + 1 < w2.heap.size + 1 + 1 + 1 := (by omega)
  go_wp2_with (fail)
  refine (F1.out _).mono ?_; rintro e w3 ⟨rfl, hb3⟩; obtain ⟨hc3, hf3⟩ := bcell hb3; have hz3 := hb3.size; (try simp at hz3); have hz3_0 : w.heap.size < w3.heap.size := (by omega); have hz3_0_1 : w.heap.size < w3.heap.size + 1 := (by omega); have hz3_0_2 : w.heap.size < w3.heap.size + 1 + 1 := (by omega); have hz3_0_3 : w.heap.size < w3.heap.size + 1 + 1 + 1 := (by omega); have hz3_1 : w.heap.size + 1 < w3.heap.size := (by omega); have hz3_1_1 : w.heap.size + 1 < w3.heap.size + 1 := (by omega); have hz3_1_2 : w.heap.size + 1 < w3.heap.size + 1 + 1 := (by omega); have hz3_1_3 : w.heap.size + 1 < w3.heap.size + 1 + 1 + 1 := (by omega)
  go_wp2_with (fail)
  refine (F2.out _).mono ?_; rintro e w4 ⟨rfl, hb4⟩; obtain ⟨hc4, hf4⟩ := bcell hb4; have hz4 := hb4.size; (try simp at hz4); have hz4_0 : w.heap.size < w4.heap.size := (by omega); have hz4_0_1 : w.heap.size < w4.heap.size + 1 := (by omega); have hz4_0_2 : w.heap.size < w4.heap.size + 1 + 1 := (by omega); have hz4_0_3 : w.heap.size < w4.heap.size + 1 + 1 + 1 := (by omega); have hz4_1 : w.heap.size + 1 < w4.heap.size := (by omega); have hz4_1_1 : w.heap.size + 1 < w4.heap.size + 1 := (by omega); have hz4_1_2 : w.heap.size + 1 < w4.heap.size + 1 + 1 := (by omega); have hz4_1_3 : w.heap.size + 1 < w4.heap.size + 1 + 1 + 1 := (by omega)
  go_wp2_with (fail)
  refine (awake_any _).mono ?_; rintro e w5 ⟨rfl, hb5⟩; obtain ⟨hc5, hf5⟩ := bcell hb5; have hz5 := hb5.size; (try simp at hz5); have hz5_0 : w.heap.size < w5.heap.size := (by omega); have hz5_0_1 : w.heap.size < w5.heap.size + 1 := (by omega); have hz5_0_2 : w.heap.size < w5.heap.size + 1 + 1 := (by omega); have hz5_0_3 : w.heap.size < w5.heap.size + 1 + 1 + 1 := (by omega); have hz5_1 : w.heap.size + 1 < w5.heap.size := (by omega); have hz5_1_1 : w.heap.size + 1 < w5.heap.size + 1 := (by omega); have hz5_1_2 : w.heap.size + 1 < w5.heap.size + 1 + 1 := (by omega); have hz5_1_3 : w.heap.size + 1 < w5.heap.size + 1 + 1 + 1 := (by omega)
  go_wp2
  go_ret
  exact ⟨rfl, (by repeat (first | with_reducible refine Below.setCell ?_ (by first | (simp; done) | (simp; omega) | omega) _ | with_reducible refine Below.alloc ?_ (by first | (simp; done) | (simp; omega) | omega) _ | with_reducible refine Below.drew ?_ | with_reducible exact Below.refl _ _ | with_reducible refine Below.trans ?_ (Below.mono hb1 (by first | (simp; done) | (simp; omega) | omega)) | with_reducible refine Below.trans ?_ (Below.mono hb2 (by first | (simp; done) | (simp; omega) | omega)) | with_reducible refine Below.trans ?_ (Below.mono hb3 (by first | (simp; done) | (simp; omega) | omega)) | with_reducible refine Below.trans ?_ (Below.mono hb4 (by first | (simp; done) | (simp; omega) | omega)) | with_reducible refine Below.trans ?_ (Below.mono hb5 (by first | (simp; done) | (simp; omega) | omega))))⟩
set_option maxRecDepth 100000 in
set_option maxHeartbeats 16000000 in
theorem ages_w (id x : Int) (has : Bool) (ha : Bool) (va oa aa : Int) (hb : Bool) (vb ob ab : Int) (T : Option Addr) (n c : Nat) (ts : List E) (fa : fitE ⟨ha, va, oa, aa⟩) (fb : fitE ⟨hb, vb, ob, ab⟩) (fo : fitE ⟨true, x, id, 0⟩) (N1 : Hid (∀ w, Calls Try.prog 9 #[.int .i64 id] w fun e w' => e = .returned (.bool true) ∧ Below w.heap.size w w')) (N2 : Hid (∀ w, Calls Try.prog 10 #[.int .i64 x] w fun e w' => e = .returned (.bool true) ∧ Below w.heap.size w w')) (F1 : Hid (∀ w, Calls Try.prog 8 #[.agg #[.bool ha, .int .i64 va, .int .i64 oa, .int .i64 aa]] w fun e w' => e = .returned (.bool true) ∧ Below w.heap.size w w')) (F2 : Hid (∀ w, Calls Try.prog 8 #[.agg #[.bool hb, .int .i64 vb, .int .i64 ob, .int .i64 ab]] w fun e w' => e = .returned (.bool true) ∧ Below w.heap.size w w')) (w : World) (hr : ExtsAt w w.heap.size T n ts) (hm : n * 32 ≤ reachBytes) :
    Calls Try.prog 5 #[.int .i64 id, .bool has, .int .i64 x, .agg #[.bool ha, .int .i64 va, .int .i64 oa, .int .i64 aa], .agg #[.bool hb, .int .i64 vb, .int .i64 ob, .int .i64 ab], .slice T n c] w fun e w' => e = .returned (.bool true) ∧ Below w.heap.size w w' := by
  have hm' : n * 32 ≤ 140737488351232 := by unfold reachBytes at hm; omega
  clear hm
  have HR := Lib.hid hr; have FA := Lib.hid fa; have FB := Lib.hid fb; have FO := Lib.hid fo
  clear hr fa fb fo
  go_enter Try.func5, Try.ntmps5
  go_wp2_with (fail)
  refine (N1.out _).mono ?_; rintro e w1 ⟨rfl, hb1⟩; obtain ⟨hc1, hf1⟩ := bcell hb1; have hz1 := hb1.size; (try simp at hz1); have hz1_0 : w.heap.size < w1.heap.size := (by omega); have hz1_0_1 : w.heap.size < w1.heap.size + 1 := (by omega); have hz1_0_2 : w.heap.size < w1.heap.size + 1 + 1 := (by omega); have hz1_0_3 : w.heap.size < w1.heap.size + 1 + 1 + 1 := (by omega); have hz1_1 : w.heap.size + 1 < w1.heap.size := (by omega); have hz1_1_1 : w.heap.size + 1 < w1.heap.size + 1 := (by omega); have hz1_1_2 : w.heap.size + 1 < w1.heap.size + 1 + 1 := (by omega); have hz1_1_3 : w.heap.size + 1 < w1.heap.size + 1 + 1 + 1 := (by omega)
  go_wp2_with (fail)
  refine (N2.out _).mono ?_; rintro e w2 ⟨rfl, hb2⟩; obtain ⟨hc2, hf2⟩ := bcell hb2; have hz2 := hb2.size; (try simp at hz2); have hz2_0 : w.heap.size < w2.heap.size := (by omega); have hz2_0_1 : w.heap.size < w2.heap.size + 1 := (by omega); have hz2_0_2 : w.heap.size < w2.heap.size + 1 + 1 := (by omega); have hz2_0_3 : w.heap.size < w2.heap.size + 1 + 1 + 1 := (by omega); have hz2_1 : w.heap.size + 1 < w2.heap.size := (by omega); have hz2_1_1 : w.heap.size + 1 < w2.heap.size + 1 := (by omega); have hz2_1_2 : w.heap.size + 1 < w2.heap.size + 1 + 1 := (by omega); have hz2_1_3 : w.heap.size + 1 < w2.heap.size + 1 + 1 + 1 := (by omega)
  go_wp2_with (fail)
  refine (F1.out _).mono ?_; rintro e w3 ⟨rfl, hb3⟩; obtain ⟨hc3, hf3⟩ := bcell hb3; have hz3 := hb3.size; (try simp at hz3); have hz3_0 : w.heap.size < w3.heap.size := (by omega); have hz3_0_1 : w.heap.size < w3.heap.size + 1 := (by omega); have hz3_0_2 : w.heap.size < w3.heap.size + 1 + 1 := (by omega); have hz3_0_3 : w.heap.size < w3.heap.size + 1 + 1 + 1 := (by omega); have hz3_1 : w.heap.size + 1 < w3.heap.size := (by omega); have hz3_1_1 : w.heap.size + 1 < w3.heap.size + 1 := (by omega); have hz3_1_2 : w.heap.size + 1 < w3.heap.size + 1 + 1 := (by omega); have hz3_1_3 : w.heap.size + 1 < w3.heap.size + 1 + 1 + 1 := (by omega)
  go_wp2_with (fail)
  refine (F2.out _).mono ?_; rintro e w4 ⟨rfl, hb4⟩; obtain ⟨hc4, hf4⟩ := bcell hb4; have hz4 := hb4.size; (try simp at hz4); have hz4_0 : w.heap.size < w4.heap.size := (by omega); have hz4_0_1 : w.heap.size < w4.heap.size + 1 := (by omega); have hz4_0_2 : w.heap.size < w4.heap.size + 1 + 1 := (by omega); have hz4_0_3 : w.heap.size < w4.heap.size + 1 + 1 + 1 := (by omega); have hz4_1 : w.heap.size + 1 < w4.heap.size := (by omega); have hz4_1_1 : w.heap.size + 1 < w4.heap.size + 1 := (by omega); have hz4_1_2 : w.heap.size + 1 < w4.heap.size + 1 + 1 := (by omega); have hz4_1_3 : w.heap.size + 1 < w4.heap.size + 1 + 1 + 1 := (by omega)
  go_upto_region 3 with (fail)
  go_cut [13, 14] from 38 to 39 (fun s13 s14 w' => ∃ BX BY : Nat, s13 = .pointer (some ⟨BX, 0, none⟩) ∧ s14 = .pointer (some ⟨BY, 0, none⟩) ∧ BX ≠ BY ∧ w.heap.size + 1 < BX ∧ w.heap.size + 1 < BY ∧ KeptC w [(⟨w.heap.size, 0, none⟩, .bool ha), (⟨w.heap.size, 1, none⟩, .int .i64 va), (⟨w.heap.size, 2, none⟩, .int .i64 oa), (⟨w.heap.size, 3, none⟩, .int .i64 aa), (⟨w.heap.size + 1, 0, none⟩, .bool hb), (⟨w.heap.size + 1, 1, none⟩, .int .i64 vb), (⟨w.heap.size + 1, 2, none⟩, .int .i64 ob), (⟨w.heap.size + 1, 3, none⟩, .int .i64 ab), (⟨BX, 0, none⟩, .bool ha), (⟨BX, 1, none⟩, .int .i64 va), (⟨BX, 2, none⟩, .int .i64 oa), (⟨BX, 3, none⟩, .int .i64 aa), (⟨BY, 0, none⟩, .bool hb), (⟨BY, 1, none⟩, .int .i64 vb), (⟨BY, 2, none⟩, .int .i64 ob), (⟨BY, 3, none⟩, .int .i64 ab)] [⟨BX, 0, none⟩, ⟨BX, 1, none⟩, ⟨BX, 2, none⟩, ⟨BX, 3, none⟩, ⟨BY, 0, none⟩, ⟨BY, 1, none⟩, ⟨BY, 2, none⟩, ⟨BY, 3, none⟩] w')
  case first =>
    go_region
    · go_wp2_with (fail)
      go_meet
      exact ⟨w4.heap.size, w4.heap.size + 1, rfl, rfl, by omega, by omega, by omega, (by (repeat' (first | refine KeptC.cons ?_ ?_ | refine KeptC.consF ?_ ?_ ?_ | refine KeptC.mk0 ?_)); all_goals (first | with_reducible assumption | (go_simp; done) | (simp; omega) | exact (by repeat (first | with_reducible refine Below.setCell ?_ (by first | (simp; done) | (simp; omega) | omega) _ | with_reducible refine Below.alloc ?_ (by first | (simp; done) | (simp; omega) | omega) _ | with_reducible refine Below.drew ?_ | with_reducible exact Below.refl _ _ | with_reducible refine Below.trans ?_ (Below.mono hb4 (by first | (simp; done) | (simp; omega) | omega)) | with_reducible refine Below.trans ?_ (Below.mono hb3 (by first | (simp; done) | (simp; omega) | omega)) | with_reducible refine Below.trans ?_ (Below.mono hb2 (by first | (simp; done) | (simp; omega) | omega)) | with_reducible refine Below.trans ?_ (Below.mono hb1 (by first | (simp; done) | (simp; omega) | omega))))))⟩
    · go_wp2_with (fail)
      go_meet
      exact ⟨w4.heap.size + 1, w4.heap.size, rfl, rfl, by omega, by omega, by omega, (by (repeat' (first | refine KeptC.cons ?_ ?_ | refine KeptC.consF ?_ ?_ ?_ | refine KeptC.mk0 ?_)); all_goals (first | with_reducible assumption | (go_simp; done) | (simp; omega) | exact (by repeat (first | with_reducible refine Below.setCell ?_ (by first | (simp; done) | (simp; omega) | omega) _ | with_reducible refine Below.alloc ?_ (by first | (simp; done) | (simp; omega) | omega) _ | with_reducible refine Below.drew ?_ | with_reducible exact Below.refl _ _ | with_reducible refine Below.trans ?_ (Below.mono hb4 (by first | (simp; done) | (simp; omega) | omega)) | with_reducible refine Below.trans ?_ (Below.mono hb3 (by first | (simp; done) | (simp; omega) | omega)) | with_reducible refine Below.trans ?_ (Below.mono hb2 (by first | (simp; done) | (simp; omega) | omega)) | with_reducible refine Below.trans ?_ (Below.mono hb1 (by first | (simp; done) | (simp; omega) | omega))))))⟩
  case rest =>
    obtain ⟨BX, BY, rfl, rfl, hXY, hX1, hY1, hK5⟩ := hcut
    have hYX := hXY.symm
    have hX0 : w.heap.size < BX := by omega
    have hY0 : w.heap.size < BY := by omega
    have hd1 : w.heap.size ≠ BX := by omega
    have hd2 : w.heap.size ≠ BY := by omega
    have hd3 : w.heap.size + 1 ≠ BX := by omega
    have hd4 : w.heap.size + 1 ≠ BY := by omega
    have hd5 : BX ≠ w.heap.size := by omega
    have hd6 : BY ≠ w.heap.size := by omega
    have hd7 : BX ≠ w.heap.size + 1 := by omega
    have hd8 : BY ≠ w.heap.size + 1 := by omega
    clear hc1 hc2 hc3 hc4 hf1 hf2 hf3 hf4 hb1 hb2 hb3 hb4 hz1 hz1_0 hz1_0_1 hz1_0_2 hz1_0_3 hz1_1 hz1_1_1 hz1_1_2 hz1_1_3 hz2 hz2_0 hz2_0_1 hz2_0_2 hz2_0_3 hz2_1 hz2_1_1 hz2_1_2 hz2_1_3 hz3 hz3_0 hz3_0_1 hz3_0_2 hz3_0_3 hz3_1 hz3_1_1 hz3_1_2 hz3_1_3 hz4 hz4_0 hz4_0_1 hz4_0_2 hz4_0_3 hz4_1 hz4_1_1 hz4_1_2 hz4_1_3
    go_wp2
    go_loopw [15] (fun i w' => ∃ (k : Nat) (p q : E), k ≤ 64 ∧ i = .int .i64 k ∧ agedE 1 id x has k ⟨ha, va, oa, aa⟩ p ∧ agedE (-1) id x has k ⟨hb, vb, ob, ab⟩ q ∧ KeptC w [(⟨w.heap.size, 0, none⟩, .bool ha), (⟨w.heap.size, 1, none⟩, .int .i64 va), (⟨w.heap.size, 2, none⟩, .int .i64 oa), (⟨w.heap.size, 3, none⟩, .int .i64 aa), (⟨w.heap.size + 1, 0, none⟩, .bool hb), (⟨w.heap.size + 1, 1, none⟩, .int .i64 vb), (⟨w.heap.size + 1, 2, none⟩, .int .i64 ob), (⟨w.heap.size + 1, 3, none⟩, .int .i64 ab), (⟨BX, 0, none⟩, .bool p.has), (⟨BX, 1, none⟩, .int .i64 p.val), (⟨BX, 2, none⟩, .int .i64 p.org), (⟨BX, 3, none⟩, .int .i64 p.age), (⟨BY, 0, none⟩, .bool q.has), (⟨BY, 1, none⟩, .int .i64 q.val), (⟨BY, 2, none⟩, .int .i64 q.org), (⟨BY, 3, none⟩, .int .i64 q.age)] [⟨BX, 0, none⟩, ⟨BX, 1, none⟩, ⟨BX, 2, none⟩, ⟨BX, 3, none⟩, ⟨BY, 0, none⟩, ⟨BY, 1, none⟩, ⟨BY, 2, none⟩, ⟨BY, 3, none⟩] w') (fun i _ => 64 - (intOf i).toNat)
    case atStart => exact ⟨0, ⟨ha, va, oa, aa⟩, ⟨hb, vb, ob, ab⟩, by omega, rfl, aged_zero FA.out, aged_zero FB.out, hK5⟩
    case round =>
      clear hK5
      obtain ⟨k, ⟨hp, vp, op, ap⟩, ⟨hq, vq, oq, aq⟩, hk, rfl, g1, g2, hK⟩ := hrel
      simp only [] at hK
      simp only [KeptC, List.forall_mem_cons] at hK; obtain ⟨kb6, ⟨kc6_0, kc6_1, kc6_2, kc6_3, kc6_4, kc6_5, kc6_6, kc6_7, kc6_8, kc6_9, kc6_10, kc6_11, kc6_12, kc6_13, kc6_14, kc6_15, _⟩, ⟨kz6_0, kg6_0⟩, ⟨kz6_1, kg6_1⟩, ⟨kz6_2, kg6_2⟩, ⟨kz6_3, kg6_3⟩, ⟨kz6_4, kg6_4⟩, ⟨kz6_5, kg6_5⟩, ⟨kz6_6, kg6_6⟩, ⟨kz6_7, kg6_7⟩, _⟩ := hK
      have kw0 := cell_lt kc6_0
      have kw1 := cell_lt kc6_4
      simp only [] at kw0 kw1
      by_cases hlt : k < 64
      · have ct := fun w => tickTo id x has hp vp op ap hq vq oq aq g1.1 g2.1 FO.out w
        obtain ⟨a1, a2⟩ := aged_tick (Int.natCast_nonneg k) FO.out g1 g2
        generalize tickE id x has ⟨hp, vp, op, ap⟩ ⟨hq, vq, oq, aq⟩ = t at *
        obtain ⟨⟨hu, vu, ou, au⟩, ⟨hv, vv, ov, av⟩⟩ := t
        simp only [] at ct a1 a2
        have hcs := ages_round (Int.natCast_nonneg k) a1 a2
        simp only [] at hcs
        obtain ⟨_, _, bA1, bA2⟩ := fitE_bd FA.out
        simp only [] at bA1 bA2
        have CT := Lib.hid ct; have A1 := Lib.hid a1; have A2 := Lib.hid a2
        clear a1 a2 g1 g2 ct
        rcases hcs with ⟨rfl, rfl⟩ | ⟨rfl, rfl, ho, hvv, hag⟩ | ⟨rfl, rfl, rfl, hx1, hx2, ho⟩ | ⟨rfl, rfl, rfl, hx1, hx2, ho, hvv, hag⟩
        case' inr.inl => subst hvv; have ho' := beq_false_of_ne ho
        case' inr.inr.inl => subst ho
        case' inr.inr.inr => subst hvv; have ho' := beq_false_of_ne ho
        all_goals
          go_wp2_with (fail)
          refine (CT.out _).mono ?_; rintro e w7 ⟨rfl, hb7⟩; obtain ⟨hc7, hf7⟩ := bcell hb7; have hz7 := hb7.size; (try simp at hz7); have hz7_0 : w.heap.size < w7.heap.size := (by omega); have hz7_0_1 : w.heap.size < w7.heap.size + 1 := (by omega); have hz7_0_2 : w.heap.size < w7.heap.size + 1 + 1 := (by omega); have hz7_0_3 : w.heap.size < w7.heap.size + 1 + 1 + 1 := (by omega); have hz7_1 : w.heap.size + 1 < w7.heap.size := (by omega); have hz7_1_1 : w.heap.size + 1 < w7.heap.size + 1 := (by omega); have hz7_1_2 : w.heap.size + 1 < w7.heap.size + 1 + 1 := (by omega); have hz7_1_3 : w.heap.size + 1 < w7.heap.size + 1 + 1 + 1 := (by omega)
          have hX7 : BX < w7.heap.size := by omega
          have hY7 : BY < w7.heap.size := by omega
          go_wp2
          go_roundw
          case rel => exact ⟨k + 1, ⟨_, _, _, _⟩, ⟨_, _, _, _⟩, by omega, by go_num, A1.out, A2.out, (by (repeat' (first | refine KeptC.cons ?_ ?_ | refine KeptC.consF ?_ ?_ ?_ | refine KeptC.mk0 ?_)); all_goals (first | with_reducible assumption | (go_simp; done) | (simp; omega) | exact (by repeat (first | with_reducible refine Below.setCell ?_ (by first | (simp; done) | (simp; omega) | omega) _ | with_reducible refine Below.alloc ?_ (by first | (simp; done) | (simp; omega) | omega) _ | with_reducible refine Below.drew ?_ | with_reducible exact Below.refl _ _ | with_reducible refine Below.trans ?_ (Below.mono hb7 (by first | (simp; done) | (simp; omega) | omega)) | with_reducible refine Below.trans ?_ (Below.mono kb6 (by first | (simp; done) | (simp; omega) | omega))))))⟩
          case measure => simp [intOf]; omega
      · obtain rfl : k = 64 := by omega
        have GP0 := g1.1
        have GQ0 := g2.1
        have G1 := Lib.hid g1; have G2 := Lib.hid g2
        clear g1 g2
        go_upto_region 12 with (fail)
        go_cut [127] from 101 to 126 (fun s127 w' => s127 = .bool false ∧ KeptC w [(⟨BX, 0, none⟩, .bool hp), (⟨BX, 1, none⟩, .int .i64 vp), (⟨BX, 2, none⟩, .int .i64 op), (⟨BX, 3, none⟩, .int .i64 ap), (⟨BY, 0, none⟩, .bool hq), (⟨BY, 1, none⟩, .int .i64 vq), (⟨BY, 2, none⟩, .int .i64 oq), (⟨BY, 3, none⟩, .int .i64 aq)] [⟨BX, 0, none⟩, ⟨BX, 1, none⟩, ⟨BX, 2, none⟩, ⟨BX, 3, none⟩, ⟨BY, 0, none⟩, ⟨BY, 1, none⟩, ⟨BY, 2, none⟩, ⟨BY, 3, none⟩] w')
        case first =>
          rcases aged_end FA.out G1.out with ⟨rfl, e1⟩ | ⟨rfl, e1⟩
          · rcases aged_end FB.out G2.out with ⟨_, e2⟩ | ⟨h0, _⟩
            case inr => cases h0
            have e1' := e1.symm
            have e2' := e2.symm
            simp only [E.mk.injEq] at e1' e2'
            obtain ⟨rfl, rfl, rfl, rfl⟩ := e1'
            obtain ⟨rfl, rfl, rfl, rfl⟩ := e2'
            clear e1 e2
            refine wp_region_quietC_lit (KeptC w [(⟨BX, 0, none⟩, .bool true), (⟨BX, 1, none⟩, .int .i64 x), (⟨BX, 2, none⟩, .int .i64 id), (⟨BX, 3, none⟩, .int .i64 0), (⟨BY, 0, none⟩, .bool true), (⟨BY, 1, none⟩, .int .i64 x), (⟨BY, 2, none⟩, .int .i64 id), (⟨BY, 3, none⟩, .int .i64 0)] [⟨BX, 0, none⟩, ⟨BX, 1, none⟩, ⟨BX, 2, none⟩, ⟨BX, 3, none⟩, ⟨BY, 0, none⟩, ⟨BY, 1, none⟩, ⟨BY, 2, none⟩, ⟨BY, 3, none⟩]) (by kernel_rfl) (by kernel_rfl) ?_ ?_
            · refine KeptC.drewn ?_
              repeat' (first | refine KeptC.cons ?_ ?_ | refine KeptC.consF ?_ ?_ ?_ | refine KeptC.mk0 ?_)
              all_goals (first | with_reducible assumption | (go_simp; done) | (simp; omega) | exact (by repeat (first | with_reducible refine Below.setCell ?_ (by first | (simp; done) | (simp; omega) | omega) _ | with_reducible refine Below.alloc ?_ (by first | (simp; done) | (simp; omega) | omega) _ | with_reducible refine Below.drew ?_ | with_reducible exact Below.refl _ _ | with_reducible refine Below.trans ?_ (Below.mono kb6 (by first | (simp; done) | (simp; omega) | omega)))))
            repeat (first
              | go_big_quiet_skip
              | (go_big_quiet_want; (apply quietC_run); (· intro w' hw'; (have hk' := hw'; simp only [KeptC, List.forall_mem_cons] at hk'; go_split_ands); go_simp; first | done | rfl); (simp only [Act.put, List.setIfInBounds_toArray, List.set_cons_zero, List.set_cons_succ]; go_big_quiet_on))
              | (go_big_quiet_want; (apply quietC_call); (· intro w' hw'; go_simp; first | done | exact ⟨rfl, rfl⟩ | rfl); (· intro w' hw'; first | ((with_reducible refine (own_any _ _ _).mono ?_); rintro e w2 ⟨rfl, hb⟩; exact ⟨rfl, hw'.below hb⟩)); (simp only [Act.put, List.setIfInBounds_toArray, List.set_cons_zero, List.set_cons_succ]; go_big_quiet_on)))
            refine wpQuiet_nil ?_
            intro w8 hk8
            (have hk' := hk8; simp only [KeptC, List.forall_mem_cons] at hk'; go_split_ands); have hkB8 := hk8.1
            go_wp2_with (fail)
            go_meet
            exact ⟨rfl, hk8⟩
          · rcases aged_end FB.out G2.out with ⟨h0, _⟩ | ⟨_, e2⟩
            case inl => cases h0
            have e1' := e1.symm
            have e2' := e2.symm
            simp only [E.mk.injEq] at e1' e2'
            obtain ⟨rfl, rfl, rfl, rfl⟩ := e1'
            obtain ⟨rfl, rfl, rfl, rfl⟩ := e2'
            clear e1 e2
            refine wp_region_quietC_lit (KeptC w [(⟨BX, 0, none⟩, .bool false), (⟨BX, 1, none⟩, .int .i64 0), (⟨BX, 2, none⟩, .int .i64 0), (⟨BX, 3, none⟩, .int .i64 0), (⟨BY, 0, none⟩, .bool false), (⟨BY, 1, none⟩, .int .i64 0), (⟨BY, 2, none⟩, .int .i64 0), (⟨BY, 3, none⟩, .int .i64 0)] [⟨BX, 0, none⟩, ⟨BX, 1, none⟩, ⟨BX, 2, none⟩, ⟨BX, 3, none⟩, ⟨BY, 0, none⟩, ⟨BY, 1, none⟩, ⟨BY, 2, none⟩, ⟨BY, 3, none⟩]) (by kernel_rfl) (by kernel_rfl) ?_ ?_
            · refine KeptC.drewn ?_
              repeat' (first | refine KeptC.cons ?_ ?_ | refine KeptC.consF ?_ ?_ ?_ | refine KeptC.mk0 ?_)
              all_goals (first | with_reducible assumption | (go_simp; done) | (simp; omega) | exact (by repeat (first | with_reducible refine Below.setCell ?_ (by first | (simp; done) | (simp; omega) | omega) _ | with_reducible refine Below.alloc ?_ (by first | (simp; done) | (simp; omega) | omega) _ | with_reducible refine Below.drew ?_ | with_reducible exact Below.refl _ _ | with_reducible refine Below.trans ?_ (Below.mono kb6 (by first | (simp; done) | (simp; omega) | omega)))))
            repeat (first
              | go_big_quiet_skip
              | (go_big_quiet_want; (apply quietC_run); (· intro w' hw'; (have hk' := hw'; simp only [KeptC, List.forall_mem_cons] at hk'; go_split_ands); go_simp; first | done | rfl); (simp only [Act.put, List.setIfInBounds_toArray, List.set_cons_zero, List.set_cons_succ]; go_big_quiet_on))
              | (go_big_quiet_want; (apply quietC_call); (· intro w' hw'; go_simp; first | done | exact ⟨rfl, rfl⟩ | rfl); (· intro w' hw'; first | ((with_reducible refine (own_any _ _ _).mono ?_); rintro e w2 ⟨rfl, hb⟩; exact ⟨rfl, hw'.below hb⟩)); (simp only [Act.put, List.setIfInBounds_toArray, List.set_cons_zero, List.set_cons_succ]; go_big_quiet_on)))
            refine wpQuiet_nil ?_
            intro w8 hk8
            (have hk' := hk8; simp only [KeptC, List.forall_mem_cons] at hk'; go_split_ands); have hkB8 := hk8.1
            go_wp2_with (fail)
            go_meet
            exact ⟨rfl, hk8⟩
        case rest =>
          obtain ⟨rfl, hK9⟩ := hcut
          have GP := Lib.hid GP0; have GQ := Lib.hid GQ0
          clear GP0 GQ0 G1 G2 kb6 kc6_0 kc6_1 kc6_2 kc6_3 kc6_4 kc6_5 kc6_6 kc6_7 kc6_8 kc6_9 kc6_10 kc6_11 kc6_12 kc6_13 kc6_14 kc6_15 kz6_0 kg6_0 kz6_1 kg6_1 kz6_2 kg6_2 kz6_3 kg6_3 kz6_4 kg6_4 kz6_5 kg6_5 kz6_6 kg6_6 kz6_7 kg6_7
          go_wp2
          go_loopg [16] n (fun g i w' => ∃ (j : Nat) (p q : E), g + j = n ∧ i = .int .i64 j ∧ fitE p ∧ fitE q ∧ KeptC w [(⟨BX, 0, none⟩, .bool p.has), (⟨BX, 1, none⟩, .int .i64 p.val), (⟨BX, 2, none⟩, .int .i64 p.org), (⟨BX, 3, none⟩, .int .i64 p.age), (⟨BY, 0, none⟩, .bool q.has), (⟨BY, 1, none⟩, .int .i64 q.val), (⟨BY, 2, none⟩, .int .i64 q.org), (⟨BY, 3, none⟩, .int .i64 q.age)] [⟨BX, 0, none⟩, ⟨BX, 1, none⟩, ⟨BX, 2, none⟩, ⟨BX, 3, none⟩, ⟨BY, 0, none⟩, ⟨BY, 1, none⟩, ⟨BY, 2, none⟩, ⟨BY, 3, none⟩] w')
          case atStart => exact ⟨0, _, _, rfl, rfl, GP.out, GQ.out, hK9⟩
          case round =>
            clear hK9 GP GQ
            clear hp vp op ap hq vq oq aq
            obtain ⟨j, ⟨hp, vp, op, ap⟩, ⟨hq, vq, oq, aq⟩, hj, rfl, g1, g2, hK⟩ := hrel
            simp only [] at hK
            have G1 := Lib.hid g1; have G2 := Lib.hid g2
            clear g1 g2
            simp only [KeptC, List.forall_mem_cons] at hK; obtain ⟨kb9, ⟨kc9_0, kc9_1, kc9_2, kc9_3, kc9_4, kc9_5, kc9_6, kc9_7, _⟩, ⟨kz9_0, kg9_0⟩, ⟨kz9_1, kg9_1⟩, ⟨kz9_2, kg9_2⟩, ⟨kz9_3, kg9_3⟩, ⟨kz9_4, kg9_4⟩, ⟨kz9_5, kg9_5⟩, ⟨kz9_6, kg9_6⟩, ⟨kz9_7, kg9_7⟩, _⟩ := hK
            by_cases hlt : j < n
            · have hlen := HR.out.1
              obtain ⟨ad, rfl, hab, hcs⟩ := HR.out.2 (by omega)
              obtain ⟨t, ht⟩ : ∃ t, ts[j]? = some t := ⟨_, List.getElem?_eq_getElem (by omega)⟩
              obtain ⟨P, hP⟩ : ∃ P, ad.add (j * 4) = P := ⟨_, rfl⟩
              have hPb : P.block < w.heap.size := by rw [← hP, block_of_add]; exact hab
              have hc4 := hcs j t ht
              rw [hP] at hc4
              obtain ⟨c0, c1, c2, c3⟩ := hc4.below hPb kb9
              obtain ⟨ht', vt, ot, tt⟩ := t
              simp only [] at c0 c1 c2 c3
              have hws := kb9.size
              have hPs : P.block < wr.heap.size := by omega
              clear hlen hcs ht hc4
              cases hft : efitB ht' vt ot tt with
              | false =>
                have CF := rfitTo hft
                clear hft
                go_wp2_with (fail)
                refine (CF.out _).mono ?_; rintro e w10 ⟨rfl, hb10⟩; obtain ⟨hc10, hf10⟩ := bcell hb10; have hz10 := hb10.size; (try simp at hz10)
                go_wp2
                go_roundg (gk - 1)
                case measure => omega
                case rel => exact ⟨j + 1, ⟨hp, vp, op, ap⟩, ⟨hq, vq, oq, aq⟩, by omega, by go_num, G1.out, G2.out, (by (repeat' (first | refine KeptC.cons ?_ ?_ | refine KeptC.consF ?_ ?_ ?_ | refine KeptC.mk0 ?_)); all_goals (first | with_reducible assumption | (go_simp; done) | (simp; omega) | exact (by repeat (first | with_reducible refine Below.setCell ?_ (by first | (simp; done) | (simp; omega) | omega) _ | with_reducible refine Below.alloc ?_ (by first | (simp; done) | (simp; omega) | omega) _ | with_reducible refine Below.drew ?_ | with_reducible exact Below.refl _ _ | with_reducible refine Below.trans ?_ (Below.mono hb10 (by first | (simp; done) | (simp; omega) | omega)) | with_reducible refine Below.trans ?_ (Below.mono kb9 (by first | (simp; done) | (simp; omega) | omega))))))⟩
              | true =>
                have CF := rfitTo hft
                have GT : Hid (fitE ⟨ht', vt, ot, tt⟩) := hft
                clear hft
                have ch := fun w => hearTo id hp vp op ap hq vq oq aq ht' vt ot tt ht' vt ot tt G1.out G2.out GT.out GT.out w
                have hu := hear_cases 1 id (t := ⟨ht', vt, ot, tt⟩) G1.out
                have hv := hear_cases (-1) id (t := ⟨ht', vt, ot, tt⟩) G2.out
                have fu : fitE (pickE 1 ⟨hp, vp, op, ap⟩ (othersE id ⟨ht', vt, ot, tt⟩)) := pick_fit G1.out (others_fit GT.out)
                have fv : fitE (pickE (-1) ⟨hq, vq, oq, aq⟩ (othersE id ⟨ht', vt, ot, tt⟩)) := pick_fit G2.out (others_fit GT.out)
                unfold hearE at ch
                simp only [] at ch
                generalize pickE 1 ⟨hp, vp, op, ap⟩ (othersE id ⟨ht', vt, ot, tt⟩) = U at *
                generalize pickE (-1) ⟨hq, vq, oq, aq⟩ (othersE id ⟨ht', vt, ot, tt⟩) = V at *
                obtain ⟨hu', vu, ou, au⟩ := U
                obtain ⟨hv', vv, ov, av⟩ := V
                simp only [] at ch
                have CH := Lib.hid ch; have HU := Lib.hid hu; have HV := Lib.hid hv; have FU := Lib.hid fu; have FV := Lib.hid fv
                clear ch hu hv fu fv
                go_wp2_with (fail)
                refine (CF.out _).mono ?_; rintro e w10 ⟨rfl, hb10⟩; obtain ⟨hc10, hf10⟩ := bcell hb10; have hz10 := hb10.size; (try simp at hz10)
                have hX10 : BX < w10.heap.size := by omega
                have hY10 : BY < w10.heap.size := by omega
                have hP10 : P.block < w10.heap.size := by omega
                have d0 : w10.cell? P = some (.bool ht') := (hb10.cell hPs).trans c0
                have d1 : w10.cell? ⟨P.block, P.off + 1, none⟩ = some (.int .i64 vt) := (hb10.cell (p := ⟨P.block, P.off + 1, none⟩) hPs).trans c1
                have d2 : w10.cell? ⟨P.block, P.off + 2, none⟩ = some (.int .i64 ot) := (hb10.cell (p := ⟨P.block, P.off + 2, none⟩) hPs).trans c2
                have d3 : w10.cell? ⟨P.block, P.off + 3, none⟩ = some (.int .i64 tt) := (hb10.cell (p := ⟨P.block, P.off + 3, none⟩) hPs).trans c3
                have hK10 : KeptC w [(⟨BX, 0, none⟩, .bool hp), (⟨BX, 1, none⟩, .int .i64 vp), (⟨BX, 2, none⟩, .int .i64 op), (⟨BX, 3, none⟩, .int .i64 ap), (⟨BY, 0, none⟩, .bool hq), (⟨BY, 1, none⟩, .int .i64 vq), (⟨BY, 2, none⟩, .int .i64 oq), (⟨BY, 3, none⟩, .int .i64 aq), (P, .bool ht'), (⟨P.block, P.off + 1, none⟩, .int .i64 vt), (⟨P.block, P.off + 2, none⟩, .int .i64 ot), (⟨P.block, P.off + 3, none⟩, .int .i64 tt)] [⟨BX, 0, none⟩, ⟨BX, 1, none⟩, ⟨BX, 2, none⟩, ⟨BX, 3, none⟩, ⟨BY, 0, none⟩, ⟨BY, 1, none⟩, ⟨BY, 2, none⟩, ⟨BY, 3, none⟩] w10 := (by (repeat' (first | refine KeptC.cons ?_ ?_ | refine KeptC.consF ?_ ?_ ?_ | refine KeptC.mk0 ?_)); all_goals (first | with_reducible assumption | (go_simp; done) | (simp; omega) | exact (by repeat (first | with_reducible refine Below.setCell ?_ (by first | (simp; done) | (simp; omega) | omega) _ | with_reducible refine Below.alloc ?_ (by first | (simp; done) | (simp; omega) | omega) _ | with_reducible refine Below.drew ?_ | with_reducible exact Below.refl _ _ | with_reducible refine Below.trans ?_ (Below.mono hb10 (by first | (simp; done) | (simp; omega) | omega)) | with_reducible refine Below.trans ?_ (Below.mono kb9 (by first | (simp; done) | (simp; omega) | omega))))))
                clear c0 c1 c2 c3
                simp only [KeptC, List.forall_mem_cons] at hK10; obtain ⟨kb11, ⟨kc11_0, kc11_1, kc11_2, kc11_3, kc11_4, kc11_5, kc11_6, kc11_7, kc11_8, kc11_9, kc11_10, kc11_11, _⟩, ⟨kz11_0, kg11_0⟩, ⟨kz11_1, kg11_1⟩, ⟨kz11_2, kg11_2⟩, ⟨kz11_3, kg11_3⟩, ⟨kz11_4, kg11_4⟩, ⟨kz11_5, kg11_5⟩, ⟨kz11_6, kg11_6⟩, ⟨kz11_7, kg11_7⟩, _⟩ := hK10
                clear hc10 hf10 hb10 hPs kc9_0 kc9_1 kc9_2 kc9_3 kc9_4 kc9_5 kc9_6 kc9_7 kz9_0 kg9_0 kz9_1 kg9_1 kz9_2 kg9_2 kz9_3 kg9_3 kz9_4 kg9_4 kz9_5 kg9_5 kz9_6 kg9_6 kz9_7 kg9_7 d0 d1 d2 d3
                go_upto_region 18 with (fail)
                go_cut [17, 18] from 128 to 180 (fun s17 s18 w' => ∃ BU BV : Nat, s17 = .pointer (some ⟨BU, 0, none⟩) ∧ s18 = .pointer (some ⟨BV, 0, none⟩) ∧ BU ≠ BV ∧ BX ≠ BU ∧ BY ≠ BU ∧ BX ≠ BV ∧ BY ≠ BV ∧ P.block < BU ∧ P.block < BV ∧ w.heap.size ≤ BU ∧ w.heap.size ≤ BV ∧ KeptC w [(⟨BX, 0, none⟩, .bool hp), (⟨BX, 1, none⟩, .int .i64 vp), (⟨BX, 2, none⟩, .int .i64 op), (⟨BX, 3, none⟩, .int .i64 ap), (⟨BY, 0, none⟩, .bool hq), (⟨BY, 1, none⟩, .int .i64 vq), (⟨BY, 2, none⟩, .int .i64 oq), (⟨BY, 3, none⟩, .int .i64 aq), (⟨BU, 0, none⟩, .bool hu'), (⟨BU, 1, none⟩, .int .i64 vu), (⟨BU, 2, none⟩, .int .i64 ou), (⟨BU, 3, none⟩, .int .i64 au), (⟨BV, 0, none⟩, .bool hv'), (⟨BV, 1, none⟩, .int .i64 vv), (⟨BV, 2, none⟩, .int .i64 ov), (⟨BV, 3, none⟩, .int .i64 av), (P, .bool ht'), (⟨P.block, P.off + 1, none⟩, .int .i64 vt), (⟨P.block, P.off + 2, none⟩, .int .i64 ot), (⟨P.block, P.off + 3, none⟩, .int .i64 tt)] [⟨BX, 0, none⟩, ⟨BX, 1, none⟩, ⟨BX, 2, none⟩, ⟨BX, 3, none⟩, ⟨BY, 0, none⟩, ⟨BY, 1, none⟩, ⟨BY, 2, none⟩, ⟨BY, 3, none⟩] w')
                case first =>
                  have hwl := kb11.size
                  have kS : ∀ w1 w2 : World, (Below w.heap.size w w1 ∧ w1.cell? ⟨BX, 0, none⟩ = some (.bool hp) ∧ w1.cell? ⟨BX, 1, none⟩ = some (.int .i64 vp) ∧ w1.cell? ⟨BX, 2, none⟩ = some (.int .i64 op) ∧ w1.cell? ⟨BX, 3, none⟩ = some (.int .i64 ap) ∧ w1.cell? ⟨BY, 0, none⟩ = some (.bool hq) ∧ w1.cell? ⟨BY, 1, none⟩ = some (.int .i64 vq) ∧ w1.cell? ⟨BY, 2, none⟩ = some (.int .i64 oq) ∧ w1.cell? ⟨BY, 3, none⟩ = some (.int .i64 aq) ∧ w1.cell? P = some (.bool ht') ∧ w1.cell? ⟨P.block, P.off + 1, none⟩ = some (.int .i64 vt) ∧ w1.cell? ⟨P.block, P.off + 2, none⟩ = some (.int .i64 ot) ∧ w1.cell? ⟨P.block, P.off + 3, none⟩ = some (.int .i64 tt) ∧ w1.frozen? ⟨BX, 0, none⟩ = false ∧ w1.frozen? ⟨BX, 1, none⟩ = false ∧ w1.frozen? ⟨BX, 2, none⟩ = false ∧ w1.frozen? ⟨BX, 3, none⟩ = false ∧ w1.frozen? ⟨BY, 0, none⟩ = false ∧ w1.frozen? ⟨BY, 1, none⟩ = false ∧ w1.frozen? ⟨BY, 2, none⟩ = false ∧ w1.frozen? ⟨BY, 3, none⟩ = false) → Below w1.heap.size w1 w2 → (Below w.heap.size w w2 ∧ w2.cell? ⟨BX, 0, none⟩ = some (.bool hp) ∧ w2.cell? ⟨BX, 1, none⟩ = some (.int .i64 vp) ∧ w2.cell? ⟨BX, 2, none⟩ = some (.int .i64 op) ∧ w2.cell? ⟨BX, 3, none⟩ = some (.int .i64 ap) ∧ w2.cell? ⟨BY, 0, none⟩ = some (.bool hq) ∧ w2.cell? ⟨BY, 1, none⟩ = some (.int .i64 vq) ∧ w2.cell? ⟨BY, 2, none⟩ = some (.int .i64 oq) ∧ w2.cell? ⟨BY, 3, none⟩ = some (.int .i64 aq) ∧ w2.cell? P = some (.bool ht') ∧ w2.cell? ⟨P.block, P.off + 1, none⟩ = some (.int .i64 vt) ∧ w2.cell? ⟨P.block, P.off + 2, none⟩ = some (.int .i64 ot) ∧ w2.cell? ⟨P.block, P.off + 3, none⟩ = some (.int .i64 tt) ∧ w2.frozen? ⟨BX, 0, none⟩ = false ∧ w2.frozen? ⟨BX, 1, none⟩ = false ∧ w2.frozen? ⟨BX, 2, none⟩ = false ∧ w2.frozen? ⟨BX, 3, none⟩ = false ∧ w2.frozen? ⟨BY, 0, none⟩ = false ∧ w2.frozen? ⟨BY, 1, none⟩ = false ∧ w2.frozen? ⟨BY, 2, none⟩ = false ∧ w2.frozen? ⟨BY, 3, none⟩ = false) := by
                    rintro w1 w2 ⟨k0, k1, k2, k3, k4, k5, k6, k7, k8, k9, k10, k11, k12, k13, k14, k15, k16, k17, k18, k19, k20⟩ hb
                    exact ⟨k0.trans (hb.mono k0.size), (hb.cell (p := ⟨BX, 0, none⟩) (cell_lt k1)).trans k1, (hb.cell (p := ⟨BX, 1, none⟩) (cell_lt k2)).trans k2, (hb.cell (p := ⟨BX, 2, none⟩) (cell_lt k3)).trans k3, (hb.cell (p := ⟨BX, 3, none⟩) (cell_lt k4)).trans k4, (hb.cell (p := ⟨BY, 0, none⟩) (cell_lt k5)).trans k5, (hb.cell (p := ⟨BY, 1, none⟩) (cell_lt k6)).trans k6, (hb.cell (p := ⟨BY, 2, none⟩) (cell_lt k7)).trans k7, (hb.cell (p := ⟨BY, 3, none⟩) (cell_lt k8)).trans k8, (hb.cell (p := P) (cell_lt k9)).trans k9, (hb.cell (p := ⟨P.block, P.off + 1, none⟩) (cell_lt k10)).trans k10, (hb.cell (p := ⟨P.block, P.off + 2, none⟩) (cell_lt k11)).trans k11, (hb.cell (p := ⟨P.block, P.off + 3, none⟩) (cell_lt k12)).trans k12, (hb.frozen (p := ⟨BX, 0, none⟩) (cell_lt k1)).trans k13, (hb.frozen (p := ⟨BX, 1, none⟩) (cell_lt k2)).trans k14, (hb.frozen (p := ⟨BX, 2, none⟩) (cell_lt k3)).trans k15, (hb.frozen (p := ⟨BX, 3, none⟩) (cell_lt k4)).trans k16, (hb.frozen (p := ⟨BY, 0, none⟩) (cell_lt k5)).trans k17, (hb.frozen (p := ⟨BY, 1, none⟩) (cell_lt k6)).trans k18, (hb.frozen (p := ⟨BY, 2, none⟩) (cell_lt k7)).trans k19, (hb.frozen (p := ⟨BY, 3, none⟩) (cell_lt k8)).trans k20⟩
                  have KA : Hid (∀ (w1 : World) (o1 : Obj), (Below w.heap.size w w1 ∧ w1.cell? ⟨BX, 0, none⟩ = some (.bool hp) ∧ w1.cell? ⟨BX, 1, none⟩ = some (.int .i64 vp) ∧ w1.cell? ⟨BX, 2, none⟩ = some (.int .i64 op) ∧ w1.cell? ⟨BX, 3, none⟩ = some (.int .i64 ap) ∧ w1.cell? ⟨BY, 0, none⟩ = some (.bool hq) ∧ w1.cell? ⟨BY, 1, none⟩ = some (.int .i64 vq) ∧ w1.cell? ⟨BY, 2, none⟩ = some (.int .i64 oq) ∧ w1.cell? ⟨BY, 3, none⟩ = some (.int .i64 aq) ∧ w1.cell? P = some (.bool ht') ∧ w1.cell? ⟨P.block, P.off + 1, none⟩ = some (.int .i64 vt) ∧ w1.cell? ⟨P.block, P.off + 2, none⟩ = some (.int .i64 ot) ∧ w1.cell? ⟨P.block, P.off + 3, none⟩ = some (.int .i64 tt) ∧ w1.frozen? ⟨BX, 0, none⟩ = false ∧ w1.frozen? ⟨BX, 1, none⟩ = false ∧ w1.frozen? ⟨BX, 2, none⟩ = false ∧ w1.frozen? ⟨BX, 3, none⟩ = false ∧ w1.frozen? ⟨BY, 0, none⟩ = false ∧ w1.frozen? ⟨BY, 1, none⟩ = false ∧ w1.frozen? ⟨BY, 2, none⟩ = false ∧ w1.frozen? ⟨BY, 3, none⟩ = false) → (Below w.heap.size w (w1.alloc o1) ∧ (w1.alloc o1).cell? ⟨BX, 0, none⟩ = some (.bool hp) ∧ (w1.alloc o1).cell? ⟨BX, 1, none⟩ = some (.int .i64 vp) ∧ (w1.alloc o1).cell? ⟨BX, 2, none⟩ = some (.int .i64 op) ∧ (w1.alloc o1).cell? ⟨BX, 3, none⟩ = some (.int .i64 ap) ∧ (w1.alloc o1).cell? ⟨BY, 0, none⟩ = some (.bool hq) ∧ (w1.alloc o1).cell? ⟨BY, 1, none⟩ = some (.int .i64 vq) ∧ (w1.alloc o1).cell? ⟨BY, 2, none⟩ = some (.int .i64 oq) ∧ (w1.alloc o1).cell? ⟨BY, 3, none⟩ = some (.int .i64 aq) ∧ (w1.alloc o1).cell? P = some (.bool ht') ∧ (w1.alloc o1).cell? ⟨P.block, P.off + 1, none⟩ = some (.int .i64 vt) ∧ (w1.alloc o1).cell? ⟨P.block, P.off + 2, none⟩ = some (.int .i64 ot) ∧ (w1.alloc o1).cell? ⟨P.block, P.off + 3, none⟩ = some (.int .i64 tt) ∧ (w1.alloc o1).frozen? ⟨BX, 0, none⟩ = false ∧ (w1.alloc o1).frozen? ⟨BX, 1, none⟩ = false ∧ (w1.alloc o1).frozen? ⟨BX, 2, none⟩ = false ∧ (w1.alloc o1).frozen? ⟨BX, 3, none⟩ = false ∧ (w1.alloc o1).frozen? ⟨BY, 0, none⟩ = false ∧ (w1.alloc o1).frozen? ⟨BY, 1, none⟩ = false ∧ (w1.alloc o1).frozen? ⟨BY, 2, none⟩ = false ∧ (w1.alloc o1).frozen? ⟨BY, 3, none⟩ = false)) := fun w1 o1 h => kS w1 _ h ((Below.refl _ _).alloc (Nat.le_refl _) _)
                  have KD : Hid (∀ (w1 : World), (Below w.heap.size w w1 ∧ w1.cell? ⟨BX, 0, none⟩ = some (.bool hp) ∧ w1.cell? ⟨BX, 1, none⟩ = some (.int .i64 vp) ∧ w1.cell? ⟨BX, 2, none⟩ = some (.int .i64 op) ∧ w1.cell? ⟨BX, 3, none⟩ = some (.int .i64 ap) ∧ w1.cell? ⟨BY, 0, none⟩ = some (.bool hq) ∧ w1.cell? ⟨BY, 1, none⟩ = some (.int .i64 vq) ∧ w1.cell? ⟨BY, 2, none⟩ = some (.int .i64 oq) ∧ w1.cell? ⟨BY, 3, none⟩ = some (.int .i64 aq) ∧ w1.cell? P = some (.bool ht') ∧ w1.cell? ⟨P.block, P.off + 1, none⟩ = some (.int .i64 vt) ∧ w1.cell? ⟨P.block, P.off + 2, none⟩ = some (.int .i64 ot) ∧ w1.cell? ⟨P.block, P.off + 3, none⟩ = some (.int .i64 tt) ∧ w1.frozen? ⟨BX, 0, none⟩ = false ∧ w1.frozen? ⟨BX, 1, none⟩ = false ∧ w1.frozen? ⟨BX, 2, none⟩ = false ∧ w1.frozen? ⟨BX, 3, none⟩ = false ∧ w1.frozen? ⟨BY, 0, none⟩ = false ∧ w1.frozen? ⟨BY, 1, none⟩ = false ∧ w1.frozen? ⟨BY, 2, none⟩ = false ∧ w1.frozen? ⟨BY, 3, none⟩ = false) → (Below w.heap.size w w1.drew ∧ w1.drew.cell? ⟨BX, 0, none⟩ = some (.bool hp) ∧ w1.drew.cell? ⟨BX, 1, none⟩ = some (.int .i64 vp) ∧ w1.drew.cell? ⟨BX, 2, none⟩ = some (.int .i64 op) ∧ w1.drew.cell? ⟨BX, 3, none⟩ = some (.int .i64 ap) ∧ w1.drew.cell? ⟨BY, 0, none⟩ = some (.bool hq) ∧ w1.drew.cell? ⟨BY, 1, none⟩ = some (.int .i64 vq) ∧ w1.drew.cell? ⟨BY, 2, none⟩ = some (.int .i64 oq) ∧ w1.drew.cell? ⟨BY, 3, none⟩ = some (.int .i64 aq) ∧ w1.drew.cell? P = some (.bool ht') ∧ w1.drew.cell? ⟨P.block, P.off + 1, none⟩ = some (.int .i64 vt) ∧ w1.drew.cell? ⟨P.block, P.off + 2, none⟩ = some (.int .i64 ot) ∧ w1.drew.cell? ⟨P.block, P.off + 3, none⟩ = some (.int .i64 tt) ∧ w1.drew.frozen? ⟨BX, 0, none⟩ = false ∧ w1.drew.frozen? ⟨BX, 1, none⟩ = false ∧ w1.drew.frozen? ⟨BX, 2, none⟩ = false ∧ w1.drew.frozen? ⟨BX, 3, none⟩ = false ∧ w1.drew.frozen? ⟨BY, 0, none⟩ = false ∧ w1.drew.frozen? ⟨BY, 1, none⟩ = false ∧ w1.drew.frozen? ⟨BY, 2, none⟩ = false ∧ w1.drew.frozen? ⟨BY, 3, none⟩ = false)) := fun w1 h => kS w1 _ h ((Below.refl _ _).drew)
                  have KT : Hid (∀ (W : World) (BU BV : Nat), (Below w.heap.size w W ∧ W.cell? ⟨BX, 0, none⟩ = some (.bool hp) ∧ W.cell? ⟨BX, 1, none⟩ = some (.int .i64 vp) ∧ W.cell? ⟨BX, 2, none⟩ = some (.int .i64 op) ∧ W.cell? ⟨BX, 3, none⟩ = some (.int .i64 ap) ∧ W.cell? ⟨BY, 0, none⟩ = some (.bool hq) ∧ W.cell? ⟨BY, 1, none⟩ = some (.int .i64 vq) ∧ W.cell? ⟨BY, 2, none⟩ = some (.int .i64 oq) ∧ W.cell? ⟨BY, 3, none⟩ = some (.int .i64 aq) ∧ W.cell? P = some (.bool ht') ∧ W.cell? ⟨P.block, P.off + 1, none⟩ = some (.int .i64 vt) ∧ W.cell? ⟨P.block, P.off + 2, none⟩ = some (.int .i64 ot) ∧ W.cell? ⟨P.block, P.off + 3, none⟩ = some (.int .i64 tt) ∧ W.frozen? ⟨BX, 0, none⟩ = false ∧ W.frozen? ⟨BX, 1, none⟩ = false ∧ W.frozen? ⟨BX, 2, none⟩ = false ∧ W.frozen? ⟨BX, 3, none⟩ = false ∧ W.frozen? ⟨BY, 0, none⟩ = false ∧ W.frozen? ⟨BY, 1, none⟩ = false ∧ W.frozen? ⟨BY, 2, none⟩ = false ∧ W.frozen? ⟨BY, 3, none⟩ = false) → W.cell? ⟨BU, 0, none⟩ = some (.bool hu') → W.cell? ⟨BU, 1, none⟩ = some (.int .i64 vu) → W.cell? ⟨BU, 2, none⟩ = some (.int .i64 ou) → W.cell? ⟨BU, 3, none⟩ = some (.int .i64 au) → W.cell? ⟨BV, 0, none⟩ = some (.bool hv') → W.cell? ⟨BV, 1, none⟩ = some (.int .i64 vv) → W.cell? ⟨BV, 2, none⟩ = some (.int .i64 ov) → W.cell? ⟨BV, 3, none⟩ = some (.int .i64 av) → KeptC w [(⟨BX, 0, none⟩, .bool hp), (⟨BX, 1, none⟩, .int .i64 vp), (⟨BX, 2, none⟩, .int .i64 op), (⟨BX, 3, none⟩, .int .i64 ap), (⟨BY, 0, none⟩, .bool hq), (⟨BY, 1, none⟩, .int .i64 vq), (⟨BY, 2, none⟩, .int .i64 oq), (⟨BY, 3, none⟩, .int .i64 aq), (⟨BU, 0, none⟩, .bool hu'), (⟨BU, 1, none⟩, .int .i64 vu), (⟨BU, 2, none⟩, .int .i64 ou), (⟨BU, 3, none⟩, .int .i64 au), (⟨BV, 0, none⟩, .bool hv'), (⟨BV, 1, none⟩, .int .i64 vv), (⟨BV, 2, none⟩, .int .i64 ov), (⟨BV, 3, none⟩, .int .i64 av), (P, .bool ht'), (⟨P.block, P.off + 1, none⟩, .int .i64 vt), (⟨P.block, P.off + 2, none⟩, .int .i64 ot), (⟨P.block, P.off + 3, none⟩, .int .i64 tt)] [⟨BX, 0, none⟩, ⟨BX, 1, none⟩, ⟨BX, 2, none⟩, ⟨BX, 3, none⟩, ⟨BY, 0, none⟩, ⟨BY, 1, none⟩, ⟨BY, 2, none⟩, ⟨BY, 3, none⟩] W) := by
                    rintro W BU BV ⟨k0, k1, k2, k3, k4, k5, k6, k7, k8, k9, k10, k11, k12, k13, k14, k15, k16, k17, k18, k19, k20⟩ u0 u1 u2 u3 v0 v1 v2 v3
                    exact KeptC.cons k1 (KeptC.cons k2 (KeptC.cons k3 (KeptC.cons k4 (KeptC.cons k5 (KeptC.cons k6 (KeptC.cons k7 (KeptC.cons k8 (KeptC.cons u0 (KeptC.cons u1 (KeptC.cons u2 (KeptC.cons u3 (KeptC.cons v0 (KeptC.cons v1 (KeptC.cons v2 (KeptC.cons v3 (KeptC.cons k9 (KeptC.cons k10 (KeptC.cons k11 (KeptC.cons k12 (KeptC.consF (cell_lt k1) k13 (KeptC.consF (cell_lt k2) k14 (KeptC.consF (cell_lt k3) k15 (KeptC.consF (cell_lt k4) k16 (KeptC.consF (cell_lt k5) k17 (KeptC.consF (cell_lt k6) k18 (KeptC.consF (cell_lt k7) k19 (KeptC.consF (cell_lt k8) k20 (KeptC.mk0 k0))))))))))))))))))))))))))))
                  have KS := Lib.hid kS
                  clear kS
                  have kF : ∀ (w1 : World) (b o1 : Nat) (u1 : Value), (Below w.heap.size w w1 ∧ w1.cell? ⟨BX, 0, none⟩ = some (.bool hp) ∧ w1.cell? ⟨BX, 1, none⟩ = some (.int .i64 vp) ∧ w1.cell? ⟨BX, 2, none⟩ = some (.int .i64 op) ∧ w1.cell? ⟨BX, 3, none⟩ = some (.int .i64 ap) ∧ w1.cell? ⟨BY, 0, none⟩ = some (.bool hq) ∧ w1.cell? ⟨BY, 1, none⟩ = some (.int .i64 vq) ∧ w1.cell? ⟨BY, 2, none⟩ = some (.int .i64 oq) ∧ w1.cell? ⟨BY, 3, none⟩ = some (.int .i64 aq) ∧ w1.cell? P = some (.bool ht') ∧ w1.cell? ⟨P.block, P.off + 1, none⟩ = some (.int .i64 vt) ∧ w1.cell? ⟨P.block, P.off + 2, none⟩ = some (.int .i64 ot) ∧ w1.cell? ⟨P.block, P.off + 3, none⟩ = some (.int .i64 tt) ∧ w1.frozen? ⟨BX, 0, none⟩ = false ∧ w1.frozen? ⟨BX, 1, none⟩ = false ∧ w1.frozen? ⟨BX, 2, none⟩ = false ∧ w1.frozen? ⟨BX, 3, none⟩ = false ∧ w1.frozen? ⟨BY, 0, none⟩ = false ∧ w1.frozen? ⟨BY, 1, none⟩ = false ∧ w1.frozen? ⟨BY, 2, none⟩ = false ∧ w1.frozen? ⟨BY, 3, none⟩ = false) → w10.heap.size ≤ b → (Below w.heap.size w (w1.setCell ⟨b, o1, none⟩ u1) ∧ (w1.setCell ⟨b, o1, none⟩ u1).cell? ⟨BX, 0, none⟩ = some (.bool hp) ∧ (w1.setCell ⟨b, o1, none⟩ u1).cell? ⟨BX, 1, none⟩ = some (.int .i64 vp) ∧ (w1.setCell ⟨b, o1, none⟩ u1).cell? ⟨BX, 2, none⟩ = some (.int .i64 op) ∧ (w1.setCell ⟨b, o1, none⟩ u1).cell? ⟨BX, 3, none⟩ = some (.int .i64 ap) ∧ (w1.setCell ⟨b, o1, none⟩ u1).cell? ⟨BY, 0, none⟩ = some (.bool hq) ∧ (w1.setCell ⟨b, o1, none⟩ u1).cell? ⟨BY, 1, none⟩ = some (.int .i64 vq) ∧ (w1.setCell ⟨b, o1, none⟩ u1).cell? ⟨BY, 2, none⟩ = some (.int .i64 oq) ∧ (w1.setCell ⟨b, o1, none⟩ u1).cell? ⟨BY, 3, none⟩ = some (.int .i64 aq) ∧ (w1.setCell ⟨b, o1, none⟩ u1).cell? P = some (.bool ht') ∧ (w1.setCell ⟨b, o1, none⟩ u1).cell? ⟨P.block, P.off + 1, none⟩ = some (.int .i64 vt) ∧ (w1.setCell ⟨b, o1, none⟩ u1).cell? ⟨P.block, P.off + 2, none⟩ = some (.int .i64 ot) ∧ (w1.setCell ⟨b, o1, none⟩ u1).cell? ⟨P.block, P.off + 3, none⟩ = some (.int .i64 tt) ∧ (w1.setCell ⟨b, o1, none⟩ u1).frozen? ⟨BX, 0, none⟩ = false ∧ (w1.setCell ⟨b, o1, none⟩ u1).frozen? ⟨BX, 1, none⟩ = false ∧ (w1.setCell ⟨b, o1, none⟩ u1).frozen? ⟨BX, 2, none⟩ = false ∧ (w1.setCell ⟨b, o1, none⟩ u1).frozen? ⟨BX, 3, none⟩ = false ∧ (w1.setCell ⟨b, o1, none⟩ u1).frozen? ⟨BY, 0, none⟩ = false ∧ (w1.setCell ⟨b, o1, none⟩ u1).frozen? ⟨BY, 1, none⟩ = false ∧ (w1.setCell ⟨b, o1, none⟩ u1).frozen? ⟨BY, 2, none⟩ = false ∧ (w1.setCell ⟨b, o1, none⟩ u1).frozen? ⟨BY, 3, none⟩ = false) := by
                    rintro w1 b o1 u1 ⟨k0, k1, k2, k3, k4, k5, k6, k7, k8, k9, k10, k11, k12, k13, k14, k15, k16, k17, k18, k19, k20⟩ hbb
                    have hbw : w.heap.size ≤ b := by omega
                    exact ⟨k0.trans ((Below.refl _ _).setCell hbw _), (World.cell?_setCell_far _ _ _ _ (by simp only []; omega)).trans k1, (World.cell?_setCell_far _ _ _ _ (by simp only []; omega)).trans k2, (World.cell?_setCell_far _ _ _ _ (by simp only []; omega)).trans k3, (World.cell?_setCell_far _ _ _ _ (by simp only []; omega)).trans k4, (World.cell?_setCell_far _ _ _ _ (by simp only []; omega)).trans k5, (World.cell?_setCell_far _ _ _ _ (by simp only []; omega)).trans k6, (World.cell?_setCell_far _ _ _ _ (by simp only []; omega)).trans k7, (World.cell?_setCell_far _ _ _ _ (by simp only []; omega)).trans k8, (World.cell?_setCell_far _ _ _ _ (by simp only []; omega)).trans k9, (World.cell?_setCell_far _ _ _ _ (by simp only []; omega)).trans k10, (World.cell?_setCell_far _ _ _ _ (by simp only []; omega)).trans k11, (World.cell?_setCell_far _ _ _ _ (by simp only []; omega)).trans k12, (by rw [World.frozen?_setCell]; exact k13), (by rw [World.frozen?_setCell]; exact k14), (by rw [World.frozen?_setCell]; exact k15), (by rw [World.frozen?_setCell]; exact k16), (by rw [World.frozen?_setCell]; exact k17), (by rw [World.frozen?_setCell]; exact k18), (by rw [World.frozen?_setCell]; exact k19), (by rw [World.frozen?_setCell]; exact k20)⟩
                  have KF := Lib.hid kF
                  clear kF
                  have HI : Hid (Below w.heap.size w w10 ∧ w10.cell? ⟨BX, 0, none⟩ = some (.bool hp) ∧ w10.cell? ⟨BX, 1, none⟩ = some (.int .i64 vp) ∧ w10.cell? ⟨BX, 2, none⟩ = some (.int .i64 op) ∧ w10.cell? ⟨BX, 3, none⟩ = some (.int .i64 ap) ∧ w10.cell? ⟨BY, 0, none⟩ = some (.bool hq) ∧ w10.cell? ⟨BY, 1, none⟩ = some (.int .i64 vq) ∧ w10.cell? ⟨BY, 2, none⟩ = some (.int .i64 oq) ∧ w10.cell? ⟨BY, 3, none⟩ = some (.int .i64 aq) ∧ w10.cell? P = some (.bool ht') ∧ w10.cell? ⟨P.block, P.off + 1, none⟩ = some (.int .i64 vt) ∧ w10.cell? ⟨P.block, P.off + 2, none⟩ = some (.int .i64 ot) ∧ w10.cell? ⟨P.block, P.off + 3, none⟩ = some (.int .i64 tt) ∧ w10.frozen? ⟨BX, 0, none⟩ = false ∧ w10.frozen? ⟨BX, 1, none⟩ = false ∧ w10.frozen? ⟨BX, 2, none⟩ = false ∧ w10.frozen? ⟨BX, 3, none⟩ = false ∧ w10.frozen? ⟨BY, 0, none⟩ = false ∧ w10.frozen? ⟨BY, 1, none⟩ = false ∧ w10.frozen? ⟨BY, 2, none⟩ = false ∧ w10.frozen? ⟨BY, 3, none⟩ = false) := ⟨kb11, kc11_0, kc11_1, kc11_2, kc11_3, kc11_4, kc11_5, kc11_6, kc11_7, kc11_8, kc11_9, kc11_10, kc11_11, kg11_0, kg11_1, kg11_2, kg11_3, kg11_4, kg11_5, kg11_6, kg11_7⟩
                  go_region_held3 (fun w' => Below w.heap.size w w' ∧ w'.cell? ⟨BX, 0, none⟩ = some (.bool hp) ∧ w'.cell? ⟨BX, 1, none⟩ = some (.int .i64 vp) ∧ w'.cell? ⟨BX, 2, none⟩ = some (.int .i64 op) ∧ w'.cell? ⟨BX, 3, none⟩ = some (.int .i64 ap) ∧ w'.cell? ⟨BY, 0, none⟩ = some (.bool hq) ∧ w'.cell? ⟨BY, 1, none⟩ = some (.int .i64 vq) ∧ w'.cell? ⟨BY, 2, none⟩ = some (.int .i64 oq) ∧ w'.cell? ⟨BY, 3, none⟩ = some (.int .i64 aq) ∧ w'.cell? P = some (.bool ht') ∧ w'.cell? ⟨P.block, P.off + 1, none⟩ = some (.int .i64 vt) ∧ w'.cell? ⟨P.block, P.off + 2, none⟩ = some (.int .i64 ot) ∧ w'.cell? ⟨P.block, P.off + 3, none⟩ = some (.int .i64 tt) ∧ w'.frozen? ⟨BX, 0, none⟩ = false ∧ w'.frozen? ⟨BX, 1, none⟩ = false ∧ w'.frozen? ⟨BX, 2, none⟩ = false ∧ w'.frozen? ⟨BX, 3, none⟩ = false ∧ w'.frozen? ⟨BY, 0, none⟩ = false ∧ w'.frozen? ⟨BY, 1, none⟩ = false ∧ w'.frozen? ⟨BY, 2, none⟩ = false ∧ w'.frozen? ⟨BY, 3, none⟩ = false) (repeat (first | with_reducible assumption | with_reducible exact HI.out | with_reducible refine KD.out _ ?_ | with_reducible refine KA.out _ _ ?_ | with_reducible refine KF.out _ _ _ _ ?_ (by omega) | with_reducible refine KS.out _ _ ?_ (by assumption))) (first | (with_reducible refine (CH.out _).mono ?_); rintro e w2 ⟨rfl, hb2⟩; obtain ⟨hc2, hf2⟩ := bcell hb2; have hz2 := hb2.size; (try simp at hz2); (try have hq1 : w10.heap.size < w2.heap.size := (by omega)); (try have hq2 : w10.heap.size + 1 < w2.heap.size := (by omega)); (try have hq3 : w10.heap.size < w2.heap.size + 1 := (by omega)); (try have hq4 : w10.heap.size + 1 < w2.heap.size + 1 := (by omega)); (try have hq5 : w10.heap.size < w2.heap.size + 1 + 1 := (by omega)))
                  · go_wp2_with (fail)
                    go_meet
                    (try have q0 : w2.cell? ⟨w10.heap.size, 0, none⟩ = some (.bool false) := by go_simp); (try have q1 : w2.cell? ⟨w10.heap.size, 1, none⟩ = some (.int .i64 0) := by go_simp); (try have q2 : w2.cell? ⟨w10.heap.size, 2, none⟩ = some (.int .i64 0) := by go_simp); (try have q3 : w2.cell? ⟨w10.heap.size, 3, none⟩ = some (.int .i64 0) := by go_simp); (try have r0 : w2.cell? ⟨w10.heap.size + 1, 0, none⟩ = some (.bool false) := by go_simp); (try have r1 : w2.cell? ⟨w10.heap.size + 1, 1, none⟩ = some (.int .i64 0) := by go_simp); (try have r2 : w2.cell? ⟨w10.heap.size + 1, 2, none⟩ = some (.int .i64 0) := by go_simp); (try have r3 : w2.cell? ⟨w10.heap.size + 1, 3, none⟩ = some (.int .i64 0) := by go_simp)
                    refine ⟨w2.heap.size, w2.heap.size + 1, rfl, rfl, by omega, by omega, by omega, by omega, by omega, by omega, by omega, by omega, by omega, KT.out _ _ _ (by assumption) ?_ ?_ ?_ ?_ ?_ ?_ ?_ ?_⟩ <;> go_simp
                  · go_wp2_with (fail)
                    go_meet
                    (try have q0 : w2.cell? ⟨w10.heap.size, 0, none⟩ = some (.bool false) := by go_simp); (try have q1 : w2.cell? ⟨w10.heap.size, 1, none⟩ = some (.int .i64 0) := by go_simp); (try have q2 : w2.cell? ⟨w10.heap.size, 2, none⟩ = some (.int .i64 0) := by go_simp); (try have q3 : w2.cell? ⟨w10.heap.size, 3, none⟩ = some (.int .i64 0) := by go_simp); (try have r0 : w2.cell? ⟨w10.heap.size + 1, 0, none⟩ = some (.bool false) := by go_simp); (try have r1 : w2.cell? ⟨w10.heap.size + 1, 1, none⟩ = some (.int .i64 0) := by go_simp); (try have r2 : w2.cell? ⟨w10.heap.size + 1, 2, none⟩ = some (.int .i64 0) := by go_simp); (try have r3 : w2.cell? ⟨w10.heap.size + 1, 3, none⟩ = some (.int .i64 0) := by go_simp)
                    refine ⟨w2.heap.size + 1, w2.heap.size, rfl, rfl, by omega, by omega, by omega, by omega, by omega, by omega, by omega, by omega, by omega, KT.out _ _ _ (by assumption) ?_ ?_ ?_ ?_ ?_ ?_ ?_ ?_⟩ <;> go_simp
                  · go_wp2_with (fail)
                    go_meet
                    (try have q0 : w2.cell? ⟨w10.heap.size, 0, none⟩ = some (.bool false) := by go_simp); (try have q1 : w2.cell? ⟨w10.heap.size, 1, none⟩ = some (.int .i64 0) := by go_simp); (try have q2 : w2.cell? ⟨w10.heap.size, 2, none⟩ = some (.int .i64 0) := by go_simp); (try have q3 : w2.cell? ⟨w10.heap.size, 3, none⟩ = some (.int .i64 0) := by go_simp); (try have r0 : w2.cell? ⟨w10.heap.size + 1, 0, none⟩ = some (.bool false) := by go_simp); (try have r1 : w2.cell? ⟨w10.heap.size + 1, 1, none⟩ = some (.int .i64 0) := by go_simp); (try have r2 : w2.cell? ⟨w10.heap.size + 1, 2, none⟩ = some (.int .i64 0) := by go_simp); (try have r3 : w2.cell? ⟨w10.heap.size + 1, 3, none⟩ = some (.int .i64 0) := by go_simp)
                    refine ⟨w10.heap.size, w2.heap.size, rfl, rfl, by omega, by omega, by omega, by omega, by omega, by omega, by omega, by omega, by omega, KT.out _ _ _ (by assumption) ?_ ?_ ?_ ?_ ?_ ?_ ?_ ?_⟩ <;> go_simp
                  · go_wp2_with (fail)
                    go_meet
                    (try have q0 : w2.cell? ⟨w10.heap.size, 0, none⟩ = some (.bool false) := by go_simp); (try have q1 : w2.cell? ⟨w10.heap.size, 1, none⟩ = some (.int .i64 0) := by go_simp); (try have q2 : w2.cell? ⟨w10.heap.size, 2, none⟩ = some (.int .i64 0) := by go_simp); (try have q3 : w2.cell? ⟨w10.heap.size, 3, none⟩ = some (.int .i64 0) := by go_simp); (try have r0 : w2.cell? ⟨w10.heap.size + 1, 0, none⟩ = some (.bool false) := by go_simp); (try have r1 : w2.cell? ⟨w10.heap.size + 1, 1, none⟩ = some (.int .i64 0) := by go_simp); (try have r2 : w2.cell? ⟨w10.heap.size + 1, 2, none⟩ = some (.int .i64 0) := by go_simp); (try have r3 : w2.cell? ⟨w10.heap.size + 1, 3, none⟩ = some (.int .i64 0) := by go_simp)
                    refine ⟨w10.heap.size, w10.heap.size + 1, rfl, rfl, by omega, by omega, by omega, by omega, by omega, by omega, by omega, by omega, by omega, KT.out _ _ _ (by assumption) ?_ ?_ ?_ ?_ ?_ ?_ ?_ ?_⟩ <;> go_simp
                  · go_wp2_with (fail)
                    go_meet
                    (try have q0 : w2.cell? ⟨w10.heap.size, 0, none⟩ = some (.bool false) := by go_simp); (try have q1 : w2.cell? ⟨w10.heap.size, 1, none⟩ = some (.int .i64 0) := by go_simp); (try have q2 : w2.cell? ⟨w10.heap.size, 2, none⟩ = some (.int .i64 0) := by go_simp); (try have q3 : w2.cell? ⟨w10.heap.size, 3, none⟩ = some (.int .i64 0) := by go_simp); (try have r0 : w2.cell? ⟨w10.heap.size + 1, 0, none⟩ = some (.bool false) := by go_simp); (try have r1 : w2.cell? ⟨w10.heap.size + 1, 1, none⟩ = some (.int .i64 0) := by go_simp); (try have r2 : w2.cell? ⟨w10.heap.size + 1, 2, none⟩ = some (.int .i64 0) := by go_simp); (try have r3 : w2.cell? ⟨w10.heap.size + 1, 3, none⟩ = some (.int .i64 0) := by go_simp)
                    refine ⟨w2.heap.size, w10.heap.size, rfl, rfl, by omega, by omega, by omega, by omega, by omega, by omega, by omega, by omega, by omega, KT.out _ _ _ (by assumption) ?_ ?_ ?_ ?_ ?_ ?_ ?_ ?_⟩ <;> go_simp
                  · go_wp2_with (fail)
                    go_meet
                    (try have q0 : w2.cell? ⟨w10.heap.size, 0, none⟩ = some (.bool false) := by go_simp); (try have q1 : w2.cell? ⟨w10.heap.size, 1, none⟩ = some (.int .i64 0) := by go_simp); (try have q2 : w2.cell? ⟨w10.heap.size, 2, none⟩ = some (.int .i64 0) := by go_simp); (try have q3 : w2.cell? ⟨w10.heap.size, 3, none⟩ = some (.int .i64 0) := by go_simp); (try have r0 : w2.cell? ⟨w10.heap.size + 1, 0, none⟩ = some (.bool false) := by go_simp); (try have r1 : w2.cell? ⟨w10.heap.size + 1, 1, none⟩ = some (.int .i64 0) := by go_simp); (try have r2 : w2.cell? ⟨w10.heap.size + 1, 2, none⟩ = some (.int .i64 0) := by go_simp); (try have r3 : w2.cell? ⟨w10.heap.size + 1, 3, none⟩ = some (.int .i64 0) := by go_simp)
                    refine ⟨w10.heap.size + 1, w10.heap.size, rfl, rfl, by omega, by omega, by omega, by omega, by omega, by omega, by omega, by omega, by omega, KT.out _ _ _ (by assumption) ?_ ?_ ?_ ?_ ?_ ?_ ?_ ?_⟩ <;> go_simp
                case rest =>
                  obtain ⟨BU, BV, rfl, rfl, hUV, xu, yu, xv, yv, pu, pv, hU0, hV0, hK12⟩ := hcut
                  have hVU := hUV.symm; have xu' := xu.symm; have yu' := yu.symm; have xv' := xv.symm; have yv' := yv.symm
                  have pu' : P.block ≠ BU := by omega
                  have pv' : P.block ≠ BV := by omega
                  clear hX10 hY10 hP10 kb11 kc11_0 kc11_1 kc11_2 kc11_3 kc11_4 kc11_5 kc11_6 kc11_7 kc11_8 kc11_9 kc11_10 kc11_11 kz11_0 kg11_0 kz11_1 kg11_1 kz11_2 kg11_2 kz11_3 kg11_3 kz11_4 kg11_4 kz11_5 kg11_5 kz11_6 kg11_6 kz11_7 kg11_7 hz10 kb9
                  have hK13 := hK12
                  simp only [KeptC, List.forall_mem_cons] at hK12; obtain ⟨kb12, ⟨kc12_0, kc12_1, kc12_2, kc12_3, kc12_4, kc12_5, kc12_6, kc12_7, kc12_8, kc12_9, kc12_10, kc12_11, kc12_12, kc12_13, kc12_14, kc12_15, kc12_16, kc12_17, kc12_18, kc12_19, _⟩, ⟨kz12_0, kg12_0⟩, ⟨kz12_1, kg12_1⟩, ⟨kz12_2, kg12_2⟩, ⟨kz12_3, kg12_3⟩, ⟨kz12_4, kg12_4⟩, ⟨kz12_5, kg12_5⟩, ⟨kz12_6, kg12_6⟩, ⟨kz12_7, kg12_7⟩, _⟩ := hK12
                  go_upto_region 19 with (fail)
                  go_cut [178] from 128 to 177 (fun s178 w' => s178 = .bool false ∧ KeptC w [(⟨BX, 0, none⟩, .bool hp), (⟨BX, 1, none⟩, .int .i64 vp), (⟨BX, 2, none⟩, .int .i64 op), (⟨BX, 3, none⟩, .int .i64 ap), (⟨BY, 0, none⟩, .bool hq), (⟨BY, 1, none⟩, .int .i64 vq), (⟨BY, 2, none⟩, .int .i64 oq), (⟨BY, 3, none⟩, .int .i64 aq), (⟨BU, 0, none⟩, .bool hu'), (⟨BU, 1, none⟩, .int .i64 vu), (⟨BU, 2, none⟩, .int .i64 ou), (⟨BU, 3, none⟩, .int .i64 au), (⟨BV, 0, none⟩, .bool hv'), (⟨BV, 1, none⟩, .int .i64 vv), (⟨BV, 2, none⟩, .int .i64 ov), (⟨BV, 3, none⟩, .int .i64 av), (P, .bool ht'), (⟨P.block, P.off + 1, none⟩, .int .i64 vt), (⟨P.block, P.off + 2, none⟩, .int .i64 ot), (⟨P.block, P.off + 3, none⟩, .int .i64 tt)] [⟨BX, 0, none⟩, ⟨BX, 1, none⟩, ⟨BX, 2, none⟩, ⟨BX, 3, none⟩, ⟨BY, 0, none⟩, ⟨BY, 1, none⟩, ⟨BY, 2, none⟩, ⟨BY, 3, none⟩] w')
                  case first =>
                    have hu := ext_cases HU.out
                    have hv := ext_cases HV.out
                    simp only [E.mk.injEq] at hu hv
                    clear HU HV FU FV CH CF GT G1 G2
                    rcases hu with ⟨rfl, rfl, rfl, rfl⟩ | ⟨⟨rfl, rfl, rfl, rfl⟩, f1⟩
                    all_goals rcases hv with ⟨rfl, rfl, rfl, rfl⟩ | ⟨⟨rfl, rfl, rfl, rfl⟩, f2⟩
                    all_goals
                      refine wp_region_quietC_lit (KeptC w _ _) (by kernel_rfl) (by kernel_rfl) (KeptC.drewn hK13) ?_
                      clear hK13
                      repeat (first
                        | go_big_quiet_skip
                        | (go_big_quiet_want; (apply quietC_run); (· intro w' hw'; (have hk' := hw'; simp only [KeptC, List.forall_mem_cons] at hk'; go_split_ands); go_simp; first | done | rfl | exact ite4 (by assumption)); (simp only [Act.put, List.setIfInBounds_toArray, List.set_cons_zero, List.set_cons_succ]; go_big_quiet_on)))
                      refine wpQuiet_nil ?_
                      intro w13 hk13
                      go_wp2_with (fail)
                      go_meet
                      exact ⟨rfl, hk13⟩
                  case rest =>
                    obtain ⟨rfl, hK14⟩ := hcut
                    clear hK13 kb12 kc12_0 kc12_1 kc12_2 kc12_3 kc12_4 kc12_5 kc12_6 kc12_7 kc12_8 kc12_9 kc12_10 kc12_11 kc12_12 kc12_13 kc12_14 kc12_15 kc12_16 kc12_17 kc12_18 kc12_19 kz12_0 kg12_0 kz12_1 kg12_1 kz12_2 kg12_2 kz12_3 kg12_3 kz12_4 kg12_4 kz12_5 kg12_5 kz12_6 kg12_6 kz12_7 kg12_7
                    simp only [KeptC, List.forall_mem_cons] at hK14; obtain ⟨kb14, ⟨kc14_0, kc14_1, kc14_2, kc14_3, kc14_4, kc14_5, kc14_6, kc14_7, kc14_8, kc14_9, kc14_10, kc14_11, kc14_12, kc14_13, kc14_14, kc14_15, kc14_16, kc14_17, kc14_18, kc14_19, _⟩, ⟨kz14_0, kg14_0⟩, ⟨kz14_1, kg14_1⟩, ⟨kz14_2, kg14_2⟩, ⟨kz14_3, kg14_3⟩, ⟨kz14_4, kg14_4⟩, ⟨kz14_5, kg14_5⟩, ⟨kz14_6, kg14_6⟩, ⟨kz14_7, kg14_7⟩, _⟩ := hK14
                    go_wp2_with (fail)
                    go_region
                    go_wp2
                    go_roundg (gk - 1)
                    case measure => omega
                    case rel => exact ⟨j + 1, ⟨hu', vu, ou, au⟩, ⟨hv', vv, ov, av⟩, by omega, by go_num, FU.out, FV.out, (by (repeat' (first | refine KeptC.cons ?_ ?_ | refine KeptC.consF ?_ ?_ ?_ | refine KeptC.mk0 ?_)); all_goals (first | with_reducible assumption | (go_simp; done) | (simp; omega) | exact (by repeat (first | with_reducible refine Below.setCell ?_ (by first | (simp; done) | (simp; omega) | omega) _ | with_reducible refine Below.alloc ?_ (by first | (simp; done) | (simp; omega) | omega) _ | with_reducible refine Below.drew ?_ | with_reducible exact Below.refl _ _ | with_reducible refine Below.trans ?_ (Below.mono kb14 (by first | (simp; done) | (simp; omega) | omega))))))⟩
            · obtain rfl : j = n := by omega
              go_wp2_with (fail)
              refine (awake_any _).mono ?_; rintro e w15 ⟨rfl, hb15⟩; obtain ⟨hc15, hf15⟩ := bcell hb15; have hz15 := hb15.size; (try simp at hz15)
              go_wp2
              go_ret
              exact ⟨rfl, kb9.trans (hb15.mono kb9.size)⟩
theorem extAges_any (id x : Int) (has : Bool) (ha : Bool) (va oa aa : Int) (hb : Bool) (vb ob ab : Int) (T : Option Addr) (n c : Nat) (ts : List E) (w : World) (hr : ExtsAt w w.heap.size T n ts) (hm : n * 32 ≤ reachBytes) :
    Calls Try.prog 5 #[.int .i64 id, .bool has, .int .i64 x, .agg #[.bool ha, .int .i64 va, .int .i64 oa, .int .i64 aa], .agg #[.bool hb, .int .i64 vb, .int .i64 ob, .int .i64 ab], .slice T n c] w fun e w' => e = .returned (.bool true) ∧ Below w.heap.size w w' := by
  cases n1 : (decide (0 ≤ id) && decide (id < 16)) with
  | false => exact ages_n0 id x has ha va oa aa hb vb ob ab T n c (lnodeTo n1) w
  | true =>
  cases n2 : flowB x with
  | false => exact ages_n1 id x has ha va oa aa hb vb ob ab T n c (lnodeTo n1) (lflowTo n2) w
  | true =>
  cases f1 : efitB ha va oa aa with
  | false => exact ages_n2 id x has ha va oa aa hb vb ob ab T n c (lnodeTo n1) (lflowTo n2) (rfitTo f1) w
  | true =>
  cases f2 : efitB hb vb ob ab with
  | false => exact ages_n3 id x has ha va oa aa hb vb ob ab T n c (lnodeTo n1) (lflowTo n2) (rfitTo f1) (rfitTo f2) w
  | true =>
  have fo : fitE ⟨true, x, id, 0⟩ := by simp at n1; exact own_fit n1.1 n1.2 n2
  exact ages_w id x has ha va oa aa hb vb ob ab T n c ts f1 f2 fo (lnodeTo n1) (lflowTo n2) (rfitTo f1) (rfitTo f2) w hr hm
theorem extAges_lifted (os : Os) (started : os.Started) (H : Type) (enc : TypeId × Value → H) :
    ReturnsInHanded {} Try.checked os 5 .any (Rows.extAgesSpec.pre6 enc Try.prog Try.f5 Rows.extAgesRow.domain false) (Rows.extAgesSpec.post enc Try.prog Try.f5 false true false false) := by
  refine returnsInHanded_of_change_sized (C := Try.checked) own started (by kernel_rfl) Try.func5
    (ChangeSpec.witness6 (enc := enc) (C := Try.checked) false ⟨#[], #[.int .i64 0, .bool false, .int .i64 0, .agg #[.bool false, .int .i64 0, .int .i64 0, .int .i64 0], .agg #[.bool false, .int .i64 0, .int .i64 0, .int .i64 0], .slice none 0 0], []⟩ 8 (by kernel_rfl) (by kernel_rfl) (by kernel_rfl) (by kernel_rfl)) ?_
  intro W base args ds gs before hval hW _ hsz _
  have hW' := hW
  obtain ⟨p, q, hA, hV, rfl, hfz, hnd⟩ := hW
  obtain ⟨rfl, rfl⟩ := trodVars_none hV
  rw [Try.params5] at hA hval
  obtain ⟨v0, vs0, d0, ds0, p0, q0, hargs, rfl, rfl, h0, r0⟩ := trodAll_cons hA
  obtain ⟨v1, vs1, d1, ds1, p1, q1, rfl, rfl, rfl, h1, r1⟩ := trodAll_cons r0
  obtain ⟨v2, vs2, d2, ds2, p2, q2, rfl, rfl, rfl, h2, r2⟩ := trodAll_cons r1
  obtain ⟨v3, vs3, d3, ds3, p3, q3, rfl, rfl, rfl, h3, r3⟩ := trodAll_cons r2
  obtain ⟨v4, vs4, d4, ds4, p4, q4, rfl, rfl, rfl, h4, r4⟩ := trodAll_cons r3
  obtain ⟨v5, vs5, d5, ds5, p5, q5, rfl, rfl, rfl, h5, r5⟩ := trodAll_cons r4
  obtain ⟨rfl, rfl, rfl⟩ := trodAll_nil r5
  obtain rfl : args = #[v0, v1, v2, v3, v4, v5] := by cases args; simp_all
  obtain ⟨id, rfl, _, _, wi⟩ := open_int Try.underlying3 (hval 0 _ v0 rfl rfl) h0
  obtain ⟨has, rfl, _, _⟩ := open_bool Try.underlying4 (hval 1 _ v1 rfl rfl) h1
  obtain ⟨x, rfl, _, _, wx⟩ := open_int Try.underlying2 (hval 2 _ v2 rfl rfl) h2
  obtain ⟨ha, va, oa, aa, rfl, _, _, _⟩ := open_ext (hval 3 _ v3 rfl rfl) h3
  obtain ⟨hb, vb, ob, ab, rfl, _, _, _⟩ := open_ext (hval 4 _ v4 rfl rfl) h4
  obtain ⟨T, n, c, ts, rfl, _, hr, hds⟩ := open_exts Try.underlying33 Try.underlying23 (by kernel_rfl) (by kernel_rfl) rfl rfl Try.underlying4 Try.underlying2 Try.underlying3 Try.underlying2 (hval 5 _ v5 rfl rfl) h5
  refine (extAges_any id x has ha va oa aa hb vb ob ab T n c ts W hr (small_exts hsz (j := 5) rfl rfl Try.underlying33 (by kernel_rfl) hds)).mono fun e W' ⟨he, hg⟩ => ?_
  subst he
  exact ⟨_, rfl, law_post laidOut rfl (by kernel_rfl) rfl Try.underlying4 rfl hW' hg⟩

theorem extAges_holds : Rows.ExtAgesSaid :=
  OpenClaim.holds_of_wide 5 Try.f5 rfl rfl rfl rfl rfl rfl rfl ⟨rfl, rfl, rfl, rfl, rfl⟩ rfl rfl rfl rfl rfl (by kernel_rfl) Try.func5 (by kernel_rfl)
    (of_decide_eq_true (by kernel_rfl)) (by unfold Func.isWrapper; first | (rw [if_pos (by decide +kernel)]; kernel_rfl) | (rw [if_neg (by decide +kernel)]; exact ⟨rfl, rfl⟩))
    (fun os started H enc _ => extAges_lifted os started H enc)

end Go.Proofs.Ytdiccafoajjbmaa
