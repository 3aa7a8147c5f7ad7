/- Plain laws: half-edges that lead to one another, and the sum of what they take. -/
import Derived.Test.YtaakbpnaifpcbaaEnt
import Derived.Test.YtaakbpnaifpcbaaHlw
import Derived.Test.YtaakbpnaifpcbaaTot
namespace Go.Proofs.Ytaakbpnaifpcbaa
open Go.RowKit
set_option linter.unusedVariables false
def outT (i : Int) (t : Tr) : Int × Int := (t.1, outR 1 t.2.1 t.2.2 i t.1)
theorem outH_hd (i : Int) (x : HL) : outH i x = outT i (hd x) := rfl
def sumO (i : Int) (l : List Tr) : Int := (l.map (fun t => (outT i t).2)).sum
theorem sumT_all (l : List (Int × Int)) : sumT (fun _ => true) l = (l.map Prod.snd).sum := by
  unfold sumT
  rw [List.filter_eq_self.2 (fun _ _ => rfl)]
theorem sumT_outH (i : Int) (xs : List HL) : sumT (fun _ => true) (xs.map (outH i)) = sumO i (xs.map hd) := by
  rw [sumT_all]
  unfold sumO
  rw [List.map_map, List.map_map]
  rfl
theorem fitB_comm (v wr f a b : Int) : fitB v wr f a b = fitB v wr f b a := by
  have h : fitB v wr f a b = true ↔ fitB v wr f b a = true := by
    simp [fitB, nodeB, flowsB]
    omega
  cases h1 : fitB v wr f a b <;> cases h2 : fitB v wr f b a <;> simp_all
theorem outR_anti {v wr f a b : Int} (h : a ≠ b) : outR v wr f b a = -outR v wr f a b := by
  unfold outR
  rw [fitB_comm v wr f b a]
  split
  · by_cases h1 : a < b
    · rw [if_neg (by omega), if_pos h1]
    · rw [if_pos (by omega), if_neg h1]; omega
  · rfl
theorem outR_small {v wr f a b c : Int} (h1 : -c ≤ f) (h2 : f ≤ c) (hc : 0 ≤ c) : -c ≤ outR v wr f a b ∧ outR v wr f a b ≤ c := by
  unfold outR
  split
  · split <;> omega
  · omega
theorem sumO_put (i : Int) (h : Tr) (l : List Tr) (hn : dropT h.1 l = l) : sumO i (putT h l) = sumO i l + (outT i h).2 := by
  unfold putT sumO
  rw [hn]
  have e : sumO i l = sumO i (l.takeWhile (fun t => decide (t.1 < h.1)) ++ l.dropWhile (fun t => decide (t.1 < h.1))) := by rw [List.takeWhile_append_dropWhile]
  unfold sumO at e
  rw [e]
  simp only [List.map_append, List.map_cons, List.sum_append, List.sum_cons]
  omega
theorem putT_mem (h : Tr) (l : List Tr) (hn : dropT h.1 l = l) (t : Tr) : t ∈ putT h l ↔ t = h ∨ t ∈ l := by
  unfold putT
  rw [hn]
  have e : t ∈ l ↔ t ∈ l.takeWhile (fun t => decide (t.1 < h.1)) ++ l.dropWhile (fun t => decide (t.1 < h.1)) := by rw [List.takeWhile_append_dropWhile]
  rw [e]
  simp only [List.mem_append, List.mem_cons]
  constructor
  · rintro (h1 | h1 | h1)
    · exact .inr (.inl h1)
    · exact .inl h1
    · exact .inr (.inr h1)
  · rintro (h1 | h1 | h1)
    · exact .inr (.inl h1)
    · exact .inl h1
    · exact .inr (.inr h1)
theorem dropT_id {p : Int} {l : List Tr} (h : hasT p l = false) : dropT p l = l := by
  unfold dropT
  rw [List.filter_eq_self]
  intro t ht
  unfold hasT at h
  rw [List.any_eq_false] at h
  simpa using h t ht
theorem tw_imp {p : Tr → Bool} : ∀ {l : List Tr} {t : Tr}, t ∈ l.takeWhile p → p t = true
  | [], _, h => by cases h
  | x :: l, t, h => by
    by_cases hx : p x = true
    · rw [List.takeWhile_cons_of_pos hx] at h
      rcases List.mem_cons.1 h with rfl | h
      · exact hx
      · exact tw_imp h
    · rw [List.takeWhile_cons_of_neg hx] at h; cases h
def Rise (l : List Tr) : Prop := l.Pairwise (fun a b => a.1 < b.1)
theorem putT_rise {h : Tr} {l : List Tr} (hs : Rise l) (hn : hasT h.1 l = false) : Rise (putT h l) := by
  unfold putT
  rw [dropT_id hn]
  have hno : ∀ t ∈ l, t.1 ≠ h.1 := fun t ht e => by
    unfold hasT at hn
    rw [List.any_eq_false] at hn
    exact hn t ht (by simp [e])
  have hsplit : Rise (l.takeWhile (fun t => decide (t.1 < h.1)) ++ l.dropWhile (fun t => decide (t.1 < h.1))) := by rw [List.takeWhile_append_dropWhile]; exact hs
  unfold Rise at *
  rw [List.pairwise_append] at hsplit ⊢
  obtain ⟨h1, h2, h3⟩ := hsplit
  have hlt : ∀ t ∈ l.takeWhile (fun t => decide (t.1 < h.1)), t.1 < h.1 := fun t ht => of_decide_eq_true (tw_imp ht)
  have hgt : ∀ t ∈ l.dropWhile (fun t => decide (t.1 < h.1)), h.1 < t.1 := by
    intro t ht
    cases hd : l.dropWhile (fun t => decide (t.1 < h.1)) with
    | nil => rw [hd] at ht; cases ht
    | cons y ys =>
      have hy : ¬ y.1 < h.1 := by
        have := List.head?_dropWhile_not (p := fun t : Tr => decide (t.1 < h.1)) (l := l)
        rw [hd] at this
        simpa using this
      have hyl : y ∈ l := by
        have : y ∈ l.dropWhile (fun t => decide (t.1 < h.1)) := by rw [hd]; exact List.mem_cons_self ..
        exact List.dropWhile_sublist _ |>.subset this
      have hy2 : h.1 < y.1 := by have := hno y hyl; omega
      rw [hd] at ht h2
      rcases List.mem_cons.1 ht with rfl | ht
      · exact hy2
      · have := (List.pairwise_cons.1 h2).1 t ht
        omega
  refine ⟨h1, List.pairwise_cons.2 ⟨hgt, h2⟩, fun a ha b hb => ?_⟩
  rcases List.mem_cons.1 hb with rfl | hb
  · exact hlt a ha
  · exact h3 a ha b hb
theorem rise_len : ∀ (l : List Tr) (a n : Int), Rise l → (∀ t ∈ l, a ≤ t.1 ∧ t.1 < n) → a ≤ n → (l.length : Int) ≤ n - a
  | [], a, n, _, _, h => by simp; omega
  | t :: l, a, n, hs, hb, h => by
    obtain ⟨h1, h2⟩ := List.pairwise_cons.1 hs
    have ht := hb t (List.mem_cons_self ..)
    have := rise_len l (t.1 + 1) n h2 (fun u hu => ⟨by have := h1 u hu; omega, (hb u (List.mem_cons_of_mem _ hu)).2⟩) (by omega)
    simp only [List.length_cons]
    omega
def sumN (n : Nat) (f : Nat → Int) : Int := ((List.range n).map f).sum
theorem sumN_succ (n : Nat) (f : Nat → Int) : sumN (n + 1) f = sumN n f + f n := by
  unfold sumN
  rw [List.range_succ]
  simp
theorem sumN_congr {f g : Nat → Int} : ∀ {n : Nat}, (∀ i, i < n → f i = g i) → sumN n f = sumN n g
  | 0, _ => rfl
  | n + 1, h => by rw [sumN_succ, sumN_succ, sumN_congr (fun i hi => h i (by omega)), h n (by omega)]
theorem sumN_upd {f g : Nat → Int} {a : Nat} {d : Int} (h : ∀ i, i ≠ a → g i = f i) (ha : g a = f a + d) : ∀ {n : Nat}, a < n → sumN n g = sumN n f + d
  | 0, h0 => by omega
  | n + 1, h0 => by
    rw [sumN_succ, sumN_succ]
    by_cases e : a = n
    · subst e
      rw [ha, sumN_congr (fun i hi => h i (by omega))]
      omega
    · rw [h n (by omega), sumN_upd h ha (by omega)]
      omega
/-- Half-edges of n nodes, each of which leads back. -/
structure Good (n : Nat) (T : Nat → List Tr) : Prop where
  rise : ∀ i, i < n → Rise (T i)
  bd : ∀ i, i < n → ∀ t ∈ T i, 0 ≤ t.1 ∧ t.1 < n ∧ t.1 ≠ i ∧ -1048576 < t.2.2 ∧ t.2.2 < 1048576
  back : ∀ i, i < n → ∀ t ∈ T i, ((i : Int), t.2.1, t.2.2) ∈ T t.1.toNat
  zero : sumN n (fun i => sumO i (T i)) = 0
theorem good_nil (n : Nat) : Good n (fun _ => []) := by
  refine ⟨fun i _ => List.Pairwise.nil, fun i _ t ht => (by cases ht), fun i _ t ht => (by cases ht), ?_⟩
  induction n with
  | zero => rfl
  | succ n ih => rw [sumN_succ, ih]; rfl
theorem good_none {n a b : Nat} {T : Nat → List Tr} (h : Good n T) (ha : a < n) (hb : b < n) (hn : hasT b (T a) = false) : hasT a (T b) = false := by
  unfold hasT at *
  rw [List.any_eq_false] at *
  intro t ht
  simp only [beq_iff_eq]
  intro e
  have := h.back b hb t ht
  rw [e] at this
  exact hn _ this (by simp)
def updT (T : Nat → List Tr) (a b : Nat) (wr fl : Int) (i : Nat) : List Tr := if i = a then putT ((b : Int), wr, fl) (T a) else if i = b then putT ((a : Int), wr, fl) (T b) else T i
theorem good_step {n a b : Nat} {T : Nat → List Tr} {wr fl : Int} (h : Good n T) (ha : a < n) (hb : b < n) (hab : a ≠ b) (hn : hasT b (T a) = false) (h1 : -1048576 < fl) (h2 : fl < 1048576) : Good n (updT T a b wr fl) := by
  have hn2 := good_none h ha hb hn
  have ea : updT T a b wr fl a = putT ((b : Int), wr, fl) (T a) := by unfold updT; rw [if_pos rfl]
  have eb : updT T a b wr fl b = putT ((a : Int), wr, fl) (T b) := by unfold updT; rw [if_neg (Ne.symm hab), if_pos rfl]
  have eo : ∀ i, i ≠ a → i ≠ b → updT T a b wr fl i = T i := fun i h1 h2 => by unfold updT; rw [if_neg h1, if_neg h2]
  have ma : ∀ t, t ∈ putT ((b : Int), wr, fl) (T a) ↔ t = ((b : Int), wr, fl) ∨ t ∈ T a := putT_mem _ _ (dropT_id hn)
  have mb : ∀ t, t ∈ putT ((a : Int), wr, fl) (T b) ↔ t = ((a : Int), wr, fl) ∨ t ∈ T b := putT_mem _ _ (dropT_id hn2)
  have hsub : ∀ i t, t ∈ T i → t ∈ updT T a b wr fl i := fun i t ht => by
    by_cases e1 : i = a
    · subst e1; rw [ea]; exact (ma t).2 (.inr ht)
    · by_cases e2 : i = b
      · subst e2; rw [eb]; exact (mb t).2 (.inr ht)
      · rw [eo i e1 e2]; exact ht
  have hcase : ∀ i t, t ∈ updT T a b wr fl i → (i = a ∧ t = ((b : Int), wr, fl)) ∨ (i = b ∧ t = ((a : Int), wr, fl)) ∨ t ∈ T i := fun i t ht => by
    by_cases e1 : i = a
    · subst e1
      rw [ea] at ht
      rcases (ma t).1 ht with h | h
      · exact .inl ⟨rfl, h⟩
      · exact .inr (.inr h)
    · by_cases e2 : i = b
      · subst e2
        rw [eb] at ht
        rcases (mb t).1 ht with h | h
        · exact .inr (.inl ⟨rfl, h⟩)
        · exact .inr (.inr h)
      · rw [eo i e1 e2] at ht
        exact .inr (.inr ht)
  refine ⟨fun i hi => ?_, fun i hi t ht => ?_, fun i hi t ht => ?_, ?_⟩
  · by_cases e1 : i = a
    · subst e1; rw [ea]; exact putT_rise (h.rise _ hi) hn
    · by_cases e2 : i = b
      · subst e2; rw [eb]; exact putT_rise (h.rise _ hi) hn2
      · rw [eo i e1 e2]; exact h.rise i hi
  · rcases hcase i t ht with ⟨rfl, rfl⟩ | ⟨rfl, rfl⟩ | ht
    · exact ⟨by simp, by simp; omega, by simp; omega, h1, h2⟩
    · exact ⟨by simp, by simp; omega, by simp; omega, h1, h2⟩
    · exact h.bd i hi t ht
  · rcases hcase i t ht with ⟨rfl, rfl⟩ | ⟨rfl, rfl⟩ | ht
    · simp only [Int.toNat_natCast]
      rw [eb]
      exact (mb _).2 (.inl rfl)
    · simp only [Int.toNat_natCast]
      rw [ea]
      exact (ma _).2 (.inl rfl)
    · exact hsub _ _ (h.back i hi t ht)
  · have s1 := sumN_upd (f := fun i => sumO i (T i)) (g := fun i => sumO i (if i = a then putT ((b : Int), wr, fl) (T a) else T i)) (a := a) (d := (outT a ((b : Int), wr, fl)).2) (fun i hi => by simp only [if_neg hi]) (by simp only [if_true]; exact sumO_put _ _ _ (dropT_id hn)) ha
    have s2 := sumN_upd (f := fun i => sumO i (if i = a then putT ((b : Int), wr, fl) (T a) else T i)) (g := fun i => sumO i (updT T a b wr fl i)) (a := b) (d := (outT b ((a : Int), wr, fl)).2) (fun i hi => by
      unfold updT
      by_cases e : i = a
      · simp only [if_pos e]
      · simp only [if_neg e, if_neg hi]) (by simp only [if_neg (Ne.symm hab)]; rw [eb]; exact sumO_put _ _ _ (dropT_id hn2)) hb
    rw [s2, s1, h.zero]
    unfold outT
    simp only []
    rw [outR_anti (a := (a : Int)) (b := (b : Int)) (by omega)]
    omega
theorem sumO_bd : ∀ (l : List Tr) (i : Int), (∀ t ∈ l, -1048576 < t.2.2 ∧ t.2.2 < 1048576) → -(1048576 * (l.length : Int)) ≤ sumO i l ∧ sumO i l ≤ 1048576 * (l.length : Int)
  | [], i, _ => by simp [sumO]
  | t :: l, i, h => by
    obtain ⟨h1, h2⟩ := sumO_bd l i (fun u hu => h u (List.mem_cons_of_mem _ hu))
    obtain ⟨h3, h4⟩ := h t (List.mem_cons_self ..)
    obtain ⟨h5, h6⟩ := outR_small (v := 1) (wr := t.2.1) (a := i) (b := t.1) (c := 1048576) (f := t.2.2) (by omega) (by omega) (by omega)
    have e : sumO i (t :: l) = (outT i t).2 + sumO i l := rfl
    have e2 : (outT i t).2 = outR 1 t.2.1 t.2.2 i t.1 := rfl
    rw [e, e2]
    simp only [List.length_cons]
    omega
theorem Good.len {n : Nat} {T : Nat → List Tr} (h : Good n T) {i : Nat} (hi : i < n) : (T i).length ≤ n := by
  have := rise_len (T i) 0 n (h.rise i hi) (fun t ht => ⟨(h.bd i hi t ht).1, (h.bd i hi t ht).2.1⟩) (by omega)
  omega
theorem Good.sum {n : Nat} {T : Nat → List Tr} (h : Good n T) {i : Nat} (hi : i < n) (hn : n ≤ 16) : -16777216 ≤ sumO i (T i) ∧ sumO i (T i) ≤ 16777216 := by
  have hl := h.len hi
  obtain ⟨h1, h2⟩ := sumO_bd (T i) i (fun t ht => ⟨(h.bd i hi t ht).2.2.2.1, (h.bd i hi t ht).2.2.2.2⟩)
  omega
/-- Each half-edge is answered at its peer. -/
theorem Good.answer {n : Nat} {T : Nat → List Tr} (h : Good n T) {i : Nat} (hi : i < n) {t : Tr} (ht : t ∈ T i) : ((T t.1.toNat).map (outT t.1)).any (fun z => z.1 == (i : Int) && z.2 == -(outT i t).2) = true := by
  have hb := h.back i hi t ht
  obtain ⟨h1, h2, h3, _⟩ := h.bd i hi t ht
  rw [List.any_eq_true]
  refine ⟨outT t.1 ((i : Int), t.2.1, t.2.2), List.mem_map_of_mem hb, ?_⟩
  unfold outT
  simp only [beq_self_eq_true, Bool.true_and, beq_iff_eq]
  rw [outR_anti (a := (i : Int)) (b := t.1) (Ne.symm h3)]
end Go.Proofs.Ytaakbpnaifpcbaa
