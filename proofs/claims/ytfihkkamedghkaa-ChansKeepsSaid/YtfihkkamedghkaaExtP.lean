/- Layer 16, the plain side: which of two extreme values holds; the code's way and the document's are one for fit values; order and grouping do not matter. No program in sight. -/
import Derived.Test.YtfihkkamedghkaaExtB
namespace Go.Proofs.Ytfihkkamedghkaa

/-- The document's: does b hold ahead of a, where s times the value is to be small? -/
def rholdsB (s : Int) (a b : E) : Bool :=
  if !a.has || !b.has then b.has else if a.val ≠ b.val then decide (s * b.val < s * a.val) else if a.age ≠ b.age then decide (b.age < a.age) else decide (b.org < a.org)
def pickE (s : Int) (a b : E) : E := if rholdsB s a b then b else a
def fitE (e : E) : Prop := efitB e.has e.val e.org e.age = true

theorem fitE_none {e : E} (h : fitE e) (hn : e.has = false) : e = E0 := by
  obtain ⟨eh, ev, eo, ea⟩ := e
  simp only at hn; subst hn
  simp [fitE, efitB] at h
  simp [E0, h]
theorem fitE_some {e : E} (h : fitE e) (hn : e.has = true) : -2147483647 ≤ e.val ∧ e.val ≤ 2147483647 ∧ 0 ≤ e.org ∧ e.org < 16 ∧ 0 ≤ e.age ∧ e.age < 64 := by
  simp [fitE, efitB, hn, flowB] at h
  omega
theorem fitE_bd {e : E} (h : fitE e) : -2147483647 ≤ e.val ∧ e.val ≤ 2147483647 ∧ 0 ≤ e.age ∧ e.age < 64 := by
  cases hh : e.has with
  | false => rw [fitE_none h hh]; decide
  | true => have := fitE_some h hh; omega
theorem cmp_lt (x y : Int) : cmpI x y < 0 ↔ x < y := by unfold cmpI; split <;> (try split) <;> omega
theorem cmp_eq (x y : Int) : cmpI x y = 0 ↔ x = y := by unfold cmpI; split <;> (try split) <;> omega
theorem or3_lt (x y z : Int) : or3 x y z < 0 ↔ (x < 0 ∨ x = 0 ∧ (y < 0 ∨ y = 0 ∧ z < 0)) := by unfold or3; split <;> (try split) <;> omega

theorem hold_pick {s ka kb : Int} {a b : E} (hs : s = 1 ∨ s = -1) (hka : ka = s * a.val) (hkb : kb = s * b.val) (ha : fitE a) (hb : fitE b) : holdE ka kb a b = pickE s a b := by
  unfold holdE pickE rholdsB
  cases hha : a.has with
  | false =>
    cases hhb : b.has with
    | false => rw [fitE_none ha hha, fitE_none hb hhb]; rfl
    | true => simp
  | true =>
    cases hhb : b.has with
    | false => simp
    | true =>
      have e : (or3 (cmpI kb ka) (cmpI b.age a.age) (cmpI b.org a.org) < 0) ↔ ((if a.val ≠ b.val then decide (s * b.val < s * a.val) else if a.age ≠ b.age then decide (b.age < a.age) else decide (b.org < a.org)) = true) := by
        rw [or3_lt, cmp_lt, cmp_eq, cmp_lt, cmp_eq, cmp_lt, hka, hkb]
        rcases hs with rfl | rfl <;> split <;> (try split) <;> simp <;> omega
      simp only [Bool.not_true, Bool.or_self, Bool.false_eq_true, if_false, Bool.true_and, decide_eq_true_eq]
      by_cases h : or3 (cmpI kb ka) (cmpI b.age a.age) (cmpI b.org a.org) < 0
      · rw [if_pos h, if_pos (e.1 h)]
      · rw [if_neg h, if_neg (fun x => h (e.2 x))]

theorem pick_comm {s : Int} (hs : s = 1 ∨ s = -1) {a b : E} (ha : fitE a) (hb : fitE b) : pickE s a b = pickE s b a := by
  unfold pickE rholdsB
  cases hha : a.has with
  | false =>
    cases hhb : b.has with
    | false => rw [fitE_none ha hha, fitE_none hb hhb]
    | true => simp
  | true =>
    cases hhb : b.has with
    | false => simp
    | true =>
      simp only [Bool.not_true, Bool.or_self, Bool.false_eq_true, if_false]
      obtain ⟨_, av, ao, aa⟩ := a
      obtain ⟨_, bv, bo, ba⟩ := b
      simp only at *
      subst hha hhb
      by_cases h1 : av = bv
      · subst h1
        by_cases h2 : aa = ba
        · subst h2
          by_cases h3 : ao = bo
          · subst h3; simp
          · simp; rcases Int.lt_or_gt_of_ne h3 with h | h
            · rw [if_neg (by omega), if_pos h]
            · rw [if_pos h, if_neg (by omega)]
        · simp [h2, Ne.symm h2]
          rcases Int.lt_or_gt_of_ne h2 with h | h
          · rw [if_neg (by omega), if_pos h]
          · rw [if_pos h, if_neg (by omega)]
      · simp [h1, Ne.symm h1]
        rcases hs with rfl | rfl
        all_goals
          rcases Int.lt_or_gt_of_ne h1 with h | h
          · first | (rw [if_neg (by omega), if_pos (by omega)]) | (rw [if_pos (by omega), if_neg (by omega)])
          · first | (rw [if_neg (by omega), if_pos (by omega)]) | (rw [if_pos (by omega), if_neg (by omega)])
theorem pick_self (s : Int) (a : E) : pickE s a a = a := by unfold pickE; split <;> rfl
theorem pick_fit {s : Int} {a b : E} (ha : fitE a) (hb : fitE b) : fitE (pickE s a b) := by unfold pickE; split <;> assumption
theorem pick_cases (s : Int) (a b : E) : pickE s a b = a ∨ pickE s a b = b := by unfold pickE; split <;> simp

/-- b holds ahead of a, as a statement. -/
def aheadE (s : Int) (a b : E) : Prop := b.has = true ∧ (a.has = false ∨ (s * b.val < s * a.val ∨ s * b.val = s * a.val ∧ (b.age < a.age ∨ b.age = a.age ∧ b.org < a.org)))
theorem rholds_iff {s : Int} (hs : s = 1 ∨ s = -1) (a b : E) : rholdsB s a b = true ↔ aheadE s a b := by
  unfold rholdsB aheadE
  cases a.has <;> cases b.has <;> simp
  rcases hs with rfl | rfl <;> split <;> (try split) <;> simp <;> omega
theorem ahead_trans {s : Int} {a b c : E} (h : aheadE s a b) (k : aheadE s b c) : aheadE s a c := by
  obtain ⟨h1, h2⟩ := h
  obtain ⟨k1, k2⟩ := k
  refine ⟨k1, ?_⟩
  rcases h2 with h2 | h2
  · exact .inl h2
  · rcases k2 with k2 | k2
    · rw [h1] at k2; cases k2
    · right; omega
theorem ahead_or {s : Int} (a b c : E) (h : aheadE s a c) : aheadE s a b ∨ aheadE s b c := by
  obtain ⟨h1, h2⟩ := h
  unfold aheadE
  cases hb : b.has <;> cases ha : a.has <;> simp_all
  omega
theorem pick_eq {s : Int} (hs : s = 1 ∨ s = -1) (a b : E) : (aheadE s a b ∧ pickE s a b = b) ∨ (¬ aheadE s a b ∧ pickE s a b = a) := by
  by_cases h : rholdsB s a b = true
  · exact .inl ⟨(rholds_iff hs a b).1 h, by simp [pickE, h]⟩
  · exact .inr ⟨fun k => h ((rholds_iff hs a b).2 k), by simp [pickE, h]⟩
theorem pick_assoc {s : Int} (hs : s = 1 ∨ s = -1) (a b c : E) : pickE s (pickE s a b) c = pickE s a (pickE s b c) := by
  rcases pick_eq hs a b with ⟨h1, e1⟩ | ⟨h1, e1⟩ <;> rcases pick_eq hs b c with ⟨h2, e2⟩ | ⟨h2, e2⟩ <;> rw [e1, e2]
  · rcases pick_eq hs a c with ⟨h3, e3⟩ | ⟨h3, e3⟩
    · rw [e3]
    · exact absurd (ahead_trans h1 h2) h3
  · rw [e1]
  · rw [e1]
    rcases pick_eq hs a c with ⟨h3, e3⟩ | ⟨h3, e3⟩
    · rcases ahead_or a b c h3 with h | h
      · exact absurd h h1
      · exact absurd h h2
    · exact e3
theorem older_fit {e : E} (h : fitE e) : fitE (olderE e) := by
  unfold olderE
  split
  · rfl
  · rename_i hh
    simp at hh
    have hb := fitE_some h (by simpa using hh.1)
    simp only [fitE, efitB, flowB, if_true, Bool.and_eq_true, decide_eq_true_eq]
    omega
theorem others_fit {id : Int} {e : E} (h : fitE e) : fitE (othersE id e) := by
  unfold othersE
  split
  · rfl
  · exact h
theorem own_fit {id x : Int} (h1 : 0 ≤ id) (h2 : id < 16) (h3 : flowB x = true) : fitE ⟨true, x, id, 0⟩ := by
  simp [fitE, efitB, h3, h1, h2]
/-- The node's own may be left out ahead of a tick or behind it. -/
theorem older_others (id : Int) (e : E) : olderE (othersE id e) = othersE id (olderE e) := by
  obtain ⟨h, v, o, a⟩ := e
  cases h
  · rfl
  · by_cases h1 : o = id
    · by_cases h2 : 64 ≤ a + 1 <;> simp [olderE, othersE, h1, h2]
    · by_cases h2 : 64 ≤ a + 1 <;> simp [olderE, othersE, h1, h2]
end Go.Proofs.Ytfihkkamedghkaa
