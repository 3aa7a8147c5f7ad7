/- Chapter 6, plain: what BagCounts leans on. -/
import Derived.Test.YtdaobbffhfbceaaBgL
namespace Go.Proofs.Ytdaobbffhfbceaa
set_option linter.unusedVariables false
theorem put_cases (s : BS) (a b : Int) (t : ByteArray) : (∃ e, putS s a b t = (s, 0, e) ∧ e ≠ 0) ∨ (sevB s a b = false ∧ s.ls.length < 65536 ∧ s.nx < 4611686018427387904 ∧ putS s a b t = (⟨s.nx + 1, s.ls ++ [⟨s.nx + 1, a, b, t⟩], s.sv⟩, s.nx + 1, 0)) := by
  unfold putS
  cases h : sevB s a b with
  | true => exact .inl ⟨34, by rw [if_pos rfl], by decide⟩
  | false =>
    rw [if_neg (by simp)]
    by_cases h2 : 65536 ≤ s.ls.length ∨ 4611686018427387904 ≤ s.nx
    · rw [if_pos h2]
      exact .inl ⟨30, rfl, by decide⟩
    · rw [if_neg h2]
      exact .inr ⟨rfl, by omega, by omega, rfl⟩
theorem doub_zero {s : BS} (h : FitS s) : doubS s 0 = (s, 0, 31) := by
  unfold doubS
  rw [findN_none.2 fun d hd => by have := h.num d hd; omega]
/-- What was put last, put once more. -/
theorem doub_last {s : BS} {a b : Int} {t : ByteArray} (h : FitS s) (h1 : sevB s a b = false) (h3 : s.nx + 1 < 4611686018427387904) :
    (65536 ≤ s.ls.length + 1 ∧ doubS ⟨s.nx + 1, s.ls ++ [⟨s.nx + 1, a, b, t⟩], s.sv⟩ (s.nx + 1) = (⟨s.nx + 1, s.ls ++ [⟨s.nx + 1, a, b, t⟩], s.sv⟩, 0, 30)) ∨
    (s.ls.length + 1 < 65536 ∧ doubS ⟨s.nx + 1, s.ls ++ [⟨s.nx + 1, a, b, t⟩], s.sv⟩ (s.nx + 1) = (⟨s.nx + 1 + 1, (s.ls ++ [⟨s.nx + 1, a, b, t⟩]) ++ [⟨s.nx + 1 + 1, a, b, t⟩], s.sv⟩, s.nx + 1 + 1, 0)) := by
  have hf : findN (s.ls ++ [⟨s.nx + 1, a, b, t⟩]) (s.nx + 1) = some s.ls.length := by
    refine findN_at (d := ⟨s.nx + 1, a, b, t⟩) (by simp) rfl fun j hj e he => ?_
    rw [List.getElem?_append_left hj] at he
    have := (h.num e (List.mem_of_getElem? he)).2
    omega
  have hs : sevB ⟨s.nx + 1, s.ls ++ [⟨s.nx + 1, a, b, t⟩], s.sv⟩ a b = false := h1
  unfold doubS
  rw [hf]
  simp only [List.getElem?_append_right (Nat.le_refl _), Nat.sub_self, List.getElem?_cons_zero, Option.getD_some]
  unfold putS
  rw [hs, if_neg (by simp)]
  simp only [List.length_append, List.length_singleton]
  by_cases h2 : 65536 ≤ s.ls.length + 1 ∨ 4611686018427387904 ≤ s.nx + 1
  · rw [if_pos h2]
    exact .inl ⟨by omega, rfl⟩
  · rw [if_neg h2]
    exact .inr ⟨by omega, rfl⟩
theorem take_cases (s : BS) (k : Int) : takeS s k = (s, Dg0, 31) ∨ ∃ i d, s.ls[i]? = some d ∧ d.num = k ∧ takeS s k = (⟨s.nx, s.ls.eraseIdx i, s.sv⟩, d, 0) := by
  unfold takeS
  cases h : findN s.ls k with
  | none => exact .inl rfl
  | some i =>
    obtain ⟨d, hd, hk, _⟩ := findN_some h
    exact .inr ⟨i, d, hd, hk, by simp [hd]⟩
/-- What was taken is there no more. -/
theorem take_again {s : BS} {i : Nat} {d : Dg} (h : FitS s) (hd : s.ls[i]? = some d) : takeS ⟨s.nx, s.ls.eraseIdx i, s.sv⟩ d.num = (⟨s.nx, s.ls.eraseIdx i, s.sv⟩, Dg0, 31) := by
  unfold takeS
  have hi := (List.getElem?_eq_some_iff.1 hd).1
  rw [findN_none.2]
  intro e he
  obtain ⟨j, hj, ej⟩ := List.getElem_of_mem he
  have h2 : (s.ls.eraseIdx i)[j]? = some e := by rw [List.getElem?_eq_getElem hj, ej]
  rw [List.getElem?_eraseIdx] at h2
  have hr := h.rise
  unfold RiseD at hr
  rw [List.pairwise_iff_getElem] at hr
  obtain ⟨_, e2⟩ := List.getElem?_eq_some_iff.1 hd
  split at h2
  · obtain ⟨h3, h4⟩ := List.getElem?_eq_some_iff.1 h2
    have := hr j i h3 hi (by omega)
    rw [h4, e2] at this
    omega
  · obtain ⟨h3, h4⟩ := List.getElem?_eq_some_iff.1 h2
    have := hr i (j + 1) hi h3 (by omega)
    rw [h4, e2] at this
    omega
theorem btw_all (s : BS) : (btwS s (-1) (-1)).length = s.ls.length := by
  unfold btwS btwB
  rw [List.length_map]
  simp
theorem btw_cut {s : BS} {a b : Int} (hab : a ≠ b) (ha : a ≠ -1) (hb : b ≠ -1) : btwS (sevS s a b).1 a b = [] := by
  unfold btwS sevS
  rw [if_neg hab]
  simp only [List.filter_filter]
  rw [List.map_eq_nil_iff, List.filter_eq_nil_iff]
  intro d _ h
  unfold btwB cutB at h
  simp only [Bool.and_eq_true, Bool.or_eq_true, beq_iff_eq, Bool.not_eq_true', Bool.or_eq_false_iff, Bool.and_eq_false_iff, beq_eq_false_iff_ne] at h
  omega
theorem btw_for {s : BS} {b : Int} (hb : b ≠ -1) : btwS (forS s b).1 (-1) b = [] := by
  unfold btwS forS
  simp only [List.filter_filter]
  rw [List.map_eq_nil_iff, List.filter_eq_nil_iff]
  intro d _ h
  unfold btwB at h
  simp only [Bool.and_eq_true, Bool.or_eq_true, beq_iff_eq, Bool.not_eq_true', beq_eq_false_iff_ne] at h
  omega
theorem sev_len {s : BS} {a b : Int} : ∃ q : Nat, (sevS s a b).1.ls.length = q ∧ q ≤ s.ls.length ∧ (sevS s a b).2 = (s.ls.length : Int) - q := by
  unfold sevS
  split
  · exact ⟨s.ls.length, rfl, Nat.le_refl _, by simp⟩
  · exact ⟨_, rfl, List.length_filter_le .., rfl⟩
theorem for_len {s : BS} {b : Int} : ∃ q : Nat, (forS s b).1.ls.length = q ∧ q ≤ s.ls.length ∧ (forS s b).2 = (s.ls.length : Int) - q := ⟨_, rfl, List.length_filter_le .., rfl⟩
end Go.Proofs.Ytdaobbffhfbceaa
