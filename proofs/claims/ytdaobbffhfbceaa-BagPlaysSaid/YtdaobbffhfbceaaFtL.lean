/- Chapter 6, plain: a state that is fit, told element by element. -/
import Derived.Test.YtdaobbffhfbceaaBgL
namespace Go.Proofs.Ytdaobbffhfbceaa
set_option linter.unusedVariables false
theorem pw_adj {α : Type} {R : α → α → Prop} (tr : ∀ a b c, R a b → R b c → R a c) : ∀ l : List α, (∀ t x y, l[t]? = some x → l[t + 1]? = some y → R x y) → l.Pairwise R
  | [], _ => List.Pairwise.nil
  | [a], _ => List.pairwise_singleton ..
  | a :: b :: l, h => by
    have ih := pw_adj tr (b :: l) (fun t x y hx hy => h (t + 1) x y (by simpa using hx) (by simpa using hy))
    refine List.pairwise_cons.2 ⟨fun c hc => ?_, ih⟩
    have hab := h 0 a b rfl rfl
    rcases List.mem_cons.1 hc with rfl | hc
    · exact hab
    · exact tr _ _ _ hab ((List.pairwise_cons.1 ih).1 c hc)
theorem adj_pw {α : Type} {R : α → α → Prop} {l : List α} (h : l.Pairwise R) {t : Nat} {x y : α} (hx : l[t]? = some x) (hy : l[t + 1]? = some y) : R x y := by
  obtain ⟨h1, e1⟩ := List.getElem?_eq_some_iff.1 hx
  obtain ⟨h2, e2⟩ := List.getElem?_eq_some_iff.1 hy
  have := List.pairwise_iff_getElem.1 h t (t + 1) h1 h2 (by omega)
  rwa [e1, e2] at this
def okD (nx : Int) (ls : List Dg) (t : Nat) : Bool :=
  match ls[t]? with
  | none => true
  | some d => !decide (d.num < 1) && !decide (nx < d.num) && (match t with
    | 0 => true
    | u + 1 => match ls[u]? with
      | none => true
      | some e => !decide (d.num ≤ e.num))
def okK (sv : List LK) (t : Nat) : Bool :=
  match sv[t]? with
  | none => true
  | some x => !decide (x.2 ≤ x.1) && (match t with
    | 0 => true
    | u + 1 => match sv[u]? with
      | none => true
      | some y => ltL y x)
def fitB (s : BS) : Bool := !decide (s.nx < 0) && !decide (4611686018427387904 < s.nx) && !decide (65536 < s.ls.length) && (List.range s.ls.length).all (okD s.nx s.ls) && (List.range s.sv.length).all (okK s.sv)
theorem okD_zero {nx : Int} {ls : List Dg} {d : Dg} (h : ls[0]? = some d) : okD nx ls 0 = (!decide (d.num < 1) && !decide (nx < d.num)) := by unfold okD; rw [h]; simp
theorem okD_succ {nx : Int} {ls : List Dg} {d e : Dg} {u : Nat} (h : ls[u + 1]? = some d) (he : ls[u]? = some e) : okD nx ls (u + 1) = (!decide (d.num < 1) && !decide (nx < d.num) && !decide (d.num ≤ e.num)) := by unfold okD; rw [h]; simp only [he]
theorem okK_zero {sv : List LK} {x : LK} (h : sv[0]? = some x) : okK sv 0 = !decide (x.2 ≤ x.1) := by unfold okK; rw [h]; simp
theorem okK_succ {sv : List LK} {x y : LK} {u : Nat} (h : sv[u + 1]? = some x) (he : sv[u]? = some y) : okK sv (u + 1) = (!decide (x.2 ≤ x.1) && ltL y x) := by unfold okK; rw [h]; simp only [he]
theorem all_next {p : Nat → Bool} {k : Nat} (h : (List.range k).all p = true) (hk : p k = true) : (List.range (k + 1)).all p = true := by rw [List.range_succ, List.all_append, h]; simp [hk]
theorem all_stop {p : Nat → Bool} {k n : Nat} (hk : k < n) (h : p k = false) : (List.range n).all p = false := by
  rw [List.all_eq_false]
  exact ⟨k, List.mem_range.2 hk, by rw [h]; simp⟩
theorem fit_head {s : BS} (h : s.nx < 0 ∨ 4611686018427387904 < s.nx ∨ 65536 < s.ls.length) : fitB s = false := by
  unfold fitB
  rcases h with h | h | h <;> simp [h]
theorem fit_stopD {s : BS} {k : Nat} (hk : k < s.ls.length) (h : okD s.nx s.ls k = false) : fitB s = false := by unfold fitB; rw [all_stop hk h]; simp
theorem fit_stopK {s : BS} {k : Nat} (hk : k < s.sv.length) (h : okK s.sv k = false) : fitB s = false := by unfold fitB; rw [all_stop hk h]; simp
theorem fit_all {s : BS} (h0 : 0 ≤ s.nx) (h1 : s.nx ≤ 4611686018427387904) (h2 : s.ls.length ≤ 65536) (h3 : (List.range s.ls.length).all (okD s.nx s.ls) = true) (h4 : (List.range s.sv.length).all (okK s.sv) = true) : fitB s = true := by
  unfold fitB
  rw [h3, h4]
  simp only [Bool.and_true, Bool.and_eq_true, Bool.not_eq_true', decide_eq_false_iff_not]
  omega
theorem fitB_fit {s : BS} (h : fitB s = true) : FitS s := by
  unfold fitB at h
  simp only [Bool.and_eq_true, Bool.not_eq_true', decide_eq_false_iff_not, List.all_eq_true, List.mem_range] at h
  obtain ⟨⟨⟨⟨h0, h1⟩, h2⟩, h3⟩, h4⟩ := h
  refine ⟨by omega, by omega, by omega, fun d hd => ?_, ?_, fun x hx => ?_, ?_⟩
  · obtain ⟨t, ht, e⟩ := List.getElem_of_mem hd
    have := h3 t ht
    unfold okD at this
    rw [List.getElem?_eq_getElem ht, e] at this
    simp only [Bool.and_eq_true, Bool.not_eq_true', decide_eq_false_iff_not] at this
    omega
  · refine pw_adj (fun a b c hab hbc => by omega) _ (fun t x y hx hy => ?_)
    have hl := (List.getElem?_eq_some_iff.1 hy).1
    have := h3 (t + 1) hl
    rw [okD_succ hy hx] at this
    simp only [Bool.and_eq_true, Bool.not_eq_true', decide_eq_false_iff_not] at this
    omega
  · obtain ⟨t, ht, e⟩ := List.getElem_of_mem hx
    have := h4 t ht
    unfold okK at this
    rw [List.getElem?_eq_getElem ht, e] at this
    simp only [Bool.and_eq_true, Bool.not_eq_true', decide_eq_false_iff_not] at this
    omega
  · refine pw_adj (R := fun x y => ltL x y = true) (fun a b c hab hbc => ltL_trans hab hbc) _ (fun t x y hx hy => ?_)
    have hl := (List.getElem?_eq_some_iff.1 hy).1
    have := h4 (t + 1) hl
    rw [okK_succ hy hx] at this
    simp only [Bool.and_eq_true] at this
    exact this.2
theorem fit_fitB {s : BS} (h : FitS s) : fitB s = true := by
  refine fit_all h.nx0 h.nx1 h.len ?_ ?_
  · rw [List.all_eq_true]
    intro t ht
    rw [List.mem_range] at ht
    have hx := List.getElem?_eq_getElem ht
    have h1 := h.num _ (List.getElem_mem ht)
    cases t with
    | zero => rw [okD_zero hx]; simp only [Bool.and_eq_true, Bool.not_eq_true', decide_eq_false_iff_not]; omega
    | succ u =>
      have hy := List.getElem?_eq_getElem (show u < s.ls.length by omega)
      have := adj_pw h.rise hy hx
      rw [okD_succ hx hy]
      simp only [Bool.and_eq_true, Bool.not_eq_true', decide_eq_false_iff_not]
      omega
  · rw [List.all_eq_true]
    intro t ht
    rw [List.mem_range] at ht
    have hx := List.getElem?_eq_getElem ht
    have h1 := h.lt _ (List.getElem_mem ht)
    cases t with
    | zero => rw [okK_zero hx]; simp only [Bool.not_eq_true', decide_eq_false_iff_not]; omega
    | succ u =>
      have hy := List.getElem?_eq_getElem (show u < s.sv.length by omega)
      have := adj_pw h.sv hy hx
      rw [okK_succ hx hy, this]
      simp only [Bool.and_true, Bool.not_eq_true', decide_eq_false_iff_not]
      omega
/-- Told by the one before: as the bag tells it. -/
theorem okD_was {nx : Int} {ls : List Dg} {d : Dg} {k : Nat} {wz : Int} (h : ls[k]? = some d) (hp : (List.range k).all (okD nx ls) = true) (hw : (k = 0 ∧ wz = 0) ∨ ∃ u e, k = u + 1 ∧ ls[u]? = some e ∧ wz = e.num) : okD nx ls k = (!decide (d.num ≤ wz) && !decide (nx < d.num)) := by
  rcases hw with ⟨rfl, rfl⟩ | ⟨u, e, rfl, he, rfl⟩
  · rw [okD_zero h]
    congr 2
    rw [decide_eq_decide]
    omega
  · rw [okD_succ h he]
    have hu : okD nx ls u = true := (List.all_eq_true.1 hp) u (List.mem_range.2 (by omega))
    have : 1 ≤ e.num := by
      unfold okD at hu
      rw [he] at hu
      simp only [Bool.and_eq_true, Bool.not_eq_true', decide_eq_false_iff_not] at hu
      omega
    rw [Bool.eq_iff_iff]
    simp only [Bool.and_eq_true, Bool.not_eq_true', decide_eq_false_iff_not]
    omega
end Go.Proofs.Ytdaobbffhfbceaa
