/- Plain laws of lists of records: the order of names; what Learn and put answer for rising lists. -/
import Derived.Test.YtfihkkamedghkaaDirL
import Derived.Test.YtfihkkamedghkaaDirN
namespace Go.Proofs.Ytfihkkamedghkaa
set_option linter.unusedVariables false
theorem bl_nil (a : List UInt8) : Op.bytesLess a [] = false := by cases a <;> rfl
theorem bl_cons (a b : UInt8) (x y : List UInt8) : Op.bytesLess (a :: x) (b :: y) = (decide (a < b) || (a == b && Op.bytesLess x y)) := rfl
theorem bl_irrefl : ∀ a : List UInt8, Op.bytesLess a a = false
  | [] => rfl
  | a :: x => by rw [bl_cons, bl_irrefl x]; simp
theorem bl_trans : ∀ a b c : List UInt8, Op.bytesLess a b = true → Op.bytesLess b c = true → Op.bytesLess a c = true
  | _, _, [] => fun _ h => by rw [bl_nil] at h; cases h
  | _, [], _ :: _ => fun h _ => by rw [bl_nil] at h; cases h
  | [], _ :: _, _ :: _ => fun _ _ => rfl
  | a :: x, b :: y, c :: z => by
    intro h1 h2
    rw [bl_cons] at *
    simp only [Bool.or_eq_true, decide_eq_true_eq, Bool.and_eq_true, beq_iff_eq] at *
    rcases h1 with h1 | ⟨rfl, h1⟩
    · rcases h2 with h2 | ⟨rfl, h2⟩
      · exact .inl (UInt8.lt_trans h1 h2)
      · exact .inl h1
    · rcases h2 with h2 | ⟨rfl, h2⟩
      · exact .inl h2
      · exact .inr ⟨rfl, bl_trans x y z h1 h2⟩
theorem bl_total : ∀ a b : List UInt8, Op.bytesLess a b = false → Op.bytesLess b a = false → a = b
  | [], [], _, _ => rfl
  | [], _ :: _, h, _ => by cases h
  | _ :: _, [], _, h => by cases h
  | a :: x, b :: y, h1, h2 => by
    rw [bl_cons] at h1 h2
    simp only [Bool.or_eq_false_iff, decide_eq_false_iff_not, Bool.and_eq_false_iff, beq_eq_false_iff_ne] at h1 h2
    have hab : a = b := by
      have e1 := h1.1; have e2 := h2.1
      rw [UInt8.lt_iff_toNat_lt] at e1 e2
      exact UInt8.toNat_inj.1 (by omega)
    subst hab
    rw [bl_total x y (h1.2.resolve_left (by simp)) (h2.2.resolve_left (by simp))]
theorem ltN_irrefl (a : ByteArray) : ltN a a = false := bl_irrefl _
theorem ltN_trans {a b c : ByteArray} (h1 : ltN a b = true) (h2 : ltN b c = true) : ltN a c = true := bl_trans _ _ _ h1 h2
theorem ltN_asymm {a b : ByteArray} (h : ltN a b = true) : ltN b a = false := by
  cases h2 : ltN b a with
  | false => rfl
  | true => have := ltN_trans h h2; rw [ltN_irrefl] at this; cases this
def eqN (a b : ByteArray) : Bool := a.toList == b.toList
theorem eqN_iff {a b : ByteArray} : eqN a b = true ↔ a.toList = b.toList := by unfold eqN; exact beq_iff_eq
theorem ltN_total {a b : ByteArray} (h1 : ltN a b = false) (h2 : ltN b a = false) : eqN a b = true := eqN_iff.2 (bl_total _ _ h1 h2)
theorem ltN_eqN {a b : ByteArray} (h : ltN a b = true) : eqN a b = false := by
  cases h2 : eqN a b with
  | false => rfl
  | true => have h3 := eqN_iff.1 h2; unfold ltN at h; rw [h3, bl_irrefl] at h; cases h
theorem eqN_comm (a b : ByteArray) : eqN a b = eqN b a := by
  unfold eqN; rw [Bool.eq_iff_iff, beq_iff_eq, beq_iff_eq]; exact eq_comm
theorem ltN_eqN_left {a b c : ByteArray} (h : eqN a b = true) : ltN a c = ltN b c := by unfold ltN; rw [eqN_iff.1 h]
theorem ltN_eqN_right {a b c : ByteArray} (h : eqN a b = true) : ltN c a = ltN c b := by unfold ltN; rw [eqN_iff.1 h]
theorem eqN_left {a b c : ByteArray} (h : eqN a b = true) : eqN a c = eqN b c := by unfold eqN; rw [eqN_iff.1 h]
/-- Names rise. -/
def Srt (ls : List Ch) : Prop := ls.Pairwise fun a b => ltN a.name b.name = true
theorem findL_nil (nm : ByteArray) : findL [] nm = none := rfl
theorem findL_cons (x : Ch) (xs : List Ch) (nm : ByteArray) : findL (x :: xs) nm = if eqN x.name nm = true then some x else findL xs nm := by
  unfold findL
  rw [List.find?_cons]
  unfold eqN
  cases (x.name.toList == nm.toList) <;> rfl
theorem findL_none {ls : List Ch} {nm : ByteArray} : findL ls nm = none ↔ ∀ x ∈ ls, eqN x.name nm = false := by
  unfold findL eqN
  rw [List.find?_eq_none]
  simp
theorem findL_some {ls : List Ch} {nm : ByteArray} {c : Ch} (h : findL ls nm = some c) : c ∈ ls ∧ eqN c.name nm = true := ⟨List.mem_of_find?_eq_some h, by have := List.find?_some h; exact this⟩
theorem findL_mem {ls : List Ch} (hs : Srt ls) {nm : ByteArray} {c : Ch} (h : c ∈ ls) (he : eqN c.name nm = true) : findL ls nm = some c := by
  induction ls with
  | nil => cases h
  | cons x xs ih =>
    rw [findL_cons]
    have hp := List.pairwise_cons.1 hs
    rcases List.mem_cons.1 h with rfl | h
    · rw [if_pos he]
    · have h1 := hp.1 c h
      have : eqN x.name nm = false := by
        cases h2 : eqN x.name nm with
        | false => rfl
        | true =>
          have h3 := ltN_eqN h1
          rw [eqN_left h2, eqN_comm, he] at h3
          cases h3
      rw [if_neg (by rw [this]; simp)]
      exact ih hp.2 h
/-- A step of put: what is told, and whether the record is in. -/
def putS (c : Ch) (st : List Ch × Bool) (x : Ch) : List Ch × Bool :=
  let s1 := if (!st.2 && !ltN x.name c.name) = true then (st.1 ++ [c], true) else st
  if eqN x.name c.name = true then s1 else (s1.1 ++ [x], s1.2)
def putF (c : Ch) (ls : List Ch) : List Ch := if (ls.foldl (putS c) ([], false)).2 = true then (ls.foldl (putS c) ([], false)).1 else (ls.foldl (putS c) ([], false)).1 ++ [c]
theorem put_true (c : Ch) : ∀ (ls acc : List Ch), ls.foldl (putS c) (acc, true) = (acc ++ ls.filter (fun x => !eqN x.name c.name), true)
  | [], acc => by simp
  | x :: xs, acc => by
    rw [List.foldl_cons]
    have h1 : putS c (acc, true) x = (if eqN x.name c.name = true then acc else acc ++ [x], true) := by
      unfold putS; simp; split <;> rfl
    rw [h1, put_true c xs]
    cases h : eqN x.name c.name <;> simp [h]
theorem put_mid (c : Ch) : ∀ (ls acc : List Ch), Srt ls → (if (ls.foldl (putS c) (acc, false)).2 = true then (ls.foldl (putS c) (acc, false)).1 else (ls.foldl (putS c) (acc, false)).1 ++ [c]) = acc ++ (ls.filter (fun x => ltN x.name c.name) ++ c :: ls.filter (fun x => ltN c.name x.name))
  | [], acc, _ => by simp
  | x :: xs, acc, hs => by
    have hp := List.pairwise_cons.1 hs
    rw [List.foldl_cons]
    cases hlt : ltN x.name c.name with
    | true =>
      have h1 : putS c (acc, false) x = (acc ++ [x], false) := by unfold putS; simp [hlt, ltN_eqN hlt]
      rw [h1, put_mid c xs _ hp.2]
      simp [hlt, ltN_asymm hlt]
    | false =>
      have h0 : xs.filter (fun y => ltN y.name c.name) = [] := List.filter_eq_nil_iff.2 fun y hy h => by
        have := ltN_trans (hp.1 y hy) h; rw [hlt] at this; cases this
      have h2 : xs.filter (fun y => !eqN y.name c.name) = xs.filter (fun y => ltN c.name y.name) := by
        refine List.filter_congr fun y hy => ?_
        cases h3 : ltN c.name y.name with
        | true => have := ltN_eqN h3; rw [eqN_comm] at this; rw [this]; rfl
        | false =>
          have h4 : ltN y.name c.name = false := by
            cases h5 : ltN y.name c.name with
            | false => rfl
            | true => have := ltN_trans (hp.1 y hy) h5; rw [hlt] at this; cases this
          rw [ltN_total h4 h3]; rfl
      cases he : eqN x.name c.name with
      | true =>
        have h1 : putS c (acc, false) x = (acc ++ [c], true) := by unfold putS; simp [hlt, he]
        have h3 : ltN c.name x.name = false := by rw [← ltN_eqN_left he]; exact ltN_irrefl _
        rw [h1, put_true]
        simp [hlt, h0, h2, h3]
      | false =>
        have h1 : putS c (acc, false) x = (acc ++ [c] ++ [x], true) := by unfold putS; simp [hlt, he]
        have h3 : ltN c.name x.name = true := by
          cases h5 : ltN c.name x.name with
          | true => rfl
          | false => have := ltN_total hlt h5; rw [he] at this; cases this
        rw [h1, put_true]
        simp [hlt, h0, h2, h3]
theorem putF_eq (c : Ch) {ls : List Ch} (hs : Srt ls) : putF c ls = ls.filter (fun x => ltN x.name c.name) ++ c :: ls.filter (fun x => ltN c.name x.name) := by
  have := put_mid c ls [] hs
  simpa [putF] using this
theorem putF_srt (c : Ch) {ls : List Ch} (hs : Srt ls) : Srt (putF c ls) := by
  rw [putF_eq c hs]
  unfold Srt
  rw [List.pairwise_append]
  refine ⟨List.Pairwise.filter _ hs, List.pairwise_cons.2 ⟨fun y hy => (List.mem_filter.1 hy).2, List.Pairwise.filter _ hs⟩, fun a ha b hb => ?_⟩
  have h1 := (List.mem_filter.1 ha).2
  rcases List.mem_cons.1 hb with rfl | hb
  · exact h1
  · exact ltN_trans h1 (List.mem_filter.1 hb).2
theorem putF_mem (c : Ch) {ls : List Ch} (hs : Srt ls) (x : Ch) : x ∈ putF c ls ↔ x = c ∨ (x ∈ ls ∧ eqN x.name c.name = false) := by
  rw [putF_eq c hs, List.mem_append, List.mem_cons, List.mem_filter, List.mem_filter]
  constructor
  · rintro (⟨h1, h2⟩ | rfl | ⟨h1, h2⟩)
    · exact .inr ⟨h1, ltN_eqN h2⟩
    · exact .inl rfl
    · exact .inr ⟨h1, by rw [eqN_comm]; exact ltN_eqN h2⟩
  · rintro (rfl | ⟨h1, h2⟩)
    · exact .inr (.inl rfl)
    · cases h3 : ltN x.name c.name with
      | true => exact .inl ⟨h1, rfl⟩
      | false =>
        cases h4 : ltN c.name x.name with
        | true => exact .inr (.inr ⟨h1, rfl⟩)
        | false => rw [ltN_total h3 h4] at h2; cases h2
theorem putF_len_le (c : Ch) {ls : List Ch} (hs : Srt ls) : (putF c ls).length ≤ ls.length + 1 := by
  have h : ∀ (l : List Ch), (l.filter (fun x => ltN x.name c.name)).length + (l.filter (fun x => ltN c.name x.name)).length ≤ l.length := by
    intro l
    induction l with
    | nil => simp
    | cons y ys ih =>
      rw [List.filter_cons, List.filter_cons]
      cases h1 : ltN y.name c.name with
      | true => rw [ltN_asymm h1]; simp; omega
      | false => cases h2 : ltN c.name y.name <;> simp <;> omega
  have := h ls
  rw [putF_eq c hs]
  simp
  omega
theorem putF_len_there (c : Ch) {ls : List Ch} (hs : Srt ls) {o : Ch} (ho : findL ls c.name = some o) : (putF c ls).length ≤ ls.length := by
  obtain ⟨hm, he⟩ := findL_some ho
  have h : ∀ (l : List Ch), o ∈ l → (l.filter (fun x => ltN x.name c.name)).length + (l.filter (fun x => ltN c.name x.name)).length + 1 ≤ l.length := by
    intro l
    induction l with
    | nil => intro h; cases h
    | cons y ys ih =>
      intro h
      have hall : ∀ (l : List Ch), (l.filter (fun x => ltN x.name c.name)).length + (l.filter (fun x => ltN c.name x.name)).length ≤ l.length := by
        intro l
        induction l with
        | nil => simp
        | cons y ys ih =>
          rw [List.filter_cons, List.filter_cons]
          cases h1 : ltN y.name c.name with
          | true => rw [ltN_asymm h1]; simp; omega
          | false => cases h2 : ltN c.name y.name <;> simp <;> omega
      rw [List.filter_cons, List.filter_cons]
      rcases List.mem_cons.1 h with rfl | h
      · rw [ltN_eqN_left he, ltN_irrefl, ltN_eqN_right he, ltN_irrefl]
        have := hall ys
        simp
        omega
      · have := ih h
        cases h1 : ltN y.name c.name with
        | true => rw [ltN_asymm h1]; simp; omega
        | false => cases h2 : ltN c.name y.name <;> simp <;> omega
  have := h ls hm
  rw [putF_eq c hs]
  simp
  omega
/-- What the document's Learn answers. -/
def learnR (ls : List Ch) (c : Ch) : List Ch × Int := match findL ls c.name with
  | none => if 8 ≤ ls.length then (ls, 5) else (putF c ls, 4)
  | some o => if stampB c.ep c.who o.ep o.who = true then (putF c ls, 3) else if stampB o.ep o.who c.ep c.who = true then (ls, 1) else (ls, 2)
theorem fold_off (c : Ch) : ∀ (ls acc : List Ch) (wh : Int), (pairs1 c ls false).foldl stepL (acc, wh) = (acc ++ ls, wh)
  | [], acc, wh => by simp [pairs1]
  | x :: xs, acc, wh => by
    rw [pairs1_off, List.foldl_cons]
    have : stepL (acc, wh) (some x, none) = (acc ++ [x], wh) := rfl
    rw [this, fold_off c xs]
    simp
theorem all_gt {c x : Ch} {xs : List Ch} (hp : ∀ y ∈ xs, ltN x.name y.name = true) (h : ltN c.name x.name = true ∨ eqN x.name c.name = true) : xs.filter (fun y => ltN y.name c.name) = [] ∧ xs.filter (fun y => ltN c.name y.name) = xs ∧ findL xs c.name = none := by
  have hg : ∀ y ∈ xs, ltN c.name y.name = true := fun y hy => by
    rcases h with h | h
    · exact ltN_trans h (hp y hy)
    · rw [← ltN_eqN_left h]; exact hp y hy
  refine ⟨List.filter_eq_nil_iff.2 fun y hy h => ?_, List.filter_eq_self.2 hg, findL_none.2 fun y hy => ?_⟩
  · rw [ltN_asymm (hg y hy)] at h; cases h
  · rw [eqN_comm]; exact ltN_eqN (hg y hy)
theorem fold_on (c : Ch) : ∀ (ls acc : List Ch), Srt ls → (pairs1 c ls true).foldl stepL (acc, 4) = match findL ls c.name with
    | none => (acc ++ (ls.filter (fun x => ltN x.name c.name) ++ c :: ls.filter (fun x => ltN c.name x.name)), 4)
    | some o => if stampB c.ep c.who o.ep o.who = true then (acc ++ (ls.filter (fun x => ltN x.name c.name) ++ c :: ls.filter (fun x => ltN c.name x.name)), 3) else if stampB o.ep o.who c.ep c.who = true then (acc ++ ls, 1) else (acc ++ ls, 2)
  | [], acc, _ => by simp [pairs1, findL_nil, stepL]
  | x :: xs, acc, hs => by
    have hp := List.pairwise_cons.1 hs
    cases hL : ltN c.name x.name with
    | true =>
      obtain ⟨h1, h2, h3⟩ := all_gt hp.1 (.inl hL)
      have hx : eqN x.name c.name = false := by rw [eqN_comm]; exact ltN_eqN hL
      rw [pairs1_lt _ hL, pairs1_off, List.foldl_cons, List.foldl_cons, findL_cons, hx, h3]
      have : stepL (stepL (acc, 4) (none, some c)) (some x, none) = (acc ++ [c] ++ [x], 4) := rfl
      rw [this, fold_off]
      simp [hL, h1, h2, ltN_asymm hL]
    | false =>
      cases hE : (c.name.toList == x.name.toList) with
      | true =>
        have hE' : eqN x.name c.name = true := by rw [eqN_comm]; exact hE
        obtain ⟨h1, h2, h3⟩ := all_gt hp.1 (.inr hE')
        have hlt : ltN x.name c.name = false := by rw [ltN_eqN_left hE']; exact ltN_irrefl _
        rw [pairs1_eq _ hL hE, List.foldl_cons, findL_cons, if_pos hE']
        simp only []
        cases hs1 : stampB c.ep c.who x.ep x.who with
        | true =>
          have : stepL (acc, 4) (some x, some c) = (acc ++ [c], 3) := by simp [stepL, hs1]
          rw [this, fold_off]
          simp [h1, h2, hL, hlt]
        | false =>
          cases hs2 : stampB x.ep x.who c.ep c.who with
          | true =>
            have : stepL (acc, 4) (some x, some c) = (acc ++ [x], 1) := by simp [stepL, hs1, hs2]
            rw [this, fold_off]
            simp
          | false =>
            have : stepL (acc, 4) (some x, some c) = (acc ++ [x], 2) := by simp [stepL, hs1, hs2]
            rw [this, fold_off]
            simp
      | false =>
        have hE' : eqN x.name c.name = false := by rw [eqN_comm]; exact hE
        have hlt : ltN x.name c.name = true := by
          cases h5 : ltN x.name c.name with
          | true => rfl
          | false => have := ltN_total h5 hL; rw [hE'] at this; cases this
        rw [pairs1_gt _ hL hE, List.foldl_cons, findL_cons, hE']
        have : stepL (acc, 4) (some x, none) = (acc ++ [x], 4) := rfl
        rw [this, fold_on c xs _ hp.2]
        simp [hL, hlt]
theorem learnT_eq (c : Ch) {ls : List Ch} (hs : Srt ls) : learnT ls c = learnR ls c := by
  have h := fold_on c ls [] hs
  have h' : foldL (pairs1 c ls true) = _ := h
  unfold learnT learnR
  rw [h', putF_eq c hs]
  cases findL ls c.name with
  | none => simp
  | some o =>
    simp only [List.nil_append]
    split
    · simp
    · split <;> simp
theorem srt_of_fits {ls : List Ch} (h : fitsB ls = true) : Srt ls := by
  unfold fitsB at h
  simp only [Bool.and_eq_true, List.all_eq_true, List.mem_range] at h
  have hadj : ∀ j, (h1 : j + 1 < ls.length) → ltN ls[j].name ls[j + 1].name = true := fun j h1 => by
    have := h.2 (j + 1) h1
    rw [okAt_succ (List.getElem?_eq_getElem h1) (List.getElem?_eq_getElem (by omega))] at this
    exact (Bool.and_eq_true _ _ ▸ this).2
  unfold Srt
  rw [List.pairwise_iff_getElem]
  intro i j hi hj hij
  obtain ⟨d, rfl⟩ : ∃ d, j = i + 1 + d := ⟨j - (i + 1), by omega⟩
  clear hij
  induction d with
  | zero => exact hadj i hj
  | succ d ih => exact ltN_trans (ih (by omega)) (hadj (i + 1 + d) hj)
theorem fit_of_fits {ls : List Ch} (h : fitsB ls = true) : ls.length ≤ 8 ∧ ∀ c ∈ ls, chFit c.name c.ep c.who c.kd c.sc = true := by
  unfold fitsB at h
  simp only [Bool.and_eq_true, List.all_eq_true, List.mem_range, decide_eq_true_eq] at h
  refine ⟨h.1, fun c hc => ?_⟩
  obtain ⟨i, hi, rfl⟩ := List.getElem_of_mem hc
  have := h.2 i hi
  cases i with
  | zero => rwa [okAt_zero (List.getElem?_eq_getElem hi)] at this
  | succ j =>
    rw [okAt_succ (List.getElem?_eq_getElem hi) (List.getElem?_eq_getElem (by omega))] at this
    exact (Bool.and_eq_true _ _ ▸ this).1
theorem fits_of {ls : List Ch} (hl : ls.length ≤ 8) (hs : Srt ls) (hf : ∀ c ∈ ls, chFit c.name c.ep c.who c.kd c.sc = true) : fitsB ls = true := by
  unfold fitsB
  simp only [Bool.and_eq_true, List.all_eq_true, List.mem_range, decide_eq_true_eq]
  refine ⟨hl, fun i hi => ?_⟩
  cases i with
  | zero => rw [okAt_zero (List.getElem?_eq_getElem hi)]; exact hf _ (List.getElem_mem hi)
  | succ j =>
    rw [okAt_succ (List.getElem?_eq_getElem hi) (List.getElem?_eq_getElem (show j < ls.length by omega)), hf _ (List.getElem_mem hi)]
    exact List.pairwise_iff_getElem.1 hs j (j + 1) (by omega) hi (by omega)
end Go.Proofs.Ytfihkkamedghkaa
