/- Plain laws of lists of records: what is merged is the same either way round, and however it is grouped. -/
import Derived.Test.YtfihkkamedghkaaDirM
namespace Go.Proofs.Ytfihkkamedghkaa
set_option linter.unusedVariables false
/-- Is the first stamp newer than the second one? -/
def nw (a b : Ch) : Bool := stampB a.ep a.who b.ep b.who
theorem nw_irrefl (a : Ch) : nw a a = false := by simp [nw, stampB]
theorem nw_iff {a b : Ch} : nw a b = true ↔ b.ep < a.ep ∨ (a.ep = b.ep ∧ a.who < b.who) := by simp [nw, stampB]
theorem nw_not {a b : Ch} : nw a b = false ↔ ¬ (b.ep < a.ep ∨ (a.ep = b.ep ∧ a.who < b.who)) := by rw [← nw_iff]; simp
theorem nw_le_trans {a b c : Ch} (h1 : nw a b = false) (h2 : nw b c = false) : nw a c = false := by rw [nw_not] at *; omega
theorem nw_same {a b : Ch} (h1 : nw a b = false) (h2 : nw b a = false) : a.ep = b.ep ∧ a.who = b.who := by rw [nw_not] at *; omega
theorem nw_asymm {a b : Ch} (h1 : nw a b = true) : nw b a = false := by rw [nw_not]; rw [nw_iff] at h1; omega
/-- The newest ones of their names. -/
def Best (S : Ch → Prop) (x : Ch) : Prop := S x ∧ ∀ y, S y → eqN y.name x.name = true → nw y x = false
/-- A rising list that holds the newest one of each name. -/
def Inv (S : Ch → Prop) (out : List Ch) : Prop := Srt out ∧ (∀ x, x ∈ out ↔ Best S x) ∧ ∀ y, S y → ∃ o ∈ out, eqN y.name o.name = true ∧ nw y o = false
/-- A stamp of a name is one record's alone. -/
def Cons (S : Ch → Prop) : Prop := ∀ x y, S x → S y → eqN x.name y.name = true → nw x y = false → nw y x = false → x = y
theorem eqN_symm {a b : ByteArray} (h : eqN a b = true) : eqN b a = true := by rw [eqN_comm]; exact h
theorem eqN_trans {a b c : ByteArray} (h : eqN a b = true) (h2 : eqN b c = true) : eqN a c = true := by rw [eqN_left h]; exact h2
theorem srt_uniq {ls : List Ch} (hs : Srt ls) {x y : Ch} (hx : x ∈ ls) (hy : y ∈ ls) (he : eqN x.name y.name = true) : x = y := by
  have h1 := findL_mem hs hx he
  have h2 := findL_mem hs hy (show eqN y.name y.name = true by rw [eqN_iff])
  rw [h1] at h2
  exact Option.some.inj h2
theorem inv_self {ls : List Ch} (hs : Srt ls) : Inv (· ∈ ls) ls := by
  refine ⟨hs, fun x => ⟨fun hx => ⟨hx, fun y hy he => ?_⟩, fun h => h.1⟩, fun y hy => ⟨y, hy, eqN_iff.2 rfl, nw_irrefl y⟩⟩
  rw [srt_uniq hs hy hx he]
  exact nw_irrefl x
theorem inv_learn {S : Ch → Prop} {out : List Ch} {c : Ch} (h : Inv S out) (hc : Cons (fun x => S x ∨ x = c)) (hroom : findL out c.name = none → out.length < 8) : Inv (fun x => S x ∨ x = c) (learnR out c).1 := by
  obtain ⟨hs, hm, hcov⟩ := h
  have hput : (∀ y, S y → eqN y.name c.name = true → nw y c = false) → Inv (fun x => S x ∨ x = c) (putF c out) := by
    intro hle
    refine ⟨putF_srt c hs, fun x => ?_, fun y hy => ?_⟩
    · rw [putF_mem c hs]
      constructor
      · rintro (rfl | ⟨hx, hne⟩)
        · exact ⟨.inr rfl, fun y hy he => hy.elim (fun hy => hle y hy he) (fun e => by rw [e]; exact nw_irrefl _)⟩
        · have hb := (hm x).1 hx
          exact ⟨.inl hb.1, fun y hy he => hy.elim (fun hy => hb.2 y hy he) (fun e => by rw [e, eqN_comm, hne] at he; cases he)⟩
      · rintro ⟨hx, hb⟩
        cases he : eqN x.name c.name with
        | false =>
          refine .inr ⟨?_, rfl⟩
          rcases hx with hx | rfl
          · exact (hm x).2 ⟨hx, fun y hy he => hb y (.inl hy) he⟩
          · rw [show eqN x.name x.name = true from eqN_iff.2 rfl] at he; cases he
        | true =>
          left
          rcases hx with hx | rfl
          · exact hc x c (.inl hx) (.inr rfl) he (hle x hx he) (hb c (.inr rfl) (eqN_symm he))
          · rfl
    · cases he : eqN y.name c.name with
      | true =>
        refine ⟨c, (putF_mem c hs c).2 (.inl rfl), he, ?_⟩
        rcases hy with hy | rfl
        · exact hle y hy he
        · exact nw_irrefl _
      | false =>
        rcases hy with hy | rfl
        · obtain ⟨o, ho, h1, h2⟩ := hcov y hy
          refine ⟨o, (putF_mem c hs o).2 (.inr ⟨ho, ?_⟩), h1, h2⟩
          rw [← eqN_left h1]; exact he
        · rw [show eqN y.name y.name = true from eqN_iff.2 rfl] at he; cases he
  unfold learnR
  cases hf : findL out c.name with
  | none =>
    have hn := findL_none.1 hf
    have h8 := hroom hf
    simp only [if_neg (show ¬ 8 ≤ out.length by omega)]
    refine hput fun y hy he => ?_
    obtain ⟨o, ho, h1, h2⟩ := hcov y hy
    have := hn o ho
    rw [← eqN_left h1, he] at this
    cases this
  | some o =>
    obtain ⟨ho, he⟩ := findL_some hf
    have hbo := (hm o).1 ho
    simp only []
    cases h1 : stampB c.ep c.who o.ep o.who with
    | true =>
      simp only [if_true]
      refine hput fun y hy hye => ?_
      have h2 : nw y o = false := hbo.2 y hy (eqN_trans hye (eqN_symm he))
      exact nw_le_trans h2 (nw_asymm h1)
    | false =>
      have h1' : nw c o = false := h1
      have key : Inv (fun x => S x ∨ x = c) out := by
        refine ⟨hs, fun x => ⟨fun hx => ?_, fun hb => ?_⟩, fun y hy => ?_⟩
        · have hb := (hm x).1 hx
          refine ⟨.inl hb.1, fun y hy hye => hy.elim (fun hy => hb.2 y hy hye) fun e => ?_⟩
          subst e
          have : o = x := srt_uniq hs ho hx (eqN_trans he hye)
          rw [← this]; exact h1'
        · rcases hb.1 with hx | rfl
          · exact (hm x).2 ⟨hx, fun y hy he => hb.2 y (.inl hy) he⟩
          · have : o = x := hc o x (.inl hbo.1) (.inr rfl) he (hb.2 o (.inl hbo.1) he) h1'
            rw [← this]; exact ho
        · rcases hy with hy | rfl
          · exact hcov y hy
          · exact ⟨o, ho, eqN_symm he, h1'⟩
      cases h2 : stampB o.ep o.who c.ep c.who with
      | true => simpa [h2] using key
      | false => simpa [h2] using key
/-- What the document's Merge answers. -/
def mergeR (ls more : List Ch) : List Ch := more.foldl (fun out c => (learnR out c).1) ls
/-- Eight names hold all of them. -/
def Few (S : Ch → Prop) : Prop := ∃ ns : List ByteArray, ns.length ≤ 8 ∧ ∀ x, S x → ∃ n ∈ ns, eqN x.name n = true
theorem few_len : ∀ (ns : List ByteArray) (ls : List Ch), (ls.Pairwise fun a b => eqN a.name b.name = false) → (∀ x ∈ ls, ∃ n ∈ ns, eqN x.name n = true) → ls.length ≤ ns.length
  | [], ls, _, h => by
    cases ls with
    | nil => simp
    | cons x xs => obtain ⟨n, hn, _⟩ := h x (by simp); cases hn
  | n :: ns, ls, hp, h => by
    have h1 : (ls.filter fun x => !eqN x.name n).length ≤ ns.length := by
      refine few_len ns _ (List.Pairwise.filter _ hp) fun x hx => ?_
      obtain ⟨hx1, hx2⟩ := List.mem_filter.1 hx
      obtain ⟨m, hm, he⟩ := h x hx1
      rcases List.mem_cons.1 hm with rfl | hm
      · rw [he] at hx2; cases hx2
      · exact ⟨m, hm, he⟩
    have h2 : ∀ (l : List Ch), (l.Pairwise fun a b => eqN a.name b.name = false) → l.length ≤ (l.filter fun x => !eqN x.name n).length + 1 := by
      intro l
      induction l with
      | nil => intro _; simp
      | cons x xs ih =>
        intro hp
        have hp' := List.pairwise_cons.1 hp
        cases he : eqN x.name n with
        | false => have := ih hp'.2; simp [he]; omega
        | true =>
          have : (xs.filter fun x => !eqN x.name n) = xs := List.filter_eq_self.2 fun y hy => by
            have h3 := hp'.1 y hy
            have : eqN y.name n = false := by
              cases h4 : eqN y.name n with
              | false => rfl
              | true => rw [eqN_trans he (eqN_symm h4)] at h3; cases h3
            rw [this]; rfl
          simp [he, this]
    have := h2 ls hp
    simp
    omega
theorem srt_ne {ls : List Ch} (hs : Srt ls) : ls.Pairwise fun a b => eqN a.name b.name = false := hs.imp fun h => ltN_eqN h
theorem room {S : Ch → Prop} {out : List Ch} {c : Ch} (h : Inv S out) (hf : Few fun x => S x ∨ x = c) (hn : findL out c.name = none) : out.length < 8 := by
  obtain ⟨ns, h8, hns⟩ := hf
  have := few_len ns (c :: out) (List.pairwise_cons.2 ⟨fun y hy => by rw [eqN_comm]; exact findL_none.1 hn y hy, srt_ne h.1⟩) (fun x hx => hns x (by
    rcases List.mem_cons.1 hx with rfl | hx
    · exact .inr rfl
    · exact .inl ((h.2.1 x).1 hx).1))
  simp at this
  omega
theorem inv_congr {S T : Ch → Prop} {out : List Ch} (h : Inv S out) (he : ∀ x, S x ↔ T x) : Inv T out := by
  have : S = T := funext fun x => propext (he x)
  rwa [← this]
theorem inv_merge : ∀ (more : List Ch) {S : Ch → Prop} {out : List Ch}, Inv S out → Cons (fun x => S x ∨ x ∈ more) → Few (fun x => S x ∨ x ∈ more) → Inv (fun x => S x ∨ x ∈ more) (mergeR out more)
  | [], S, out, h, _, _ => inv_congr h fun x => by simp
  | c :: more, S, out, h, hc, hf => by
    have h1 : Inv (fun x => S x ∨ x = c) (learnR out c).1 := inv_learn h (fun x y hx hy => hc x y (hx.imp id (by rintro rfl; simp)) (hy.imp id (by rintro rfl; simp))) (room h (by
      obtain ⟨ns, h8, hns⟩ := hf
      exact ⟨ns, h8, fun x hx => hns x (hx.imp id (by rintro rfl; simp))⟩))
    have e : ∀ x, ((S x ∨ x = c) ∨ x ∈ more) ↔ (S x ∨ x ∈ c :: more) := fun x => by simp [or_assoc]
    have e' : (fun x => (S x ∨ x = c) ∨ x ∈ more) = fun x => S x ∨ x ∈ c :: more := funext fun x => propext (e x)
    have h2 := inv_merge more h1 (by rw [e']; exact hc) (by rw [e']; exact hf)
    rw [e'] at h2
    exact h2
theorem inv_uniq : ∀ {a b : List Ch}, Srt a → Srt b → (∀ x, x ∈ a ↔ x ∈ b) → a = b
  | [], [], _, _, _ => rfl
  | [], y :: ys, _, _, h => by have := (h y).2 (by simp); cases this
  | x :: xs, [], _, _, h => by have := (h x).1 (by simp); cases this
  | x :: xs, y :: ys, ha, hb, h => by
    have pa := List.pairwise_cons.1 ha
    have pb := List.pairwise_cons.1 hb
    have hxy : x = y := by
      rcases List.mem_cons.1 ((h x).1 (by simp)) with e | hx
      · exact e
      · rcases List.mem_cons.1 ((h y).2 (by simp)) with e | hy
        · exact e.symm
        · have h1 := pa.1 y hy
          have h2 := pb.1 x hx
          rw [ltN_asymm h1] at h2; cases h2
    subst hxy
    congr 1
    refine inv_uniq pa.2 pb.2 fun z => ⟨fun hz => ?_, fun hz => ?_⟩
    · rcases List.mem_cons.1 ((h z).1 (by simp [hz])) with rfl | h1
      · have := pa.1 z hz; rw [ltN_irrefl] at this; cases this
      · exact h1
    · rcases List.mem_cons.1 ((h z).2 (by simp [hz])) with rfl | h1
      · have := pb.1 z hz; rw [ltN_irrefl] at this; cases this
      · exact h1
theorem inv_eq {S : Ch → Prop} {a b : List Ch} (ha : Inv S a) (hb : Inv S b) : a = b := inv_uniq ha.1 hb.1 fun x => (ha.2.1 x).trans (hb.2.1 x).symm
theorem inv_sub {S T : Ch → Prop} {m out : List Ch} (hm : Inv T m) (h : Inv (fun x => S x ∨ x ∈ m) out) : Inv (fun x => S x ∨ T x) out := by
  have hT : ∀ x, x ∈ m → T x := fun x hx => ((hm.2.1 x).1 hx).1
  refine ⟨h.1, fun x => ?_, fun y hy => ?_⟩
  · rw [h.2.1 x]
    constructor
    · rintro ⟨hx, hb⟩
      refine ⟨hx.imp id (hT x), fun y hy he => ?_⟩
      rcases hy with hy | hy
      · exact hb y (.inl hy) he
      · obtain ⟨o, ho, h1, h2⟩ := hm.2.2 y hy
        exact nw_le_trans h2 (hb o (.inr ho) (eqN_trans (eqN_symm h1) he))
    · rintro ⟨hx, hb⟩
      refine ⟨?_, fun y hy he => hb y (hy.imp id (hT y)) he⟩
      rcases hx with hx | hx
      · exact .inl hx
      · exact .inr ((hm.2.1 x).2 ⟨hx, fun y hy he => hb y (.inr hy) he⟩)
  · rcases hy with hy | hy
    · exact h.2.2 y (.inl hy)
    · obtain ⟨o, ho, h1, h2⟩ := hm.2.2 y hy
      obtain ⟨p, hp, h3, h4⟩ := h.2.2 o (.inr ho)
      exact ⟨p, hp, eqN_trans h1 h3, nw_le_trans h2 h4⟩
theorem Cons.sub {S T : Ch → Prop} (h : Cons T) (hs : ∀ x, S x → T x) : Cons S := fun x y hx hy => h x y (hs x hx) (hs y hy)
theorem Few.sub {S T : Ch → Prop} (h : Few T) (hs : ∀ x, S x → T x) : Few S := by
  obtain ⟨ns, h8, hns⟩ := h
  exact ⟨ns, h8, fun x hx => hns x (hs x hx)⟩
theorem mergeR_inv {a b : List Ch} (ha : Srt a) (hc : Cons (fun x => x ∈ a ∨ x ∈ b)) (hf : Few (fun x => x ∈ a ∨ x ∈ b)) : Inv (fun x => x ∈ a ∨ x ∈ b) (mergeR a b) := inv_merge b (inv_self ha) hc hf
theorem agrees {a b c : List Ch} (ha : Srt a) (hb : Srt b) (hc : Srt c) (hC : Cons (fun x => x ∈ a ∨ x ∈ b ∨ x ∈ c)) (hF : Few (fun x => x ∈ a ∨ x ∈ b ∨ x ∈ c)) :
    mergeR a b = mergeR b a ∧ mergeR a a = a ∧ mergeR (mergeR a b) c = mergeR a (mergeR b c) := by
  have hab := mergeR_inv ha (hC.sub fun x h => h.imp id .inl) (hF.sub fun x h => h.imp id .inl)
  have hba := mergeR_inv hb (b := a) (hC.sub fun x h => h.elim (fun h => .inr (.inl h)) .inl) (hF.sub fun x h => h.elim (fun h => .inr (.inl h)) .inl)
  have hbc := mergeR_inv hb (b := c) (hC.sub fun x h => .inr h) (hF.sub fun x h => .inr h)
  have haa := mergeR_inv ha (b := a) (hC.sub fun x h => .inl (h.elim id id)) (hF.sub fun x h => .inl (h.elim id id))
  refine ⟨inv_eq hab (inv_congr hba fun x => or_comm), inv_eq (inv_congr haa fun x => or_self_iff) (inv_self ha), ?_⟩
  have e1 : (fun x => (x ∈ a ∨ x ∈ b) ∨ x ∈ c) = fun x => x ∈ a ∨ x ∈ b ∨ x ∈ c := funext fun x => propext or_assoc
  have h1 := inv_merge c hab (by rw [e1]; exact hC) (by rw [e1]; exact hF)
  rw [e1] at h1
  have hsub : ∀ x, (x ∈ a ∨ x ∈ mergeR b c) → (x ∈ a ∨ x ∈ b ∨ x ∈ c) := fun x h => h.imp id fun h => ((hbc.2.1 x).1 h).1
  have h2 := inv_merge (mergeR b c) (inv_self ha) (hC.sub hsub) (hF.sub hsub)
  exact inv_eq h1 (inv_sub hbc h2)
/-- What is known behind learning. -/
theorem learnR_srt {ls : List Ch} (c : Ch) (hs : Srt ls) : Srt (learnR ls c).1 := by
  unfold learnR
  cases findL ls c.name with
  | none => simp only []; split; exact hs; exact putF_srt c hs
  | some o =>
    simp only []
    split
    · exact putF_srt c hs
    · split <;> exact hs
theorem learnR_sub {ls : List Ch} (c : Ch) (hs : Srt ls) : ∀ x ∈ (learnR ls c).1, x = c ∨ x ∈ ls := by
  intro x hx
  have hp : x ∈ putF c ls → x = c ∨ x ∈ ls := fun h => ((putF_mem c hs x).1 h).imp id And.left
  revert hx
  unfold learnR
  cases findL ls c.name with
  | none => simp only []; split; exact .inr; exact hp
  | some o =>
    simp only []
    split
    · exact hp
    · split <;> exact .inr
theorem learnR_len {ls : List Ch} (c : Ch) (hs : Srt ls) (h8 : ls.length ≤ 8) : (learnR ls c).1.length ≤ 8 := by
  unfold learnR
  cases hf : findL ls c.name with
  | none =>
    simp only []
    split
    · exact h8
    · have := putF_len_le c hs
      simp only []
      omega
  | some o =>
    have := putF_len_there c hs hf
    simp only []
    split
    · simp only []; omega
    · split <;> exact h8
theorem learnR_fits {ls : List Ch} (c : Ch) (h : fitsB ls = true) (hc : chFit c.name c.ep c.who c.kd c.sc = true) : fitsB (learnR ls c).1 = true := by
  have hs := srt_of_fits h
  obtain ⟨h8, hf⟩ := fit_of_fits h
  exact fits_of (learnR_len c hs h8) (learnR_srt c hs) fun x hx => by
    rcases learnR_sub c hs x hx with rfl | hx
    · exact hc
    · exact hf x hx
theorem mergeR_fits : ∀ (more : List Ch) {ls : List Ch}, fitsB ls = true → (∀ c ∈ more, chFit c.name c.ep c.who c.kd c.sc = true) → fitsB (mergeR ls more) = true
  | [], ls, h, _ => h
  | c :: more, ls, h, hc => mergeR_fits more (learnR_fits c h (hc c (by simp))) fun x hx => hc x (by simp [hx])
end Go.Proofs.Ytfihkkamedghkaa
