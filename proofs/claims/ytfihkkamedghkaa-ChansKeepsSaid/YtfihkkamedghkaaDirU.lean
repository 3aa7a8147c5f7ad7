/- Plain laws: records only ever go up. -/
import Derived.Test.YtfihkkamedghkaaDirK
namespace Go.Proofs.Ytfihkkamedghkaa
set_option linter.unusedVariables false
/-- Every record of the list is in the other one, or a newer one. -/
def risesOk (ls m : List Ch) : Prop := fitsB m = true ∧ ∀ d ∈ ls, ∃ n, findL m d.name = some n ∧ stampB d.ep d.who n.ep n.who = false
theorem findL_self {ls : List Ch} (hs : Srt ls) {d : Ch} (h : d ∈ ls) : findL ls d.name = some d := findL_mem hs h (eqN_iff.2 rfl)
theorem findL_eqN {ls : List Ch} {a b : ByteArray} (h : eqN a b = true) : findL ls a = findL ls b := by
  unfold findL
  rw [eqN_iff.1 h]
theorem rises_same {ls : List Ch} (h : fitsB ls = true) : risesOk ls ls := ⟨h, fun d hd => ⟨d, findL_self (srt_of_fits h) hd, nw_irrefl d⟩⟩
theorem rises_put {ls : List Ch} {c : Ch} (h : fitsB ls = true) (hf : fitsB (putF c ls) = true) (ho : ∀ o, findL ls c.name = some o → nw o c = false) : risesOk ls (putF c ls) := by
  have hs := srt_of_fits h
  refine ⟨hf, fun d hd => ?_⟩
  cases he : eqN d.name c.name with
  | true =>
    refine ⟨c, ?_, ho d (findL_mem hs hd he)⟩
    rw [findL_eqN he]
    exact findL_self (putF_srt c hs) ((putF_mem c hs c).2 (.inl rfl))
  | false => exact ⟨d, findL_self (putF_srt c hs) ((putF_mem c hs d).2 (.inr ⟨hd, he⟩)), nw_irrefl d⟩
theorem rises_learn {ls : List Ch} {c : Ch} (h : fitsB ls = true) (hc : chFit c.name c.ep c.who c.kd c.sc = true) : risesOk ls (learnR ls c).1 := by
  have hf := learnR_fits c h hc
  cases hd : findL ls c.name with
  | none =>
    by_cases h8 : 8 ≤ ls.length
    · have e : learnR ls c = (ls, 5) := by unfold learnR; rw [hd]; simp only []; rw [if_pos h8]
      rw [e]; exact rises_same h
    · have e : learnR ls c = (putF c ls, 4) := by unfold learnR; rw [hd]; simp only []; rw [if_neg h8]
      rw [e] at hf ⊢
      exact rises_put h hf fun o ho => by rw [hd] at ho; cases ho
  | some o =>
    cases h1 : stampB c.ep c.who o.ep o.who with
    | true =>
      have e : learnR ls c = (putF c ls, 3) := by unfold learnR; rw [hd]; simp only []; rw [if_pos h1]
      rw [e] at hf ⊢
      exact rises_put h hf fun o' ho => by
        rw [hd] at ho
        obtain rfl := Option.some.inj ho
        exact nw_asymm h1
    | false =>
      have e : (learnR ls c).1 = ls := by
        unfold learnR; rw [hd]; simp only []; rw [if_neg (by rw [h1]; simp)]; split <;> rfl
      rw [e]; exact rises_same h
theorem rises_cre {ls : List Ch} {m : Int} {nm : ByteArray} {k sc : Int} (h : fitsB ls = true) (h0 : 0 ≤ m) (h1 : m < 16) : risesOk ls (creL ls m nm k sc) := by
  by_cases he : creE ls nm k sc = 0
  · have hf := creL_fits (m := m) (nm := nm) (k := k) (sc := sc) h h0 h1
    rw [creL_ok he] at hf ⊢
    refine rises_put h hf fun o ho => ?_
    have ho' : findL ls nm = some o := ho
    refine nw_asymm (nw_iff.2 (.inl ?_))
    show o.ep < ((findL ls nm).getD Ch0).ep + 1
    rw [ho']
    simp only [Option.getD_some]
    omega
  · rw [creL_no rfl he]; exact rises_same h
theorem rises_del {ls : List Ch} {m : Int} {nm : ByteArray} (h : fitsB ls = true) (h0 : 0 ≤ m) (h1 : m < 16) : risesOk ls (delL ls m nm) := by
  by_cases he : delE ls nm = 0
  · obtain ⟨o, ho, ha, hep⟩ := delE_cases he
    have hf := delL_fits (m := m) (nm := nm) h h0 h1
    rw [delL_ok ho he] at hf ⊢
    refine rises_put h hf fun o' ho' => ?_
    have e : findL ls o.name = some o := findL_self (srt_of_fits h) (findL_some ho).1
    rw [show (delC o m).name = o.name from rfl, e] at ho'
    obtain rfl := Option.some.inj ho'
    refine nw_asymm (nw_iff.2 (.inl ?_))
    show o.ep < o.ep + 1
    omega
  · rw [delL_no rfl he]; exact rises_same h
theorem cre_find {ls : List Ch} {m : Int} {nm : ByteArray} {k sc : Int} (h : fitsB ls = true) (he : creE ls nm k sc = 0) : findL (creL ls m nm k sc) nm = some (creC ls m nm k sc) := by
  rw [creL_ok he]
  exact findL_self (putF_srt _ (srt_of_fits h)) ((putF_mem _ (srt_of_fits h) _).2 (.inl rfl))
theorem cre_newer {ls : List Ch} {m : Int} {nm : ByteArray} {k sc : Int} {o : Ch} (he : creE ls nm k sc = 0) (ho : findL ls nm = some o) : stampB (creC ls m nm k sc).ep (creC ls m nm k sc).who o.ep o.who = true ∧ o.al = false := by
  refine ⟨nw_iff (a := creC ls m nm k sc).2 (.inl ?_), ((creE_cases he).2.2.2.2 o ho).1⟩
  show o.ep < ((findL ls nm).getD Ch0).ep + 1
  rw [ho]
  simp only [Option.getD_some]
  omega
theorem del_find {ls : List Ch} {m : Int} {nm : ByteArray} {o : Ch} (h : fitsB ls = true) (he : delE ls nm = 0) (ho : findL ls nm = some o) : findL (delL ls m nm) nm = some (delC o m) ∧ stampB (delC o m).ep (delC o m).who o.ep o.who = true ∧ o.al = true := by
  refine ⟨?_, nw_iff (a := delC o m).2 (.inl ?_), ?_⟩
  · rw [delL_ok ho he]
    exact findL_mem (putF_srt _ (srt_of_fits h)) ((putF_mem _ (srt_of_fits h) _).2 (.inl rfl)) (findL_some ho).2
  · show o.ep < o.ep + 1
    omega
  · obtain ⟨o', ho', ha, _⟩ := delE_cases he
    rw [ho] at ho'
    obtain rfl := Option.some.inj ho'
    exact ha
theorem del_cre {ls : List Ch} {nm : ByteArray} {k sc : Int} (he : creE ls nm k sc = 0) : delE ls nm ≠ 0 := by
  intro h
  obtain ⟨o, ho, ha, _⟩ := delE_cases h
  rw [((creE_cases he).2.2.2.2 o ho).1] at ha
  cases ha
theorem tail_cases {ls : List Ch} {c : Ch} (h : fitsB ls = true) (hc : chFit c.name c.ep c.who c.kd c.sc = true) :
    (((learnR ls c).2 = 3 ∨ (learnR ls c).2 = 4) ∧ findL (learnR ls c).1 c.name = some c ∧ (learnR ls c).1 ≠ ls) ∨ ((learnR ls c).2 ≠ 3 ∧ (learnR ls c).2 ≠ 4 ∧ (learnR ls c).1 = ls) := by
  have hs := srt_of_fits h
  have hin : findL (putF c ls) c.name = some c := findL_self (putF_srt c hs) ((putF_mem c hs c).2 (.inl rfl))
  cases hd : findL ls c.name with
  | none =>
    by_cases h8 : 8 ≤ ls.length
    · have e : learnR ls c = (ls, 5) := by unfold learnR; rw [hd]; simp only []; rw [if_pos h8]
      rw [e]; exact .inr ⟨by simp, by simp, rfl⟩
    · have e : learnR ls c = (putF c ls, 4) := by unfold learnR; rw [hd]; simp only []; rw [if_neg h8]
      rw [e]
      refine .inl ⟨.inr rfl, hin, fun e2 => ?_⟩
      simp only [] at e2
      rw [e2, hd] at hin
      cases hin
  | some o =>
    cases h1 : stampB c.ep c.who o.ep o.who with
    | true =>
      have e : learnR ls c = (putF c ls, 3) := by unfold learnR; rw [hd]; simp only []; rw [if_pos h1]
      rw [e]
      refine .inl ⟨.inl rfl, hin, fun e2 => ?_⟩
      simp only [] at e2
      rw [e2, hd] at hin
      obtain rfl := Option.some.inj hin
      have : nw o o = true := h1
      rw [nw_irrefl] at this
      cases this
    | false =>
      cases h2 : stampB o.ep o.who c.ep c.who with
      | true =>
        have e : learnR ls c = (ls, 1) := by unfold learnR; rw [hd]; simp only []; rw [if_neg (by rw [h1]; simp), if_pos h2]
        rw [e]; exact .inr ⟨by simp, by simp, rfl⟩
      | false =>
        have e : learnR ls c = (ls, 2) := by unfold learnR; rw [hd]; simp only []; rw [if_neg (by rw [h1]; simp), if_neg (by rw [h2]; simp)]
        rw [e]; exact .inr ⟨by simp, by simp, rfl⟩
end Go.Proofs.Ytfihkkamedghkaa
