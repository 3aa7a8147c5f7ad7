/- Plain laws of lists of states: what a change of one record makes of them. -/
import Derived.Test.YtfihkkamedghkaaStA
import Derived.Test.YtfihkkamedghkaaStH
import Derived.Test.YtfihkkamedghkaaDirU
namespace Go.Proofs.Ytfihkkamedghkaa
set_option linter.unusedVariables false
/-- The states behind a change of one record: that one begins anew. -/
def stPut (c : Ch) (ls : List St) : List St := ls.filter (fun x => ltN x.ch.name c.name) ++ fresh c :: ls.filter (fun x => ltN c.name x.ch.name)
def SrtS (ls : List St) : Prop := ls.Pairwise fun a b => ltN a.ch.name b.ch.name = true
theorem srtS_of {ls : List St} (h : Srt (ls.map St.ch)) : SrtS ls := by
  unfold Srt at h
  rw [List.pairwise_map] at h
  exact h
theorem stPut_ch (c : Ch) {ls : List St} (hs : Srt (ls.map St.ch)) : (stPut c ls).map St.ch = putF c (ls.map St.ch) := by
  rw [putF_eq c hs, List.filter_map, List.filter_map]
  unfold stPut
  rw [List.map_append, List.map_cons]
  rfl
theorem stPut_mem {c : Ch} {ls : List St} {x : St} (h : x ∈ stPut c ls) : x = fresh c ∨ x ∈ ls := by
  unfold stPut at h
  rcases List.mem_append.1 h with h | h
  · exact .inr (List.mem_filter.1 h).1
  · rcases List.mem_cons.1 h with h | h
    · exact .inl h
    · exact .inr (List.mem_filter.1 h).1
theorem stPut_has {c : Ch} {ls : List St} {x : St} (h : x ∈ ls) (hn : eqN x.ch.name c.name = false) : x ∈ stPut c ls := by
  unfold stPut
  rw [List.mem_append, List.mem_cons, List.mem_filter, List.mem_filter]
  cases h1 : ltN x.ch.name c.name with
  | true => exact .inl ⟨h, rfl⟩
  | false =>
    cases h2 : ltN c.name x.ch.name with
    | true => exact .inr (.inr ⟨h, rfl⟩)
    | false => rw [ltN_total h1 h2] at hn; cases hn
theorem split_at {α : Type} {ls : List α} {i : Nat} {y : α} (h : ls[i]? = some y) : ls = ls.take i ++ y :: ls.drop (i + 1) := by
  obtain ⟨hk, e⟩ := List.getElem?_eq_some_iff.1 h
  rw [← e, ← List.drop_eq_getElem_cons hk, List.take_append_drop]
theorem srtS_take {ls : List St} (hs : SrtS ls) {i : Nat} {y : St} (h : ls[i]? = some y) : (∀ z ∈ ls.take i, ltN z.ch.name y.ch.name = true) ∧ ∀ z ∈ ls.drop (i + 1), ltN y.ch.name z.ch.name = true := by
  have hs' := hs
  unfold SrtS at hs'
  rw [split_at h] at hs'
  obtain ⟨_, h2, h3⟩ := List.pairwise_append.1 hs'
  exact ⟨fun z hz => h3 z hz y (by simp), fun z hz => (List.pairwise_cons.1 h2).1 z hz⟩
theorem anewS_self {ls : List St} (hs : SrtS ls) {nm : ByteArray} {y : St} (hy : y ∈ ls) (hn : (y.ch.name.toList == nm.toList) = false) : anewS ls nm y.ch = y := by
  obtain ⟨i, hi, rfl⟩ := List.getElem_of_mem hy
  have hx : ls[i]? = some ls[i] := List.getElem?_eq_getElem hi
  have e : ls.findIdx? (isN ls[i].ch.name) = some i := idx_hit (fun z hz => ltN_eqN ((srtS_take hs hx).1 z hz)) hx (by unfold isN; exact beq_self_eq_true _)
  unfold anewS
  rw [e]
  simp only [hn]
  rw [hx]
  rfl
theorem anewS_new {ls : List St} {nm : ByteArray} {c : Ch} (h : (c.name.toList == nm.toList) = true) : anewS ls nm c = fresh c := by
  unfold anewS
  split
  · rw [if_pos h]
  · rfl
theorem map_keep {α : Type} {f : α → α} {l : List α} (h : ∀ x ∈ l, f x = x) : l.map f = l := by
  conv => rhs; rw [← List.map_id l]
  exact List.map_congr_left h
theorem anew_put {ls : List St} {c : Ch} {nm : ByteArray} (hs : Srt (ls.map St.ch)) (hn : c.name.toList = nm.toList) : (putF c (ls.map St.ch)).map (anewS ls nm) = stPut c ls := by
  rw [putF_eq c hs, List.filter_map, List.filter_map, List.map_append, List.map_cons, List.map_map, List.map_map]
  unfold stPut
  rw [anewS_new (by rw [hn]; exact beq_self_eq_true _)]
  have hk : ∀ y ∈ ls, ltN y.ch.name c.name = true ∨ ltN c.name y.ch.name = true → (anewS ls nm ∘ St.ch) y = y := fun y hy h => by
    refine anewS_self (srtS_of hs) hy ?_
    rw [← hn]
    rcases h with h | h
    · exact ltN_eqN h
    · have := ltN_eqN h; rw [eqN_comm] at this; exact this
  congr 1
  · exact map_keep fun y hy => hk y (List.mem_filter.1 hy).1 (.inl (List.mem_filter.1 hy).2)
  · congr 1
    exact map_keep fun y hy => hk y (List.mem_filter.1 hy).1 (.inr (List.mem_filter.1 hy).2)
theorem beg_off (c : Ch) : ∀ (ls : List St) (s : St), (∀ z ∈ ls, z.ch ≠ c) → ls.foldl (begS c) s = s
  | [], s, _ => rfl
  | z :: ls, s, h => by
    have h1 : begS c s z = s := by unfold begS; rw [if_neg (fun e => h z (by simp) (chEq_iff.1 e))]
    rw [List.foldl_cons, h1]
    exact beg_off c ls s fun y hy => h y (List.mem_cons_of_mem _ hy)
theorem begunS_self {ls : List St} (hs : SrtS ls) {y : St} (hy : y ∈ ls) : begunS ls y.ch = y := by
  obtain ⟨i, hi, rfl⟩ := List.getElem_of_mem hy
  have hx : ls[i]? = some ls[i] := List.getElem?_eq_getElem hi
  generalize hyy : ls[i] = y at *
  unfold begunS
  conv => lhs; rw [split_at hx]
  rw [List.foldl_append, List.foldl_cons]
  have h1 : ∀ s, begS y.ch s y = y := fun s => by unfold begS; rw [if_pos (chEq_iff.2 rfl)]
  rw [h1]
  refine beg_off _ _ _ fun z hz e => ?_
  have := (srtS_take hs hx).2 z hz
  rw [e, ltN_irrefl] at this
  cases this
theorem begun_put {ls : List St} {c : Ch} (hs : Srt (ls.map St.ch)) (hc : c ∉ ls.map St.ch) : (putF c (ls.map St.ch)).map (begunS ls) = stPut c ls := by
  rw [putF_eq c hs, List.filter_map, List.filter_map, List.map_append, List.map_cons, List.map_map, List.map_map]
  unfold stPut
  have hn : begunS ls c = fresh c := beg_off c ls _ fun z hz e => hc (List.mem_map.2 ⟨z, hz, e⟩)
  rw [hn]
  congr 1
  · exact map_keep fun y hy => begunS_self (srtS_of hs) (List.mem_filter.1 hy).1
  · congr 1
    exact map_keep fun y hy => begunS_self (srtS_of hs) (List.mem_filter.1 hy).1
theorem stOk_fresh (c : Ch) : stOk (fresh c) = true := by
  unfold stOk stOkB
  cases c.al <;> cases (c.kd == 4) <;> rfl
theorem stsB_iff {id : Int} {ls : List St} : stsB id ls = true ↔ 0 ≤ id ∧ id < 16 ∧ fitsB (ls.map St.ch) = true ∧ ∀ x ∈ ls, stOk x = true := by
  unfold stsB
  simp only [Bool.and_eq_true, decide_eq_true_eq, List.all_eq_true]
theorem sts_put {id : Int} {c : Ch} {ls : List St} (h : stsB id ls = true) (hf : fitsB (putF c (ls.map St.ch)) = true) : stsB id (stPut c ls) = true := by
  obtain ⟨h0, h1, h2, h3⟩ := stsB_iff.1 h
  refine stsB_iff.2 ⟨h0, h1, by rw [stPut_ch c (srt_of_fits h2)]; exact hf, fun x hx => ?_⟩
  rcases stPut_mem hx with rfl | hx
  · exact stOk_fresh c
  · exact h3 x hx
/-- Learn, Create and Delete of states. -/
def stLrn (ls : List St) (c : Ch) : List St × Bool := if (learnR (ls.map St.ch) c).2 = 4 ∨ (learnR (ls.map St.ch) c).2 = 3 then (stPut c ls, true) else (ls, false)
def stCre (ls : List St) (id : Int) (nm : ByteArray) (k sc : Int) : List St × Int := if creE (ls.map St.ch) nm k sc = 0 then (stPut (creC (ls.map St.ch) id nm k sc) ls, 0) else (ls, creE (ls.map St.ch) nm k sc)
def stDel (ls : List St) (id : Int) (nm : ByteArray) : List St × Int := if delE (ls.map St.ch) nm = 0 then (stPut (delC ((findL (ls.map St.ch) nm).getD Ch0) id) ls, 0) else (ls, delE (ls.map St.ch) nm)
theorem learn_put {L : List Ch} {c : Ch} (hs : Srt L) (h : (learnR L c).2 = 4 ∨ (learnR L c).2 = 3) : (learnR L c).1 = putF c L ∧ c ∉ L := by
  unfold learnR at *
  cases hf : findL L c.name with
  | none =>
    rw [hf] at h
    simp only [] at h ⊢
    split at h
    · simp at h
    · rename_i h8
      rw [if_neg h8]
      exact ⟨rfl, fun hm => by have := findL_none.1 hf c hm; rw [eqN_iff.2 rfl] at this; cases this⟩
  | some o =>
    rw [hf] at h
    simp only [] at h ⊢
    split at h
    · rename_i hst
      rw [if_pos hst]
      refine ⟨rfl, fun hm => ?_⟩
      have := findL_mem hs hm (eqN_iff.2 rfl)
      rw [hf] at this
      obtain rfl := Option.some.inj this
      simp [stampB] at hst
    · split at h <;> simp at h
theorem cre_new {L : List Ch} {id : Int} {nm : ByteArray} {k sc : Int} (hs : Srt L) : creC L id nm k sc ∉ L := by
  intro hm
  have h := findL_mem hs hm (show eqN (creC L id nm k sc).name nm = true from eqN_iff.2 rfl)
  have e : (creC L id nm k sc).ep = ((findL L nm).getD Ch0).ep + 1 := rfl
  rw [h] at e
  simp only [Option.getD_some] at e
  omega
theorem del_some {L : List Ch} {nm : ByteArray} (h : delE L nm = 0) : ∃ o, findL L nm = some o ∧ o ∈ L ∧ o.name.toList = nm.toList := by
  unfold delE at h
  cases hf : findL L nm with
  | none => rw [hf] at h; simp at h
  | some o => exact ⟨o, rfl, (findL_some hf).1, eqN_iff.1 (findL_some hf).2⟩
theorem del_new {L : List Ch} {id : Int} {nm : ByteArray} {o : Ch} (hs : Srt L) (ho : findL L nm = some o) : delC o id ∉ L := by
  intro hm
  have h := findL_mem hs hm (show eqN (delC o id).name o.name = true from eqN_iff.2 rfl)
  have h2 := findL_mem hs (findL_some ho).1 (eqN_iff.2 rfl)
  rw [h2] at h
  have e := congrArg Ch.ep (Option.some.inj h)
  simp [delC] at e
  omega
end Go.Proofs.Ytfihkkamedghkaa
