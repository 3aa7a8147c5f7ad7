/- Plain laws: what Set, Tick, Hear, Create and Delete make of fit states is fit. -/
import Derived.Test.YtfihkkamedghkaaStR
import Derived.Test.YtfihkkamedghkaaStK
import Derived.Test.YtfihkkamedghkaaStI
import Derived.Test.YtfihkkamedghkaaStQ
import Derived.Test.YtfihkkamedghkaaStZ
import Derived.Test.YtfihkkamedghkaaStL
namespace Go.Proofs.Ytfihkkamedghkaa
open Go.RowKit
set_option linter.unusedVariables false
theorem sts_fits {id : Int} {ls : List St} (h : stsB id ls = true) : fitsB (ls.map St.ch) = true := (stsB_iff.1 h).2.2.1
theorem sts_len {id : Int} {ls : List St} (h : stsB id ls = true) : ls.length * 136 ≤ 140737488351232 := by
  have := (fit_of_fits (sts_fits h)).1
  rw [List.length_map] at this
  omega
theorem put_names {c : Ch} {ls : List St} (hc : c.name.size ≤ maxLen) (h : ∀ x ∈ ls, x.ch.name.size ≤ maxLen) : ∀ x ∈ stPut c ls, x.ch.name.size ≤ maxLen := by
  intro x hx
  rcases stPut_mem hx with rfl | hx
  · exact hc
  · exact h x hx
def okS (y : St) : Prop := (y.ch.al = false → y.has = false ∧ y.mn = E0 ∧ y.mx = E0) ∧ (y.has = false → y.inp = 0) ∧ flowsB y.inp = true ∧ (y.ch.kd ≠ 4 → y.mn = E0 ∧ y.mx = E0) ∧ fitE y.mn ∧ fitE y.mx
theorem okS_iff {y : St} : stOk y = true ↔ okS y := by
  unfold okS stOk fitE
  rw [← eEq_iff, ← eEq_iff, show (y.ch.kd ≠ 4) = ((y.ch.kd == 4) = false) from by simp, show (y.inp = 0) = ((y.inp == 0) = true) from by simp]
  cases y.ch.al <;> cases y.has <;> cases (eEq y.mn E0) <;> cases (eEq y.mx E0) <;> cases (y.inp == 0) <;> cases (flowsB y.inp) <;> cases (y.ch.kd == 4) <;> cases (efitB y.mn.has y.mn.val y.mn.org y.mn.age) <;> cases (efitB y.mx.has y.mx.val y.mx.org y.mx.age) <;> decide
theorem sts_ok {id : Int} {ls : List St} (h : stsB id ls = true) : ∀ y ∈ ls, okS y := fun y hy => okS_iff.1 ((stsB_iff.1 h).2.2.2 y hy)
theorem sts_ext {id : Int} {ls : List St} (h : stsB id ls = true) : ∀ y ∈ ls, fitE y.mn ∧ fitE y.mx := fun y hy => (sts_ok h y hy).2.2.2.2
theorem sts_inp {id : Int} {ls : List St} (h : stsB id ls = true) : ∀ y ∈ ls, fitE y.mn ∧ fitE y.mx ∧ flowB y.inp = true := fun y hy => ⟨(sts_ext h y hy).1, (sts_ext h y hy).2, (sts_ok h y hy).2.2.1⟩
theorem sts_kind {id : Int} {ls : List St} (h : stsB id ls = true) : ∀ y ∈ ls, 1 ≤ y.ch.kd ∧ y.ch.kd ≤ 4 := by
  intro y hy
  have := (fit_of_fits (sts_fits h)).2 y.ch (List.mem_map_of_mem hy)
  simp only [chFit, kindB, Bool.and_eq_true, decide_eq_true_eq] at this
  exact this.2.1
theorem sts_id {id : Int} {ls : List St} (h : stsB id ls = true) : 0 ≤ id ∧ id < 16 := ⟨(stsB_iff.1 h).1, (stsB_iff.1 h).2.1⟩
theorem okS_set {id n : Int} {y : St} (h : okS y) (ha : y.ch.al = true) (h0 : 0 ≤ id) (h1 : id < 16) (hn : flowsB n = true) : okS (setX id n y) := by
  obtain ⟨a1, a2, a3, a4, a5, a6⟩ := h
  refine ⟨(fun e => by rw [show (setX id n y).ch.al = y.ch.al from rfl, ha] at e; cases e), (fun e => by cases e), hn, fun e => ?_, ?_, ?_⟩
  · have e' : y.ch.kd ≠ 4 := e
    unfold setX
    simp only [if_neg e']
    exact a4 e'
  · unfold setX
    simp only []
    split
    · exact setE_fit h0 h1 hn a5
    · exact a5
  · unfold setX
    simp only []
    split
    · exact setE_fit h0 h1 hn a6
    · exact a6
theorem okS_tick {id : Int} {y : St} (h : okS y) (h0 : 0 ≤ id) (h1 : id < 16) : okS (tickX id y) := by
  unfold tickX
  split
  · rename_i hc
    obtain ⟨a1, a2, a3, a4, a5, a6⟩ := h
    exact ⟨(fun e => by rw [show y.ch.al = true from hc.1] at e; cases e), a2, a3, fun e => absurd hc.2 e, tickE_fit h0 h1 a3 a5, tickE_fit h0 h1 a3 a6⟩
  · exact h
theorem okS_hear {id : Int} {d u : E} {y : St} (h : okS y) (ha : y.ch.al = true) (hk : y.ch.kd = 4) (hd : fitE d) (hu : fitE u) : okS (hearX id d u y) := by
  obtain ⟨a1, a2, a3, a4, a5, a6⟩ := h
  exact ⟨(fun e => by rw [show (hearX id d u y).ch.al = y.ch.al from rfl, ha] at e; cases e), a2, a3, fun e => absurd hk e, hearE_fit a5 hd, hearE_fit a6 hu⟩
theorem map_set_ch {ls : List St} {k : Nat} {y x : St} (hy : ls[k]? = some y) (hc : x.ch = y.ch) : (ls.set k x).map St.ch = ls.map St.ch := by
  rw [List.map_set, hc]
  obtain ⟨hk, e⟩ := List.getElem?_eq_some_iff.1 hy
  have : (ls.map St.ch)[k]? = some y.ch := by rw [List.getElem?_map, hy]; rfl
  obtain ⟨hk', e'⟩ := List.getElem?_eq_some_iff.1 this
  rw [← e']
  exact List.set_getElem_self hk'
theorem sts_one {id : Int} {ls : List St} {k : Nat} {y x : St} (h : stsB id ls = true) (hy : ls[k]? = some y) (hc : x.ch = y.ch) (hx : okS x) : stsB id (ls.set k x) = true := by
  obtain ⟨h0, h1, h2, h3⟩ := stsB_iff.1 h
  refine stsB_iff.2 ⟨h0, h1, by rw [map_set_ch hy hc]; exact h2, fun z hz => ?_⟩
  rcases List.mem_or_eq_of_mem_set hz with hz | rfl
  · exact h3 z hz
  · exact okS_iff.2 hx
theorem isS_al {nm : ByteArray} {x : St} (h : isS nm x = true) : x.ch.al = true := by simp only [isS, Bool.and_eq_true] at h; exact h.2
theorem set_cases (id : Int) (ls : List St) (nm : ByteArray) (x : Int) : (setR id ls nm x).1 = ls ∨ ∃ k y n, plc ls nm = some k ∧ ls[k]? = some y ∧ isS nm y = true ∧ flowsB n = true ∧ setR id ls nm x = (ls.set k (setX id n y), 0) := by
  cases hp : plc ls nm with
  | none => exact .inl (by rw [setR_none hp])
  | some k =>
    obtain ⟨y, hy, hi, _⟩ := plc_some hp
    by_cases he : (toldF y.ch.kd x y.ch.sc).2 = 0
    · refine .inr ⟨k, y, (toldF y.ch.kd x y.ch.sc).1, rfl, hy, hi, told_flow he, setR_ok hp hy (by rw [← he])⟩
    · exact .inl (by rw [setR_bad hp hy rfl he])
theorem set_fit {id : Int} {ls : List St} {nm : ByteArray} {x : Int} (h : stsB id ls = true) : stsB id (setR id ls nm x).1 = true := by
  rcases set_cases id ls nm x with e | ⟨k, y, n, _, hy, hi, hn, e⟩
  · rw [e]; exact h
  · rw [e]
    exact sts_one h hy rfl (okS_set (sts_ok h y (List.mem_of_getElem? hy)) (isS_al hi) (sts_id h).1 (sts_id h).2 hn)
theorem set_nms {id : Int} {ls : List St} {nm : ByteArray} {x : Int} (h : ∀ y ∈ ls, y.ch.name.size ≤ maxLen) : ∀ y ∈ (setR id ls nm x).1, y.ch.name.size ≤ maxLen := by
  rcases set_cases id ls nm x with e | ⟨k, y, n, _, hy, hi, hn, e⟩
  · rw [e]; exact h
  · rw [e]; exact set_names hy rfl h
theorem tick_fit {id : Int} {ls : List St} (h : stsB id ls = true) : stsB id (ls.map (tickX id)) = true := by
  obtain ⟨h0, h1, h2, h3⟩ := stsB_iff.1 h
  refine stsB_iff.2 ⟨h0, h1, ?_, fun z hz => ?_⟩
  · rw [List.map_map, show St.ch ∘ tickX id = St.ch from funext (tickX_ch id)]
    exact h2
  · obtain ⟨y, hy, rfl⟩ := List.mem_map.1 hz
    exact okS_iff.2 (okS_tick (sts_ok h y hy) h0 h1)
theorem hear_cases (id : Int) (ls : List St) (nm : ByteArray) (d u : E) : hearR id ls nm d u = ls ∨ ∃ k y, ls[k]? = some y ∧ isS nm y = true ∧ y.ch.kd = 4 ∧ hearR id ls nm d u = ls.set k (hearX id d u y) := by
  cases hp : plc ls nm with
  | none => exact .inl (hearR_none hp)
  | some k =>
    obtain ⟨y, hy, hi, _⟩ := plc_some hp
    by_cases he : y.ch.kd = 4
    · exact .inr ⟨k, y, hy, hi, he, hearR_on hp hy he⟩
    · exact .inl (hearR_off hp hy he)
theorem hear_fit {id : Int} {ls : List St} {nm : ByteArray} {d u : E} (h : stsB id ls = true) (hd : fitE d) (hu : fitE u) : stsB id (hearR id ls nm d u) = true := by
  rcases hear_cases id ls nm d u with e | ⟨k, y, hy, hi, hk, e⟩
  · rw [e]; exact h
  · rw [e]
    exact sts_one h hy rfl (okS_hear (sts_ok h y (List.mem_of_getElem? hy)) (isS_al hi) hk hd hu)
theorem hear_nms {id : Int} {ls : List St} {nm : ByteArray} {d u : E} (h : ∀ y ∈ ls, y.ch.name.size ≤ maxLen) : ∀ y ∈ hearR id ls nm d u, y.ch.name.size ≤ maxLen := by
  rcases hear_cases id ls nm d u with e | ⟨k, y, hy, hi, hk, e⟩
  · rw [e]; exact h
  · rw [e]; exact set_names hy rfl h
theorem cre_fit {id : Int} {ls : List St} {nm : ByteArray} {k sc : Int} (h : stsB id ls = true) : stsB id (stCre ls id nm k sc).1 = true := by
  unfold stCre
  split
  · rename_i he
    refine sts_put h ?_
    have := creL_fits (m := id) (nm := nm) (k := k) (sc := sc) (sts_fits h) (sts_id h).1 (sts_id h).2
    rwa [creL_ok he] at this
  · exact h
theorem cre_nms {id : Int} {ls : List St} {nm : ByteArray} {k sc : Int} (hn : nm.size ≤ maxLen) (h : ∀ y ∈ ls, y.ch.name.size ≤ maxLen) : ∀ y ∈ (stCre ls id nm k sc).1, y.ch.name.size ≤ maxLen := by
  unfold stCre
  split
  · exact put_names hn h
  · exact h
theorem del_fit {id : Int} {ls : List St} {nm : ByteArray} (h : stsB id ls = true) : stsB id (stDel ls id nm).1 = true := by
  unfold stDel
  split
  · rename_i he
    obtain ⟨o, ho, _, _⟩ := del_some he
    refine sts_put h ?_
    rw [ho]
    have := delL_fits (m := id) (nm := nm) (sts_fits h) (sts_id h).1 (sts_id h).2
    unfold delL at this
    rw [ho] at this
    simp only [] at this
    rwa [if_pos he] at this
  · exact h
theorem del_nms {id : Int} {ls : List St} {nm : ByteArray} (h : ∀ y ∈ ls, y.ch.name.size ≤ maxLen) : ∀ y ∈ (stDel ls id nm).1, y.ch.name.size ≤ maxLen := by
  unfold stDel
  split
  · rename_i he
    obtain ⟨o, ho, hm, _⟩ := del_some he
    rw [ho]
    obtain ⟨y, hy, e⟩ := List.mem_map.1 hm
    refine put_names ?_ h
    have := h y hy
    rwa [e] at this
  · exact h
theorem ReadS.at_n {w : World} {v : Value} {rs : List St} (h : ReadS w v rs) : ∃ A c, v = .slice A rs.length c ∧ StsAt w w.heap.size A rs.length rs := h
end Go.Proofs.Ytfihkkamedghkaa
