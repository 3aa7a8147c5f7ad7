/- Rows of states, one state changed; what Set, Tick and Hear answer. -/
import Derived.Test.YtfihkkamedghkaaStM
import Derived.Test.YtfihkkamedghkaaStT
import Derived.Test.YtfihkkamedghkaaStX
import Derived.Test.YtfihkkamedghkaaStF
namespace Go.Proofs.Ytfihkkamedghkaa
open Go.RowKit
set_option linter.unusedVariables false
theorem addr_eq {ad : Addr} (h : ad.spot = none) (m : Nat) : ad.add m = ⟨ad.block, ad.off + m, none⟩ := by
  obtain ⟨b, o, s⟩ := ad
  subst h
  exact Addr.add_lit ..
theorem set_same {rs : List St} {k : Nat} {x : St} (h : rs[k]? = some x) : rs.set k x = rs := by
  obtain ⟨hk, e⟩ := List.getElem?_eq_some_iff.1 h
  rw [← e]
  exact List.set_getElem_self hk
theorem rowsE_upd {W : World} {B n k i : Nat} {ad : Addr} {rs : List St} {x x' : St} {g o : Nat} {v : Value} (h : RowsE stV 16 W B (some ad) n (rs.set k x)) (hk : k < n) (hq : ad.add (k * 16) = ⟨g, o, none⟩) (hi : i < 16) (hx : stV x' = (stV x).set i v) :
    RowsE stV 16 (W.setCell ⟨g, o + i, none⟩ v) B (some ad) n (rs.set k x') := by
  have hl := h.1
  rw [List.length_set] at hl
  obtain ⟨ad', e, hB, hc⟩ := h.2 (by omega)
  obtain rfl := Option.some.inj e
  have hoff : ad.off + k * 16 = o := by have := congrArg Addr.off hq; rwa [adde] at this
  refine ⟨by rw [List.length_set]; exact hl, fun _ => ⟨ad, rfl, hB, fun j y hy t u hu => ?_⟩⟩
  have ht : t < 16 := by have := (List.getElem?_eq_some_iff.1 hu).1; rwa [stV_len] at this
  by_cases hj : j = k
  · subst hj
    rw [List.getElem?_set_self (by omega)] at hy
    obtain rfl := Option.some.inj hy
    have hold := hc j x (List.getElem?_set_self (by omega))
    rw [hq] at hold ⊢
    rw [hx] at hu
    by_cases hti : t = i
    · subst hti
      rw [List.getElem?_set_self (by rw [stV_len]; exact ht)] at hu
      obtain rfl := Option.some.inj hu
      have ho := hold t _ (List.getElem?_eq_getElem (by rw [stV_len]; exact ht))
      rw [Addr.add_lit] at ho ⊢
      exact World.cell?_setCell_same _ _ _ ho
    · rw [List.getElem?_set_ne (Ne.symm hti)] at hu
      rw [World.cell?_setCell_other]
      · exact hold t u hu
      · intro e3
        have := congrArg Addr.off e3
        simp only [adde] at this
        omega
  · rw [List.getElem?_set_ne (Ne.symm hj)] at hy
    have hold := hc j y (by rw [List.getElem?_set_ne (Ne.symm hj)]; exact hy)
    rw [World.cell?_setCell_other]
    · exact hold t u hu
    · intro e3
      have := congrArg Addr.off e3
      simp only [adde] at this
      omega
theorem rowsE_at {W : World} {B n k : Nat} {ad : Addr} {rs : List St} {x : St} {g o : Nat} (h : RowsE stV 16 W B (some ad) n (rs.set k x)) (hk : k < n) (hq : ad.add (k * 16) = ⟨g, o, none⟩) : st16 W ⟨g, o, none⟩ x := by
  have hl := h.1
  rw [List.length_set] at hl
  obtain ⟨ad', e, hB, hc⟩ := h.2 (by omega)
  obtain rfl := Option.some.inj e
  have := hc k x (List.getElem?_set_self (by omega))
  rw [hq] at this
  exact st16_of this
theorem set_names {rs : List St} {k : Nat} {x x' : St} (hx : rs[k]? = some x) (hc : x'.ch = x.ch) (h : ∀ y ∈ rs, y.ch.name.size ≤ maxLen) : ∀ y ∈ rs.set k x', y.ch.name.size ≤ maxLen := by
  intro y hy
  rcases List.mem_or_eq_of_mem_set hy with hy | rfl
  · exact h y hy
  · rw [hc]; exact h x (List.mem_of_getElem? hx)
theorem mul_flow {a b : Int} (h : (mulN a b).2 = 0) : flowsB (mulN a b).1 = true := by
  unfold mulN chk at *
  split at h
  · rename_i hc
    rw [if_pos hc]
    simp only [Bool.and_eq_true] at hc
    exact hc.2
  · simp at h
theorem told_flow {kd x sc : Int} (h : (toldF kd x sc).2 = 0) : flowsB (toldF kd x sc).1 = true := by
  unfold toldF at *
  split at h
  · rename_i h1; rw [if_pos h1]; exact mul_flow h
  · rename_i h1
    rw [if_neg h1]
    split at h
    · rename_i h2
      rw [if_pos h2]
      split at h
      · simp at h
      · rename_i h3; rw [if_neg h3]; exact mul_flow h
    · rename_i h2
      rw [if_neg h2]
      split at h
      · rename_i h3
        rw [if_pos h3]
        split at h
        · rename_i h4; exact absurd h h4
        · rename_i h4; rw [if_neg h4]; exact mul_flow h
      · rename_i h3; rw [if_neg h3]; exact mul_flow h
/-- A state behind Set; what Set answers. -/
def setX (id n : Int) (y : St) : St := ⟨y.ch, true, n, if y.ch.kd = 4 then setE 1 id n y.mn else y.mn, if y.ch.kd = 4 then setE (-1) id n y.mx else y.mx⟩
def setR (id : Int) (rs : List St) (nm : ByteArray) (x : Int) : List St × Int := match plc rs nm with
  | none => (rs, 44)
  | some k => if (toldF ((rs[k]?).getD St0).ch.kd x ((rs[k]?).getD St0).ch.sc).2 = 0 then (rs.set k (setX id (toldF ((rs[k]?).getD St0).ch.kd x ((rs[k]?).getD St0).ch.sc).1 ((rs[k]?).getD St0)), 0) else (rs, (toldF ((rs[k]?).getD St0).ch.kd x ((rs[k]?).getD St0).ch.sc).2)
theorem setR_none {id : Int} {rs : List St} {nm : ByteArray} {x : Int} (h : plc rs nm = none) : setR id rs nm x = (rs, 44) := by unfold setR; rw [h]
theorem setR_bad {id : Int} {rs : List St} {nm : ByteArray} {x : Int} {k : Nat} {y : St} {a e : Int} (h : plc rs nm = some k) (hy : rs[k]? = some y) (ht : toldF y.ch.kd x y.ch.sc = (a, e)) (he : e ≠ 0) : setR id rs nm x = (rs, e) := by
  unfold setR
  rw [h]
  simp only [hy, Option.getD_some, ht]
  rw [if_neg he]
theorem setR_ok {id : Int} {rs : List St} {nm : ByteArray} {x : Int} {k : Nat} {y : St} {a : Int} (h : plc rs nm = some k) (hy : rs[k]? = some y) (ht : toldF y.ch.kd x y.ch.sc = (a, 0)) : setR id rs nm x = (rs.set k (setX id a y), 0) := by
  unfold setR
  rw [h]
  simp only [hy, Option.getD_some, ht, if_true]
def tickX (id : Int) (y : St) : St := if y.ch.al = true ∧ y.ch.kd = 4 then ⟨y.ch, y.has, y.inp, tickE 1 id y.has y.inp y.mn, tickE (-1) id y.has y.inp y.mx⟩ else y
def hearX (id : Int) (d u : E) (y : St) : St := ⟨y.ch, y.has, y.inp, hearE 1 id y.mn d, hearE (-1) id y.mx u⟩
def hearR (id : Int) (rs : List St) (nm : ByteArray) (d u : E) : List St := match plc rs nm with
  | none => rs
  | some k => if ((rs[k]?).getD St0).ch.kd = 4 then rs.set k (hearX id d u ((rs[k]?).getD St0)) else rs
/-- A list that may be read in a world. -/
def ReadS (w : World) (v : Value) (rs : List St) : Prop := ∃ A c, v = .slice A rs.length c ∧ StsAt w w.heap.size A rs.length rs
theorem OwnS.read {w : World} {base : Nat} {v : Value} {rs : List St} (h : OwnS w base v rs) (hs : ∀ x ∈ rs, x.ch.name.size ≤ maxLen) : ReadS w v rs := by
  obtain ⟨A, c, e, h1⟩ := h.at_ hs
  exact ⟨A, c, e, h1⟩
theorem ReadS.below {w w' : World} {v : Value} {rs : List St} (h : ReadS w v rs) (hb : Below w.heap.size w w') : ReadS w' v rs := by
  obtain ⟨A, c, e, h1⟩ := h
  exact ⟨A, c, e, (h1.below hb).more hb.size⟩
end Go.Proofs.Ytfihkkamedghkaa
