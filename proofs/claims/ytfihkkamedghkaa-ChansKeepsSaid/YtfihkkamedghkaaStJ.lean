/- Rows of which the first are ticked; what Hear answers: what the call computes, for fit states. -/
import Derived.Test.YtfihkkamedghkaaStW
namespace Go.Proofs.Ytfihkkamedghkaa
open Go.RowKit
set_option linter.unusedVariables false
theorem hearR_none {id : Int} {rs : List St} {nm : ByteArray} {d u : E} (h : plc rs nm = none) : hearR id rs nm d u = rs := by unfold hearR; rw [h]
theorem hearR_off {id : Int} {rs : List St} {nm : ByteArray} {d u : E} {k : Nat} {y : St} (h : plc rs nm = some k) (hy : rs[k]? = some y) (hk : y.ch.kd ≠ 4) : hearR id rs nm d u = rs := by
  unfold hearR
  rw [h]
  simp only [hy, Option.getD_some]
  rw [if_neg hk]
theorem hearR_on {id : Int} {rs : List St} {nm : ByteArray} {d u : E} {k : Nat} {y : St} (h : plc rs nm = some k) (hy : rs[k]? = some y) (hk : y.ch.kd = 4) : hearR id rs nm d u = rs.set k (hearX id d u y) := by
  unfold hearR
  rw [h]
  simp only [hy, Option.getD_some]
  rw [if_pos hk]
/-- Rows of which the first k are ticked. -/
def tkR (id : Int) (rs : List St) (k t : Nat) : St := if t < k then tickX id ((rs[t]?).getD St0) else (rs[t]?).getD St0
theorem tkR_at {id : Int} {rs : List St} {k : Nat} {y : St} (h : rs[k]? = some y) : tkR id rs k k = y := by
  unfold tkR
  rw [if_neg (Nat.lt_irrefl k), h]
  rfl
theorem tkR_next {id : Int} {rs : List St} {k : Nat} {y x' : St} (h : rs[k]? = some y) (hx : tickX id y = x') : (fun t => if t = k then x' else tkR id rs k t) = tkR id rs (k + 1) := by
  funext t
  by_cases ht : t = k
  · subst ht
    unfold tkR
    rw [if_pos rfl, if_pos (Nat.lt_succ_self t), h]
    exact hx.symm
  · rw [if_neg ht]
    unfold tkR
    by_cases hl : t < k
    · rw [if_pos hl, if_pos (by omega)]
    · rw [if_neg hl, if_neg (by omega)]
theorem tkR_end {id : Int} {rs : List St} {t : Nat} {x : St} (h : (rs.map (tickX id))[t]? = some x) : tkR id rs rs.length t = x := by
  rw [List.getElem?_map] at h
  obtain ⟨y, hy, rfl⟩ := Option.map_eq_some_iff.1 h
  unfold tkR
  rw [if_pos (List.getElem?_eq_some_iff.1 hy).1, hy]
  rfl
theorem tickX_ch (id : Int) (y : St) : (tickX id y).ch = y.ch := by unfold tickX; split <;> rfl
theorem tick_names {id : Int} {rs : List St} (h : ∀ y ∈ rs, y.ch.name.size ≤ maxLen) : ∀ y ∈ rs.map (tickX id), y.ch.name.size ≤ maxLen := by
  intro y hy
  obtain ⟨z, hz, rfl⟩ := List.mem_map.1 hy
  rw [tickX_ch]
  exact h z hz
theorem row_same {W : World} {ad : Addr} {n t0 : Nat} {R : Nat → St} {x : St} (h : RowE stV 16 W ad n R) (hx : R t0 = x) : RowE stV 16 W ad n (fun t => if t = t0 then x else R t) := by
  have e : (fun t => if t = t0 then x else R t) = R := by
    funext t
    by_cases ht : t = t0
    · rw [if_pos ht, ht, hx]
    · rw [if_neg ht]
  rw [e]
  exact h
theorem row_upd {W : World} {ad : Addr} {n t0 i0 : Nat} {R : Nat → St} {x x' : St} {v : Value} {g o : Nat} (h : RowE stV 16 W ad n (fun t => if t = t0 then x else R t)) (ht0 : t0 < n) (hq : ad.add (t0 * 16) = ⟨g, o, none⟩) (hi0 : i0 < 16) (hx : stV x' = (stV x).set i0 v) :
    RowE stV 16 (W.setCell ⟨g, o + i0, none⟩ v) ad n (fun t => if t = t0 then x' else R t) := by
  have := row_set stV_len (x := x') (v := v) h ht0 hi0 (by simp only [if_true]; exact hx)
  rw [hq, Addr.add_lit] at this
  have e : (fun t => if t = t0 then x' else R t) = (fun t => if t = t0 then x' else if t = t0 then x else R t) := by
    funext t
    by_cases ht : t = t0
    · rw [if_pos ht, if_pos ht]
    · rw [if_neg ht, if_neg ht, if_neg ht]
  rw [e]
  exact this
theorem row_open {W : World} {ad : Addr} {n k : Nat} {R : Nat → St} {x : St} {g o : Nat} (h : RowE stV 16 W ad n R) (hk : k < n) (hx : R k = x) (hq : ad.add (k * 16) = ⟨g, o, none⟩) : st16 W ⟨g, o, none⟩ x ∧ ∀ i, i < 16 → W.frozen? ⟨g, o + i, none⟩ = false := by
  obtain ⟨h1, h2⟩ := h k hk
  rw [hx] at h1
  rw [hq] at h1 h2
  exact ⟨st16_of h1, fun i hi => by have := h2 i hi; rwa [Addr.add_lit] at this⟩
theorem sts_end {W : World} {n cx : Nat} {ad : Addr} {R : Nat → St} {L : List St} (h : RowE stV 16 W ad n R) (hl : L.length = n) (hR : ∀ t x, L[t]? = some x → R t = x) (hab : ad.block < W.heap.size) (hs : ∀ y ∈ L, y.ch.name.size ≤ maxLen) : ReadS W (.slice (some ad) n cx) L := by
  subst hl
  exact ⟨_, _, rfl, row_rows h (Nat.le_refl _) rfl hR hab, hs⟩
end Go.Proofs.Ytfihkkamedghkaa
