/- An argument that is a list of int64s, opened: its cells, its numbers, its size. -/
import Derived.Test.YtmgpknadefhikaaNumS
import Derived.ChangeSlices
import Derived.SizedLaws
import Derived.Lib.SmallJoins
import Derived.OpenShut
namespace Go.Proofs.Ytmgpknadefhikaa
open Go.ChangeShapes Go.WideShapes Go.RowKit
theorem open_i64s {H : Type} {enc : TypeId × Value → H} {P : Program} {w : World} {base b0 : Nat} {spare : Nat → Bool} {held : Bool} {t e : TypeId} {v : Value} {d : DataW H} {p : List MemPlace}
    (ht : P.underlying t = some (.slice e)) (he : P.underlying e = some (.int .i64)) (hc : P.cellsOf e = 1) (hv : Value.okWide P w .any b0 t v) (h : DataW.Trod enc P w base spare held t v d p) :
    ∃ (A : Option Addr) (n c : Nat) (xs : List Int), v = .slice A n c ∧ xs.length = n ∧ n ≤ maxLen ∧ i64s xs ∧ Reads w w.heap.size 1 A n (xs.map (Value.int .i64)) ∧ ((d = .nil ∧ n = 0) ∨ ∃ el sp, d = .slice el sp ∧ el.length = n) := by
  obtain ⟨A, n, c, rfl⟩ := okWide_slice ht hv
  obtain ⟨fuel, hf⟩ := h
  rcases open_ints ht he hc hf with ⟨h1, h2⟩ | ⟨a, len, cap, zs, h1, hb, hl, hm, hlen, h2, hcell, hwf⟩
  · simp [Value.cells] at h1
    obtain ⟨rfl, rfl, rfl⟩ := h1
    simp at h2
    exact ⟨none, 0, 0, [], rfl, rfl, Nat.zero_le _, fun x hx => (by cases hx), Reads.none_, .inl ⟨h2.1, rfl⟩⟩
  · simp [Value.cells] at h1
    obtain ⟨rfl, rfl, rfl⟩ := h1
    have hzl : n ≤ zs.length := by rw [hlen]; split <;> omega
    refine ⟨some a, n, c, zs.take n, rfl, by simp [hzl], by omega, ?_, ⟨by simp [hzl], fun hn => ⟨a, rfl, ?_, ?_⟩⟩, .inr ?_⟩
    · intro x hx
      have := bounds_i64 (hwf x (List.mem_of_mem_take hx))
      omega
    · have := hcell 0 (by omega)
      have h3 := cell_lt this
      rwa [block_of_add] at h3
    · intro j u hu
      rw [List.getElem?_map, Option.map_eq_some_iff] at hu
      obtain ⟨x, hx, rfl⟩ := hu
      obtain ⟨hj, hx⟩ := List.getElem?_eq_some_iff.1 hx
      rw [List.length_take] at hj
      rw [hcell j (by omega)]
      rw [List.getElem_take] at hx
      rw [List.getD_eq_getElem?_getD, List.getElem?_eq_getElem (by omega), ← hx]
      rfl
    · simp at h2
      exact ⟨_, _, h2.1, by simp [lits, hzl]⟩
theorem small_i64s {H : Type} {P : Program} {ts : List TypeId} {ds : List (DataW H)} (h : (DataW.weightsEach P ts ds).all (· ≤ reachBytes) = true) {j n : Nat} {t e : TypeId} {d : DataW H} (ht : ts[j]? = some t) (hd : ds[j]? = some d) (hu : P.underlying t = some (.slice e)) (hb : P.bytesOf e = 8)
    (hs : (d = .nil ∧ n = 0) ∨ ∃ el sp, d = .slice el sp ∧ el.length = n) : n * 8 ≤ reachBytes := by
  rcases hs with ⟨_, rfl⟩ | ⟨el, sp, rfl, rfl⟩
  · simp
  · have := sized_slice h ht hd hu
    rw [hb] at this
    refine Nat.le_trans ?_ this
    exact Nat.mul_le_mul_right 8 (by omega)
end Go.Proofs.Ytmgpknadefhikaa
