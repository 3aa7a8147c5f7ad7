/- An argument that is a list of values of k cells each, opened: its cells, its values, its size. -/
import Derived.Test.YtdaobbffhfbceaaRow
import Derived.Test.YtdaobbffhfbceaaQuiet
import Derived.Deep.Slices
import Derived.SizedLaws
import Derived.Lib.SmallJoins
import Derived.OpenShut
set_option maxRecDepth 100000
namespace Go.Proofs.Ytdaobbffhfbceaa
open Go.ChangeShapes Go.WideShapes Go.RowKit Go.Deep
set_option linter.unusedVariables false
section
variable {H : Type} {enc : TypeId × Value → H} {P : Program} {w : World} {base b0 : Nat} {spare : Nat → Bool} {held : Bool}
theorem open_rows {α : Type} {enc2 : α → List Value} {k : Nat} (hk : ∀ x, (enc2 x).length = k) (h0 : 0 < k) (d0 : α) {Q : α → Prop} {t e : TypeId} {v : Value} {d : DataW H} {p : List MemPlace}
    (ht : P.underlying t = some (.slice e)) (hc : P.cellsOf e = k)
    (hel : ∀ (fuel : Nat) (cs : List Value) (x : DataW H × List MemPlace), DataW.trod enc P w base spare held fuel e cs = some x → ∃ y, cs = enc2 y ∧ Q y)
    (hv : Value.okWide P w .any b0 t v) (h : DataW.Trod enc P w base spare held t v d p) :
    ∃ (A : Option Addr) (n c : Nat) (rs : List α), v = .slice A n c ∧ n ≤ maxLen ∧ RowsE enc2 k w w.heap.size A n rs ∧ (∀ y ∈ rs, Q y) ∧ ((d = .nil ∧ n = 0) ∨ ∃ el sp, d = .slice el sp ∧ el.length = n) := by
  obtain ⟨A, n, c, rfl⟩ := okWide_slice ht hv
  obtain ⟨fuel, hfu⟩ := h
  rcases open_slice ht hfu with ⟨h1, h2⟩ | ⟨a, len, cap, m, n', D, Pl, h1, hb, hl, hm, hmm, h2, hcell⟩
  · simp [Value.cells] at h1
    obtain ⟨rfl, rfl, rfl⟩ := h1
    simp at h2
    exact ⟨none, 0, 0, [], rfl, Nat.zero_le _, rowsE_nil _ _ _, fun _ h => (by cases h), .inl ⟨h2.1, rfl⟩⟩
  · simp [Value.cells] at h1
    obtain ⟨rfl, rfl, rfl⟩ := h1
    have hnm : n ≤ m := by rw [hmm]; split <;> omega
    have HX : ∀ i, i < n → ∃ x : α, CellsE enc2 w (a.add (i * k)) x ∧ Q x := fun i hi => by
      obtain ⟨cs', hc', ht'⟩ := hcell i (by omega)
      rw [hc] at hc'
      obtain ⟨y, rfl, hs⟩ := hel _ _ _ ht'
      obtain ⟨_, hcl, hat⟩ := World.cells?_some hc'
      refine ⟨y, fun t u hu => ?_, hs⟩
      have htl : t < k := by have := (List.getElem?_eq_some_iff.1 hu).1; rwa [hk] at this
      rw [hat t htl, hu]
    refine ⟨some a, n, c, (List.range n).map (fun i => if h : i < n then Classical.choose (HX i h) else d0), rfl, by omega, ⟨by simp, fun hn => ⟨a, rfl, ?_, fun j x hx => ?_⟩⟩, ?_, .inr ⟨_, _, (by simp at h2; exact h2.1), by simp⟩⟩
    · obtain ⟨x, hx, _⟩ := HX 0 hn
      have hlx : 0 < (enc2 x).length := by rw [hk]; exact h0
      have h3 := cell_lt (hx 0 _ (List.getElem?_eq_getElem hlx))
      rwa [block_of_add, block_of_add] at h3
    · obtain ⟨hj, hx⟩ := List.getElem?_eq_some_iff.1 hx
      simp at hj
      simp [hj] at hx
      rw [← hx]
      exact (Classical.choose_spec (HX j hj)).1
    · intro x hx
      obtain ⟨i, hi, rfl⟩ := List.mem_map.1 hx
      rw [List.mem_range] at hi
      rw [dif_pos hi]
      exact (Classical.choose_spec (HX i hi)).2
theorem small_rows {ts : List TypeId} {ds : List (DataW H)} (h : (DataW.weightsEach P ts ds).all (· ≤ reachBytes) = true) {j n : Nat} {d : DataW H} {t e : TypeId} {b : Nat} (ht : ts[j]? = some t) (hd : ds[j]? = some d) (hu : P.underlying t = some (.slice e)) (hb : P.bytesOf e = b)
    (hs : (d = .nil ∧ n = 0) ∨ ∃ el sp, d = .slice el sp ∧ el.length = n) : n * b ≤ 140737488351232 := by
  rcases hs with ⟨_, rfl⟩ | ⟨el, sp, rfl, rfl⟩
  · simp
  · have := sized_slice h ht hd hu
    rw [hb] at this
    have h2 := Nat.le_trans (Nat.mul_le_mul_right b (show el.length ≤ el.length + sp.length by omega)) this
    simp only [reachBytes] at h2
    omega
end
end Go.Proofs.Ytdaobbffhfbceaa
