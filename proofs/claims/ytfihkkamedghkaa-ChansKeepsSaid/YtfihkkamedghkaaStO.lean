/- An argument that is a list of states, opened: the cells, the states, the size. -/
import Derived.Test.YtfihkkamedghkaaSt
import Derived.Test.YtfihkkamedghkaaDirO
import Derived.Test.YtfihkkamedghkaaExtO
set_option maxRecDepth 100000
namespace Go.Proofs.Ytfihkkamedghkaa
open Go.ChangeShapes Go.WideShapes Go.RowKit Go.Deep
set_option linter.unusedVariables false
section
variable {H : Type} {enc : TypeId × Value → H} {w : World} {base b0 : Nat} {spare : Nat → Bool} {held : Bool}
theorem k_string : Try.prog.cellsOf 9 = 1 := by kernel_rfl
theorem k_int64 : Try.prog.cellsOf 2 = 1 := by kernel_rfl
theorem k_int : Try.prog.cellsOf 3 = 1 := by kernel_rfl
theorem k_bool : Try.prog.cellsOf 4 = 1 := by kernel_rfl
theorem cells_state : Try.prog.cellsOf 43 = 16 := by kernel_rfl
theorem trod_chan {fuel : Nat} {cs : List Value} {x : DataW H × List MemPlace} (h : DataW.trod enc Try.prog w base spare held fuel 38 cs = some x) : ∃ c : Ch, cs = chV c ∧ c.name.size ≤ maxLen := by
  obtain ⟨xs, n, rfl, rfl, hl, hx, hf⟩ := DataW.trod_struct Try.underlying38 h
  rw [cells_chan] at hl
  match cs, hl with
  | [a0, a1, a2, a3, a4, a5], _ =>
  have f0 := hf 0 _ rfl
  rw [List.getElem?_eq_getElem (show 0 < xs.length by rw [hx]; decide)] at f0
  simp [k_string] at f0
  obtain ⟨z0, e0, _, hs⟩ := DataW.trod_string Try.underlying9 f0
  obtain rfl := (List.cons.inj e0).1
  have f1 := hf 1 _ rfl
  rw [List.getElem?_eq_getElem (show 1 < xs.length by rw [hx]; decide)] at f1
  simp [k_int64] at f1
  obtain ⟨z1, e1, _, _⟩ := DataW.trod_int Try.underlying2 f1
  obtain rfl := (List.cons.inj e1).1
  have f2 := hf 2 _ rfl
  rw [List.getElem?_eq_getElem (show 2 < xs.length by rw [hx]; decide)] at f2
  simp [k_int] at f2
  obtain ⟨z2, e2, _, _⟩ := DataW.trod_int Try.underlying3 f2
  obtain rfl := (List.cons.inj e2).1
  have f3 := hf 3 _ rfl
  rw [List.getElem?_eq_getElem (show 3 < xs.length by rw [hx]; decide)] at f3
  simp [k_bool] at f3
  obtain ⟨z3, e3, _⟩ := DataW.trod_bool Try.underlying4 f3
  obtain rfl := (List.cons.inj e3).1
  have f4 := hf 4 _ rfl
  rw [List.getElem?_eq_getElem (show 4 < xs.length by rw [hx]; decide)] at f4
  simp [k_int] at f4
  obtain ⟨z4, e4, _, _⟩ := DataW.trod_int Try.underlying3 f4
  obtain rfl := (List.cons.inj e4).1
  have f5 := hf 5 _ rfl
  rw [List.getElem?_eq_getElem (show 5 < xs.length by rw [hx]; decide)] at f5
  simp [k_int64] at f5
  obtain ⟨z5, e5, _, _⟩ := DataW.trod_int Try.underlying2 f5
  obtain rfl := (List.cons.inj e5).1
  exact ⟨⟨z0, z1, z2, z3, z4, z5⟩, rfl, hs⟩
theorem trod_ext {fuel : Nat} {cs : List Value} {x : DataW H × List MemPlace} (h : DataW.trod enc Try.prog w base spare held fuel 41 cs = some x) : ∃ e : E, cs = [.bool e.has, .int .i64 e.val, .int .i64 e.org, .int .i64 e.age] := by
  obtain ⟨xs, n, rfl, rfl, hl, hx, hf⟩ := DataW.trod_struct Try.underlying41 h
  rw [cells_ext] at hl
  match cs, hl with
  | [a0, a1, a2, a3], _ =>
  have f0 := hf 0 _ rfl
  rw [List.getElem?_eq_getElem (show 0 < xs.length by rw [hx]; decide)] at f0
  simp [k_bool] at f0
  obtain ⟨z0, e0, _⟩ := DataW.trod_bool Try.underlying4 f0
  obtain rfl := (List.cons.inj e0).1
  have f1 := hf 1 _ rfl
  rw [List.getElem?_eq_getElem (show 1 < xs.length by rw [hx]; decide)] at f1
  simp [k_int64] at f1
  obtain ⟨z1, e1, _, _⟩ := DataW.trod_int Try.underlying2 f1
  obtain rfl := (List.cons.inj e1).1
  have f2 := hf 2 _ rfl
  rw [List.getElem?_eq_getElem (show 2 < xs.length by rw [hx]; decide)] at f2
  simp [k_int] at f2
  obtain ⟨z2, e2, _, _⟩ := DataW.trod_int Try.underlying3 f2
  obtain rfl := (List.cons.inj e2).1
  have f3 := hf 3 _ rfl
  rw [List.getElem?_eq_getElem (show 3 < xs.length by rw [hx]; decide)] at f3
  simp [k_int64] at f3
  obtain ⟨z3, e3, _, _⟩ := DataW.trod_int Try.underlying2 f3
  obtain rfl := (List.cons.inj e3).1
  exact ⟨⟨z0, z1, z2, z3⟩, rfl⟩
theorem trod_state {fuel : Nat} {cs : List Value} {x : DataW H × List MemPlace} (h : DataW.trod enc Try.prog w base spare held fuel 43 cs = some x) : ∃ y : St, cs = stV y ∧ y.ch.name.size ≤ maxLen := by
  obtain ⟨xs, n, rfl, rfl, hl, hx, hf⟩ := DataW.trod_struct Try.underlying43 h
  rw [cells_state] at hl
  match cs, hl with
  | [a0, a1, a2, a3, a4, a5, a6, a7, a8, a9, a10, a11, a12, a13, a14, a15], _ =>
  have f0 := hf 0 _ rfl
  rw [List.getElem?_eq_getElem (show 0 < xs.length by rw [hx]; decide)] at f0
  simp [cells_chan] at f0
  have f1 := hf 1 _ rfl
  rw [List.getElem?_eq_getElem (show 1 < xs.length by rw [hx]; decide)] at f1
  simp [k_bool] at f1
  have f2 := hf 2 _ rfl
  rw [List.getElem?_eq_getElem (show 2 < xs.length by rw [hx]; decide)] at f2
  simp [k_int64] at f2
  have f3 := hf 3 _ rfl
  rw [List.getElem?_eq_getElem (show 3 < xs.length by rw [hx]; decide)] at f3
  simp [cells_ext] at f3
  have f4 := hf 4 _ rfl
  rw [List.getElem?_eq_getElem (show 4 < xs.length by rw [hx]; decide)] at f4
  simp [cells_ext] at f4
  obtain ⟨c, ec, hs⟩ := trod_chan f0
  obtain ⟨b, eb, _⟩ := DataW.trod_bool Try.underlying4 f1
  obtain ⟨i, ei, _, _⟩ := DataW.trod_int Try.underlying2 f2
  obtain ⟨m, em⟩ := trod_ext f3
  obtain ⟨g, eg⟩ := trod_ext f4
  refine ⟨⟨c, b, i, m, g⟩, ?_, hs⟩
  simp only [chV, List.cons.injEq, and_true] at ec eb ei em eg
  obtain ⟨rfl, rfl, rfl, rfl, rfl, rfl⟩ := ec
  obtain rfl := eb
  obtain rfl := ei
  obtain ⟨rfl, rfl, rfl, rfl⟩ := em
  obtain ⟨rfl, rfl, rfl, rfl⟩ := eg
  rfl
theorem open_states {v : Value} {d : DataW H} {p : List MemPlace}
    (hv : Value.okWide Try.prog w .any b0 22 v) (h : DataW.Trod enc Try.prog w base spare held 22 v d p) :
    ∃ (A : Option Addr) (n c : Nat) (rs : List St), v = .slice A n c ∧ n ≤ maxLen ∧ StsAt w w.heap.size A n rs ∧ ((d = .nil ∧ n = 0) ∨ ∃ el sp, d = .slice el sp ∧ el.length = n) := by
  obtain ⟨A, n, c, rfl⟩ := okWide_slice Try.underlying22 hv
  obtain ⟨fuel, hfu⟩ := h
  rcases open_slice Try.underlying22 hfu with ⟨h1, h2⟩ | ⟨a, len, cap, m, n', D, Pl, h1, hb, hl, hm, hmm, h2, hcell⟩
  · simp [Value.cells] at h1
    obtain ⟨rfl, rfl, rfl⟩ := h1
    simp at h2
    exact ⟨none, 0, 0, [], rfl, Nat.zero_le _, sts_nil _ _ _, .inl ⟨h2.1, rfl⟩⟩
  · simp [Value.cells] at h1
    obtain ⟨rfl, rfl, rfl⟩ := h1
    have hnm : n ≤ m := by rw [hmm]; split <;> omega
    have HX : ∀ i, i < n → ∃ x : St, CellsE stV w (a.add (i * 16)) x ∧ x.ch.name.size ≤ maxLen := fun i hi => by
      obtain ⟨cs', hc, ht'⟩ := hcell i (by omega)
      rw [cells_state] at hc
      obtain ⟨y, rfl, hs⟩ := trod_state ht'
      obtain ⟨_, hcl, hat⟩ := World.cells?_some hc
      refine ⟨y, fun t u hu => ?_, hs⟩
      have htl : t < 16 := by have := (List.getElem?_eq_some_iff.1 hu).1; rwa [stV_len] at this
      rw [hat t htl, hu]
    refine ⟨some a, n, c, (List.range n).map (fun i => if h : i < n then Classical.choose (HX i h) else St0), rfl, by omega, ⟨⟨by simp, fun hn => ⟨a, rfl, ?_, fun j x hx => ?_⟩⟩, ?_⟩, .inr ⟨_, _, (by simp at h2; exact h2.1), by simp⟩⟩
    · obtain ⟨x, hx, _⟩ := HX 0 hn
      have h3 := cell_lt (hx 0 _ rfl)
      rwa [block_of_add, block_of_add] at h3
    · obtain ⟨hj, hx⟩ := List.getElem?_eq_some_iff.1 hx
      simp at hj
      simp [hj] at hx
      rw [← hx]
      exact (Classical.choose_spec (HX j hj)).1
    · intro x hx
      obtain ⟨i, hi, rfl⟩ := List.mem_map.1 hx
      rw [List.mem_range] at hi
      rw [dif_pos hi]
      exact (Classical.choose_spec (HX i hi)).2
theorem small_states {ts : List TypeId} {ds : List (DataW H)} (h : (DataW.weightsEach Try.prog ts ds).all (· ≤ reachBytes) = true) {j n : Nat} {d : DataW H} (ht : ts[j]? = some 22) (hd : ds[j]? = some d)
    (hs : (d = .nil ∧ n = 0) ∨ ∃ el sp, d = .slice el sp ∧ el.length = n) : n * 136 ≤ 140737488351232 := by
  rcases hs with ⟨_, rfl⟩ | ⟨el, sp, rfl, rfl⟩
  · simp
  · have := sized_slice h ht hd Try.underlying22
    rw [show Try.prog.bytesOf 43 = 136 by kernel_rfl] at this
    have h2 := Nat.le_trans (Nat.mul_le_mul_right 136 (show el.length ≤ el.length + sp.length by omega)) this
    simp only [reachBytes] at h2
    omega
end
end Go.Proofs.Ytfihkkamedghkaa
