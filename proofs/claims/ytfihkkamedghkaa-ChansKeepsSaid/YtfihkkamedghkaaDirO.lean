/- Arguments that are a channel's record, or a list of them, opened: the cells, the records, the size. -/
import Derived.Test.YtfihkkamedghkaaDirF
import Derived.Test.YtfihkkamedghkaaLaw
set_option maxRecDepth 100000
namespace Go.Proofs.Ytfihkkamedghkaa
open Go.ChangeShapes Go.WideShapes Go.RowKit Go.Deep
section
variable {H : Type} {enc : TypeId × Value → H} {P : Program} {w : World} {base b0 : Nat} {spare : Nat → Bool} {held : Bool}
theorem open_agg_n {t : TypeId} {fs : Array Field} {v : Value} {d : DataW H} {p : List MemPlace} (hs : P.underlying t = some (.struct fs)) (hone : oneCellFields P fs = true) (hC : P.cellsOf t = fs.size)
    (hv : Value.okWide P w .any b0 t v) (h : DataW.Trod enc P w base spare held t v d p) :
    ∃ (cs : Array Value) (n : Nat), v = .agg cs ∧ cs.size = fs.size ∧ ∀ (j : Nat) (f : Field), fs[j]? = some f → ∃ (u : Value) (y : DataW H × List MemPlace), cs[j]? = some u ∧ DataW.trod enc P w base spare held n f.type [u] = some y := by
  obtain ⟨cs, rfl, hsz⟩ := okWide_struct hs hv
  obtain ⟨fuel, hf⟩ := h
  simp only [Value.cells] at hf
  obtain ⟨ys, n', hn', hy, hlen, hyl, hg⟩ := DataW.trod_struct hs hf
  refine ⟨cs, n', rfl, hsz.trans hC, fun j f hj => ?_⟩
  obtain ⟨ho, hk⟩ := hone_of hone j f hj
  have hjl : j < fs.size := (Array.getElem?_eq_some_iff.1 hj).1
  have hjc : j < cs.size := by rw [hsz, hC]; exact hjl
  have h1 := hg j f hj
  rw [ho, hk] at h1
  have hone' : (cs.toList.drop j).take 1 = [cs[j]] := by
    rw [List.drop_eq_getElem_cons (by simpa using hjc)]
    simp
  rw [hone'] at h1
  have hys : ys[j]? = some (ys[j]'(by omega)) := List.getElem?_eq_getElem (by omega)
  exact ⟨_, _, Array.getElem?_eq_getElem hjc, h1.trans hys⟩
end
theorem cells_chan : Try.prog.cellsOf 38 = 6 := by kernel_rfl
theorem open_chan {H : Type} {enc : TypeId × Value → H} {w : World} {base b0 : Nat} {spare : Nat → Bool} {held : Bool} {v : Value} {d : DataW H} {p : List MemPlace}
    (hv : Value.okWide Try.prog w .any b0 38 v) (h : DataW.Trod enc Try.prog w base spare held 38 v d p) :
    ∃ (s : ByteArray) (e m : Int) (al : Bool) (k c : Int), v = .agg #[.string s, .int .i64 e, .int .i64 m, .bool al, .int .i64 k, .int .i64 c] ∧ s.size ≤ maxLen := by
  obtain ⟨cs, n, rfl, hsz, hj⟩ := open_agg_n Try.underlying38 (by kernel_rfl) cells_chan hv h
  obtain ⟨cl⟩ := cs
  obtain ⟨v0, y0, c0, g0⟩ := hj 0 _ rfl
  obtain ⟨v1, y1, c1, g1⟩ := hj 1 _ rfl
  obtain ⟨v2, y2, c2, g2⟩ := hj 2 _ rfl
  obtain ⟨v3, y3, c3, g3⟩ := hj 3 _ rfl
  obtain ⟨v4, y4, c4, g4⟩ := hj 4 _ rfl
  obtain ⟨v5, y5, c5, g5⟩ := hj 5 _ rfl
  obtain ⟨s, e0, _, hs⟩ := DataW.trod_string Try.underlying9 g0
  obtain ⟨e, e1, _, _⟩ := DataW.trod_int Try.underlying2 g1
  obtain ⟨m, e2, _, _⟩ := DataW.trod_int Try.underlying3 g2
  obtain ⟨al, e3, _⟩ := DataW.trod_bool Try.underlying4 g3
  obtain ⟨k, e4, _, _⟩ := DataW.trod_int Try.underlying3 g4
  obtain ⟨c, e5, _, _⟩ := DataW.trod_int Try.underlying2 g5
  simp at e0 e1 e2 e3 e4 e5
  subst e0 e1 e2 e3 e4 e5
  refine ⟨s, e, m, al, k, c, ?_, hs⟩
  match cl, hsz with
  | [a0, a1, a2, a3, a4, a5], _ =>
    simp at c0 c1 c2 c3 c4 c5
    subst c0 c1 c2 c3 c4 c5
    rfl
theorem cells6_of {w : World} {a : Addr} {i : Nat} {s : ByteArray} {e m : Int} {al : Bool} {k c : Int} (h0 : w.cell? (a.add (i * 6)) = some (.string s)) (h1 : w.cell? (a.add (i * 6 + 1)) = some (.int .i64 e)) (h2 : w.cell? (a.add (i * 6 + 2)) = some (.int .i64 m)) (h3 : w.cell? (a.add (i * 6 + 3)) = some (.bool al)) (h4 : w.cell? (a.add (i * 6 + 4)) = some (.int .i64 k)) (h5 : w.cell? (a.add (i * 6 + 5)) = some (.int .i64 c)) : cells6 w (a.add (i * 6)) ⟨s, e, m, al, k, c⟩ := by
  refine ⟨h0, ?_, ?_, ?_, ?_, ?_⟩
  · rw [add_next] at h1; rw [block_of_add, add_off]; exact h1
  · rw [add_next a (i * 6 + 1)] at h2; rw [block_of_add, add_off]; exact h2
  · rw [add_next a (i * 6 + 2)] at h3; rw [block_of_add, add_off]; exact h3
  · rw [add_next a (i * 6 + 3)] at h4; rw [block_of_add, add_off]; exact h4
  · rw [add_next a (i * 6 + 4)] at h5; rw [block_of_add, add_off]; exact h5
theorem open_chans {H : Type} {enc : TypeId × Value → H} {w : World} {base b0 : Nat} {spare : Nat → Bool} {held : Bool} {v : Value} {d : DataW H} {p : List MemPlace}
    (hv : Value.okWide Try.prog w .any b0 46 v) (h : DataW.Trod enc Try.prog w base spare held 46 v d p) :
    ∃ (A : Option Addr) (n c : Nat) (rs : List Ch), v = .slice A n c ∧ n ≤ maxLen ∧ ChsAt w w.heap.size A n rs ∧ ((d = .nil ∧ n = 0) ∨ ∃ el sp, d = .slice el sp ∧ el.length = n) := by
  obtain ⟨A, n, c, rfl⟩ := okWide_slice Try.underlying46 hv
  obtain ⟨fuel, hfu⟩ := h
  rcases open_slice_fields Try.underlying46 Try.underlying38 (by kernel_rfl) cells_chan hfu with ⟨h1, h2⟩ | ⟨a, len, cap, m, D, Pl, h1, hb, hl, hm, hmm, h2, hcell⟩
  · simp [Value.cells] at h1
    obtain ⟨rfl, rfl, rfl⟩ := h1
    simp at h2
    exact ⟨none, 0, 0, [], rfl, Nat.zero_le _, ⟨rfl, by simp, fun h => absurd h (by omega)⟩, .inl ⟨h2.1, rfl⟩⟩
  · simp [Value.cells] at h1
    obtain ⟨rfl, rfl, rfl⟩ := h1
    have hnm : n ≤ m := by rw [hmm]; split <;> omega
    have HX : ∀ i, i < n → ∃ x : Ch, cells6 w (a.add (i * 6)) x ∧ x.name.size ≤ maxLen := fun i hi => by
      obtain ⟨ys, n', _, _, _, hj⟩ := hcell i (by omega)
      obtain ⟨v0, y0, hc0, _, g0⟩ := hj 0 _ rfl
      obtain ⟨v1, y1, hc1, _, g1⟩ := hj 1 _ rfl
      obtain ⟨v2, y2, hc2, _, g2⟩ := hj 2 _ rfl
      obtain ⟨v3, y3, hc3, _, g3⟩ := hj 3 _ rfl
      obtain ⟨v4, y4, hc4, _, g4⟩ := hj 4 _ rfl
      obtain ⟨v5, y5, hc5, _, g5⟩ := hj 5 _ rfl
      obtain ⟨s, e0, _, hs⟩ := DataW.trod_string Try.underlying9 g0
      obtain ⟨z1, e1, _, _⟩ := DataW.trod_int Try.underlying2 g1
      obtain ⟨z2, e2, _, _⟩ := DataW.trod_int Try.underlying3 g2
      obtain ⟨z3, e3, _⟩ := DataW.trod_bool Try.underlying4 g3
      obtain ⟨z4, e4, _, _⟩ := DataW.trod_int Try.underlying3 g4
      obtain ⟨z5, e5, _, _⟩ := DataW.trod_int Try.underlying2 g5
      simp at e0 e1 e2 e3 e4 e5
      subst e0 e1 e2 e3 e4 e5
      exact ⟨⟨s, z1, z2, z3, z4, z5⟩, cells6_of hc0 hc1 hc2 hc3 hc4 hc5, hs⟩
    refine ⟨some a, n, c, (List.range n).map (fun i => if h : i < n then Classical.choose (HX i h) else Ch0), rfl, by omega, ⟨by simp, ?_, fun hn => ⟨a, rfl, ?_, fun j x hx => ?_⟩⟩, .inr ⟨_, _, (by simp at h2; exact h2.1), by simp⟩⟩
    · intro x hx
      obtain ⟨i, hi, rfl⟩ := List.mem_map.1 hx
      rw [List.mem_range] at hi
      rw [dif_pos hi]
      exact (Classical.choose_spec (HX i hi)).2
    · obtain ⟨x, hx, _⟩ := HX 0 hn
      have h3 := cell_lt hx.1
      rwa [block_of_add] at h3
    · obtain ⟨hj, hx⟩ := List.getElem?_eq_some_iff.1 hx
      simp at hj
      simp [hj] at hx
      rw [← hx]
      exact (Classical.choose_spec (HX j hj)).1
theorem small_chans {H : Type} {ts : List TypeId} {ds : List (DataW H)} (h : (DataW.weightsEach Try.prog ts ds).all (· ≤ reachBytes) = true) {j n : Nat} {d : DataW H} (ht : ts[j]? = some 46) (hd : ds[j]? = some d)
    (hs : (d = .nil ∧ n = 0) ∨ ∃ el sp, d = .slice el sp ∧ el.length = n) : n * 56 ≤ 140737488351232 := by
  rcases hs with ⟨_, rfl⟩ | ⟨el, sp, rfl, rfl⟩
  · simp
  · have := sized_slice h ht hd Try.underlying46
    rw [show Try.prog.bytesOf 38 = 56 by kernel_rfl] at this
    have h2 := Nat.le_trans (Nat.mul_le_mul_right 56 (show el.length ≤ el.length + sp.length by omega)) this
    simp only [reachBytes] at h2
    omega
end Go.Proofs.Ytfihkkamedghkaa
