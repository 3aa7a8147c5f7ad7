/- An argument that is a list of extreme values, opened: its cells, its values, its size. -/
import Derived.Test.YtdiccafoajjbmaaExtO
import Derived.Test.YtdiccafoajjbmaaExtP
import Derived.Test.YtdiccafoajjbmaaReads
import Derived.ChangeSame
import Derived.Deep.Slices
import Derived.Deep.Fields
import Derived.SizedLaws
import Derived.Lib.SmallJoins
import Derived.OpenShut
namespace Go.Proofs.Ytdiccafoajjbmaa
open Go.ChangeShapes Go.WideShapes Go.RowKit Go.Deep
section
variable {H : Type} {enc : TypeId × Value → H} {P : Program} {w : World} {base : Nat} {spare : Nat → Bool} {held : Bool}
theorem open_slice_fields {t e : TypeId} {fs : Array Field} {fuel : Nat} {cs : List Value} {x : DataW H × List MemPlace} (ht : P.underlying t = some (.slice e)) (he : P.underlying e = some (.struct fs))
    (hone : oneCellFields P fs = true) (hC : P.cellsOf e = fs.size) (h : DataW.trod enc P w base spare held fuel t cs = some x) :
    (cs = [.slice none 0 0] ∧ x = (.nil, [])) ∨
    ∃ (a : Addr) (len cap m : Nat) (D : Nat → DataW H) (Pl : Nat → List MemPlace), cs = [.slice (some a) len cap] ∧ base ≤ a.block ∧ len ≤ cap ∧ cap ≤ maxLen ∧ m = (if spare a.block then cap else len) ∧
      x = (.slice ((List.range len).map D) ((List.range (m - len)).map fun j => D (len + j)), MemPlace.row a (m * fs.size) ++ (List.range m).flatMap Pl) ∧
      ∀ i, i < m → ∃ (ys : List (DataW H × List MemPlace)) (n : Nat), D i = .agg (ys.map (·.1)) ∧ Pl i = ys.flatMap (·.2) ∧ ys.length = fs.size ∧
        ∀ (j : Nat) (f : Field), fs[j]? = some f → ∃ (v : Value) (y : DataW H × List MemPlace), w.cell? (a.add (i * fs.size + j)) = some v ∧ ys[j]? = some y ∧ DataW.trod enc P w base spare held n f.type [v] = some y := by
  rcases open_slice ht h with h0 | ⟨a, len, cap, m, n, D, Pl, hcs, hb, hl, hm, hmm, hx, hi⟩
  · exact .inl h0
  · refine .inr ⟨a, len, cap, m, D, Pl, hcs, hb, hl, hm, hmm, by rw [hC] at hx; exact hx, fun i him => ?_⟩
    obtain ⟨cs', hc, ht'⟩ := hi i him
    rw [hC] at hc
    obtain ⟨ys, n', hn', hy, hlen, hyl, hf⟩ := DataW.trod_struct he ht'
    obtain ⟨_, hcl, hat⟩ := World.cells?_some hc
    simp only [Prod.mk.injEq] at hy
    refine ⟨ys, n', hy.1, hy.2, hyl, fun j f hj => ?_⟩
    obtain ⟨ho, hk⟩ := hone_of hone j f hj
    have hjl : j < fs.size := (Array.getElem?_eq_some_iff.1 hj).1
    have hcell := hat j hjl
    have hv : cs'[j]? = some (cs'[j]'(by omega)) := List.getElem?_eq_getElem (by omega)
    have h1 := hf j f hj
    rw [ho, hk] at h1
    have hone' : (cs'.drop j).take 1 = [cs'[j]'(by omega)] := by
      rw [List.drop_eq_getElem_cons (by omega)]
      rfl
    rw [hone'] at h1
    have hys : ys[j]? = some (ys[j]'(by omega)) := List.getElem?_eq_getElem (by omega)
    refine ⟨_, _, ?_, hys, h1.trans hys⟩
    rw [← Go.Deep.add_add, hcell, hv]
end
theorem add_next (a : Addr) (i : Nat) : a.add (i + 1) = ⟨a.block, a.off + (i + 1), none⟩ := by simp [Addr.add]
theorem add_off (a : Addr) (i : Nat) : (a.add i).off = a.off + i := by unfold Addr.add; split <;> simp_all
def cells4 (w : World) (p : Addr) (x : E) : Prop := w.cell? p = some (.bool x.has) ∧ w.cell? ⟨p.block, p.off + 1, none⟩ = some (.int .i64 x.val) ∧ w.cell? ⟨p.block, p.off + 2, none⟩ = some (.int .i64 x.org) ∧ w.cell? ⟨p.block, p.off + 3, none⟩ = some (.int .i64 x.age)
theorem cells4.below {w w' : World} {B : Nat} {p : Addr} {x : E} (h : cells4 w p x) (hp : p.block < B) (hb : Below B w w') : cells4 w' p x :=
  ⟨(hb.cell hp).trans h.1, (hb.cell (p := ⟨p.block, p.off + 1, none⟩) hp).trans h.2.1, (hb.cell (p := ⟨p.block, p.off + 2, none⟩) hp).trans h.2.2.1, (hb.cell (p := ⟨p.block, p.off + 3, none⟩) hp).trans h.2.2.2⟩
/-- The cells of a slice of extreme values. -/
def ExtsAt (w : World) (B : Nat) (A : Option Addr) (n : Nat) (rs : List E) : Prop :=
  rs.length = n ∧ (0 < n → ∃ ad, A = some ad ∧ ad.block < B ∧ ∀ j x, rs[j]? = some x → cells4 w (ad.add (j * 4)) x)
theorem cells4_of {w : World} {a : Addr} {i : Nat} {h : Bool} {v u f : Int} (h0 : w.cell? (a.add (i * 4)) = some (.bool h)) (h1 : w.cell? (a.add (i * 4 + 1)) = some (.int .i64 v)) (h2 : w.cell? (a.add (i * 4 + 2)) = some (.int .i64 u)) (h3 : w.cell? (a.add (i * 4 + 3)) = some (.int .i64 f)) : cells4 w (a.add (i * 4)) ⟨h, v, u, f⟩ := by
  refine ⟨h0, ?_, ?_, ?_⟩
  · rw [add_next] at h1; rw [block_of_add, add_off]; exact h1
  · rw [add_next a (i * 4 + 1)] at h2; rw [block_of_add, add_off]; exact h2
  · rw [add_next a (i * 4 + 2)] at h3; rw [block_of_add, add_off]; exact h3
theorem open_exts {H : Type} {enc : TypeId × Value → H} {P : Program} {w : World} {base b0 : Nat} {spare : Nat → Bool} {held : Bool} {t e t0 t1 t2 t3 : TypeId} {fs : Array Field} {v : Value} {d : DataW H} {p : List MemPlace}
    (ht : P.underlying t = some (.slice e)) (he : P.underlying e = some (.struct fs)) (hone : oneCellFields P fs = true) (hC : P.cellsOf e = fs.size) (hs4 : fs.size = 4) (hf : fs.toList.map Field.type = [t0, t1, t2, t3])
    (u0 : P.underlying t0 = some .bool) (u1 : P.underlying t1 = some (.int .i64)) (u2 : P.underlying t2 = some (.int .i64)) (u3 : P.underlying t3 = some (.int .i64))
    (hv : Value.okWide P w .any b0 t v) (h : DataW.Trod enc P w base spare held t v d p) :
    ∃ (A : Option Addr) (n c : Nat) (rs : List E), v = .slice A n c ∧ n ≤ maxLen ∧ ExtsAt w w.heap.size A n rs ∧ ((d = .nil ∧ n = 0) ∨ ∃ el sp, d = .slice el sp ∧ el.length = n) := by
  obtain ⟨A, n, c, rfl⟩ := okWide_slice ht hv
  obtain ⟨fuel, hfu⟩ := h
  rcases open_slice_fields ht he hone hC hfu with ⟨h1, h2⟩ | ⟨a, len, cap, m, D, Pl, h1, hb, hl, hm, hmm, h2, hcell⟩
  · simp [Value.cells] at h1
    obtain ⟨rfl, rfl, rfl⟩ := h1
    simp at h2
    exact ⟨none, 0, 0, [], rfl, Nat.zero_le _, ⟨rfl, fun h => absurd h (by omega)⟩, .inl ⟨h2.1, rfl⟩⟩
  · simp [Value.cells] at h1
    obtain ⟨rfl, rfl, rfl⟩ := h1
    have hnm : n ≤ m := by rw [hmm]; split <;> omega
    obtain ⟨fl⟩ := fs
    match fl, hs4, hf with
    | [f0, f1, f2, f3], _, hf =>
      simp at hf
      obtain ⟨rfl, rfl, rfl, rfl⟩ := hf
      have HX : ∀ i, i < n → ∃ x : E, cells4 w (a.add (i * 4)) x := fun i hi => by
        obtain ⟨ys, n', _, _, _, hj⟩ := hcell i (by omega)
        obtain ⟨v0, y0, hc0, _, g0⟩ := hj 0 f0 rfl
        obtain ⟨v1, y1, hc1, _, g1⟩ := hj 1 f1 rfl
        obtain ⟨v2, y2, hc2, _, g2⟩ := hj 2 f2 rfl
        obtain ⟨v3, y3, hc3, _, g3⟩ := hj 3 f3 rfl
        obtain ⟨z0, e0, _⟩ := DataW.trod_bool u0 g0
        obtain ⟨z1, e1, _, _⟩ := DataW.trod_int u1 g1
        obtain ⟨z2, e2, _, _⟩ := DataW.trod_int u2 g2
        obtain ⟨z3, e3, _, _⟩ := DataW.trod_int u3 g3
        simp at e0 e1 e2 e3
        subst e0 e1 e2 e3
        exact ⟨⟨z0, z1, z2, z3⟩, cells4_of hc0 hc1 hc2 hc3⟩
      refine ⟨some a, n, c, (List.range n).map (fun i => if h : i < n then Classical.choose (HX i h) else ⟨false, 0, 0, 0⟩), rfl, by omega, ⟨by simp, fun hn => ⟨a, rfl, ?_, fun j x hx => ?_⟩⟩, .inr ⟨_, _, (by simp at h2; exact h2.1), by simp⟩⟩
      · obtain ⟨x, hx⟩ := HX 0 hn
        have h3 := cell_lt hx.1
        rwa [block_of_add] at h3
      · obtain ⟨hj, hx⟩ := List.getElem?_eq_some_iff.1 hx
        simp at hj
        simp [hj] at hx
        rw [← hx]
        exact Classical.choose_spec (HX j hj)
theorem small_exts {H : Type} {P : Program} {ts : List TypeId} {ds : List (DataW H)} (h : (DataW.weightsEach P ts ds).all (· ≤ reachBytes) = true) {j n : Nat} {t e : TypeId} {d : DataW H} (ht : ts[j]? = some t) (hd : ds[j]? = some d) (hu : P.underlying t = some (.slice e)) (hb : P.bytesOf e = 32)
    (hs : (d = .nil ∧ n = 0) ∨ ∃ el sp, d = .slice el sp ∧ el.length = n) : n * 32 ≤ reachBytes := by
  rcases hs with ⟨_, rfl⟩ | ⟨el, sp, rfl, rfl⟩
  · simp
  · have := sized_slice h ht hd hu
    rw [hb] at this
    refine Nat.le_trans ?_ this
    exact Nat.mul_le_mul_right 32 (by omega)
end Go.Proofs.Ytdiccafoajjbmaa
