/- Chapter 22, parts on the way: Law DirO ExtO StO BgO Opw QuietJ -/
import Derived.Test.YtkfodkbgmpbmfaaGreatRows
import Derived.WalkKit
import Derived.ProofKit
import Derived.OpenShut
import Derived.SizedLaws
import Derived.Lib.SmallJoins
import Derived.Deep.Slices
import Derived.ChangeSlices
import Derived.Test.YtkfodkbgmpbmfaaGreatB01
import Derived.Test.YtkfodkbgmpbmfaaGreatB02
import Derived.Test.YtkfodkbgmpbmfaaGreatB03
import Derived.Test.YtkfodkbgmpbmfaaGreatB07
import Derived.Test.YtkfodkbgmpbmfaaGreatB09
import Derived.Test.YtkfodkbgmpbmfaaGreatB33
set_option linter.unusedVariables false
set_option linter.unusedSimpArgs false
namespace Go.Proofs.YtkfodkbgmpbmfaaGreat
open Go.ChangeShapes Go.WideShapes Go.RowKit

theorem own : ownKnob Tryz.prog.godebug = none := by kernel_rfl
theorem laidOut : laidOutB Tryz.prog = true := by kernel_rfl

def paramsOk (P : Program) (ts : List TypeId) : Bool := ts.all fun t => P.readableRec t && decide (t < P.types.size)

theorem trodAll_below {H : Type} {enc : TypeId × Value → H} {P : Program} (hl : laidOutB P = true) {W W' : World} (hb : Below W.heap.size W W') : ∀ {ts : List TypeId} {vs : List Value} {ds : List (DataW H)} {ps : List MemPlace},
    paramsOk P ts = true → DataW.TrodAll enc P W 0 (fun _ => true) true ts vs ds ps → (∀ x ∈ ps, x.block < W.heap.size) →
    DataW.TrodAll enc P W' 0 (fun b => decide (b < W.heap.size)) true ts vs ds ps
 | [], vs, ds, ps, _, h, _ => by
  obtain ⟨rfl, rfl, rfl⟩ := trodAll_nil h
  exact trodAll_mk0
 | t :: ts, vs, ds, ps, hp, h, hlt => by
  obtain ⟨v, vs', d, ds', p, q, rfl, rfl, rfl, h1, h2⟩ := trodAll_cons h
  simp only [paramsOk, List.all_cons, Bool.and_eq_true, decide_eq_true_eq] at hp
  exact trodAll_cons_mk (Below.trod hl hp.1.1 hp.1.2 h1 hb (fun x hx => hlt x (List.mem_append.2 (.inl hx))))
   (trodAll_below hl hb (by simpa [paramsOk] using hp.2) h2 (fun x hx => hlt x (List.mem_append.2 (.inr hx))))

theorem law_post {H : Type} {enc : TypeId × Value → H} {P : Program} {f : Func} {s : ChangeSpec} {tb : TypeId} {W W' : World} {args : Array Value} {ds gs : List (DataW H)} {before : List MemPlace} {apart : Bool}
    (hl : laidOutB P = true) (hv : s.vars = []) (hp : paramsOk P f.params.toList = true) (hr : f.resultTypes = #[tb]) (ht : P.underlying tb = some .bool)
    (hs : s.fn H ds = { results := [.lit (.bool true)], args := ds })
    (hW : DataW.Whole enc P f.params.toList s.vars apart W args.toList ds gs before) (hb : Below W.heap.size W W') :
    s.post enc P f apart true false false W args (.bool true) W' := by
 have hlt := hW.lt
 have hW' := hW
 obtain ⟨p, q, hA, hV, rfl, hfz, hnd⟩ := hW
 rw [hv] at hV
 obtain ⟨rfl, rfl⟩ := trodVars_none hV
 refine ⟨ds, [], p ++ [], [], p, [], hW', ?_, ?_, ?_, World.keptBut_mono (fun x hx => ?_) (hb.frame (fun x => x ∈ p)), fun h => by cases h⟩
 · rw [List.append_nil, hs, hr]
   exact trodAll_mk1 (shut_bool ht _)
 · rw [List.append_nil, hs]
   exact trodAll_below hl hb hp hA (fun x hx => hlt x (by simpa using hx))
 · rw [List.append_nil, hs, hv]
   rfl
 · exact ⟨by simpa using hx, .inr (.inl hx)⟩
end Go.Proofs.YtkfodkbgmpbmfaaGreat
set_option maxRecDepth 100000
namespace Go.Proofs.YtkfodkbgmpbmfaaGreat
open Go.ChangeShapes Go.WideShapes Go.RowKit Go.Deep
section
variable {H : Type} {enc : TypeId × Value → H} {P : Program} {w : World} {base b0 : Nat} {spare : Nat → Bool} {held : Bool}
end
theorem cells_chan : Tryz.prog.cellsOf 34 = 6 := by kernel_rfl
end Go.Proofs.YtkfodkbgmpbmfaaGreat
set_option maxRecDepth 100000
namespace Go.Proofs.YtkfodkbgmpbmfaaGreat
open Go.ChangeShapes Go.WideShapes Go.RowKit Go.Joins

theorem cells_ext : Tryz.prog.cellsOf 94 = 4 := by kernel_rfl
end Go.Proofs.YtkfodkbgmpbmfaaGreat
set_option maxRecDepth 100000
namespace Go.Proofs.YtkfodkbgmpbmfaaGreat
open Go.ChangeShapes Go.WideShapes Go.RowKit Go.Deep
set_option linter.unusedVariables false
section
variable {H : Type} {enc : TypeId × Value → H} {w : World} {base b0 : Nat} {spare : Nat → Bool} {held : Bool}
theorem k_string : Tryz.prog.cellsOf 9 = 1 := by kernel_rfl
theorem k_int64 : Tryz.prog.cellsOf 2 = 1 := by kernel_rfl
theorem k_int : Tryz.prog.cellsOf 3 = 1 := by kernel_rfl
theorem k_bool : Tryz.prog.cellsOf 4 = 1 := by kernel_rfl
theorem cells_state : Tryz.prog.cellsOf 96 = 16 := by kernel_rfl
theorem trod_chan {fuel : Nat} {cs : List Value} {x : DataW H × List MemPlace} (h : DataW.trod enc Tryz.prog w base spare held fuel 34 cs = some x) : ∃ c : Ch, cs = chV c ∧ c.name.size ≤ maxLen := by
 obtain ⟨xs, n, rfl, rfl, hl, hx, hf⟩ := DataW.trod_struct Tryz.underlying34 h
 rw [cells_chan] at hl
 match cs, hl with
 | [a0, a1, a2, a3, a4, a5], _ =>
 have f0 := hf 0 _ rfl
 rw [List.getElem?_eq_getElem (show 0 < xs.length by rw [hx]; decide)] at f0
 simp [k_string] at f0
 obtain ⟨z0, e0, _, hs⟩ := DataW.trod_string Tryz.underlying9 f0
 obtain rfl := (List.cons.inj e0).1
 have f1 := hf 1 _ rfl
 rw [List.getElem?_eq_getElem (show 1 < xs.length by rw [hx]; decide)] at f1
 simp [k_int64] at f1
 obtain ⟨z1, e1, _, _⟩ := DataW.trod_int Tryz.underlying2 f1
 obtain rfl := (List.cons.inj e1).1
 have f2 := hf 2 _ rfl
 rw [List.getElem?_eq_getElem (show 2 < xs.length by rw [hx]; decide)] at f2
 simp [k_int] at f2
 obtain ⟨z2, e2, _, _⟩ := DataW.trod_int Tryz.underlying3 f2
 obtain rfl := (List.cons.inj e2).1
 have f3 := hf 3 _ rfl
 rw [List.getElem?_eq_getElem (show 3 < xs.length by rw [hx]; decide)] at f3
 simp [k_bool] at f3
 obtain ⟨z3, e3, _⟩ := DataW.trod_bool Tryz.underlying4 f3
 obtain rfl := (List.cons.inj e3).1
 have f4 := hf 4 _ rfl
 rw [List.getElem?_eq_getElem (show 4 < xs.length by rw [hx]; decide)] at f4
 simp [k_int] at f4
 obtain ⟨z4, e4, _, _⟩ := DataW.trod_int Tryz.underlying3 f4
 obtain rfl := (List.cons.inj e4).1
 have f5 := hf 5 _ rfl
 rw [List.getElem?_eq_getElem (show 5 < xs.length by rw [hx]; decide)] at f5
 simp [k_int64] at f5
 obtain ⟨z5, e5, _, _⟩ := DataW.trod_int Tryz.underlying2 f5
 obtain rfl := (List.cons.inj e5).1
 exact ⟨⟨z0, z1, z2, z3, z4, z5⟩, rfl, hs⟩
theorem trod_ext {fuel : Nat} {cs : List Value} {x : DataW H × List MemPlace} (h : DataW.trod enc Tryz.prog w base spare held fuel 94 cs = some x) : ∃ e : E, cs = [.bool e.has, .int .i64 e.val, .int .i64 e.org, .int .i64 e.age] := by
 obtain ⟨xs, n, rfl, rfl, hl, hx, hf⟩ := DataW.trod_struct Tryz.underlying94 h
 rw [cells_ext] at hl
 match cs, hl with
 | [a0, a1, a2, a3], _ =>
 have f0 := hf 0 _ rfl
 rw [List.getElem?_eq_getElem (show 0 < xs.length by rw [hx]; decide)] at f0
 simp [k_bool] at f0
 obtain ⟨z0, e0, _⟩ := DataW.trod_bool Tryz.underlying4 f0
 obtain rfl := (List.cons.inj e0).1
 have f1 := hf 1 _ rfl
 rw [List.getElem?_eq_getElem (show 1 < xs.length by rw [hx]; decide)] at f1
 simp [k_int64] at f1
 obtain ⟨z1, e1, _, _⟩ := DataW.trod_int Tryz.underlying2 f1
 obtain rfl := (List.cons.inj e1).1
 have f2 := hf 2 _ rfl
 rw [List.getElem?_eq_getElem (show 2 < xs.length by rw [hx]; decide)] at f2
 simp [k_int] at f2
 obtain ⟨z2, e2, _, _⟩ := DataW.trod_int Tryz.underlying3 f2
 obtain rfl := (List.cons.inj e2).1
 have f3 := hf 3 _ rfl
 rw [List.getElem?_eq_getElem (show 3 < xs.length by rw [hx]; decide)] at f3
 simp [k_int64] at f3
 obtain ⟨z3, e3, _, _⟩ := DataW.trod_int Tryz.underlying2 f3
 obtain rfl := (List.cons.inj e3).1
 exact ⟨⟨z0, z1, z2, z3⟩, rfl⟩
theorem trod_state {fuel : Nat} {cs : List Value} {x : DataW H × List MemPlace} (h : DataW.trod enc Tryz.prog w base spare held fuel 96 cs = some x) : ∃ y : St, cs = stV y ∧ y.ch.name.size ≤ maxLen := by
 obtain ⟨xs, n, rfl, rfl, hl, hx, hf⟩ := DataW.trod_struct Tryz.underlying96 h
 rw [cells_state] at hl
 match cs, hl with
 | [a0, a1, a2, a3, a4, a5, a6, a7, a8, a9, a10, a11, a12, a13, a14, a15], _ =>
 have f0 := hf 0 _ rfl
 rw [List.getElem?_eq_getElem (show 0 < xs.length by rw [hx]; decide)] at f0
 simp [cells_chan] at f0
 have f1 := hf 1 _ rfl
 rw [List.getElem?_eq_getElem (show 1 < xs.length by rw [hx]; decide)] at f1
 simp [k_bool] at f1
 have f2 := hf 2 _ rfl
 rw [List.getElem?_eq_getElem (show 2 < xs.length by rw [hx]; decide)] at f2
 simp [k_int64] at f2
 have f3 := hf 3 _ rfl
 rw [List.getElem?_eq_getElem (show 3 < xs.length by rw [hx]; decide)] at f3
 simp [cells_ext] at f3
 have f4 := hf 4 _ rfl
 rw [List.getElem?_eq_getElem (show 4 < xs.length by rw [hx]; decide)] at f4
 simp [cells_ext] at f4
 obtain ⟨c, ec, hs⟩ := trod_chan f0
 obtain ⟨b, eb, _⟩ := DataW.trod_bool Tryz.underlying4 f1
 obtain ⟨i, ei, _, _⟩ := DataW.trod_int Tryz.underlying2 f2
 obtain ⟨m, em⟩ := trod_ext f3
 obtain ⟨g, eg⟩ := trod_ext f4
 refine ⟨⟨c, b, i, m, g⟩, ?_, hs⟩
 simp only [chV, List.cons.injEq, and_true] at ec eb ei em eg
 obtain ⟨rfl, rfl, rfl, rfl, rfl, rfl⟩ := ec
 obtain rfl := eb
 obtain rfl := ei
 obtain ⟨rfl, rfl, rfl, rfl⟩ := em
 obtain ⟨rfl, rfl, rfl, rfl⟩ := eg
 rfl
end
end Go.Proofs.YtkfodkbgmpbmfaaGreat
set_option maxRecDepth 100000
namespace Go.Proofs.YtkfodkbgmpbmfaaGreat.Bg
open Go.ChangeShapes Go.WideShapes Go.RowKit Go.Deep Go.Joins
set_option linter.unusedVariables false
set_option linter.unusedSimpArgs false
theorem ok_int : Tryz.prog.cellsOf 3 = 1 := by kernel_rfl
theorem cells_dg : Tryz.prog.cellsOf 81 = 4 := by kernel_rfl
theorem cells_lk : Tryz.prog.cellsOf 62 = 2 := by kernel_rfl
section
variable {H : Type} {enc : TypeId × Value → H} {w : World} {base b0 : Nat} {spare : Nat → Bool} {held : Bool}
theorem i64B_wf {x : Int} (h : (Lit.int .i64 x).wf = true) : i64B x := by have := bounds_i64 h; unfold i64B; omega
theorem trod_lk {fuel : Nat} {cs : List Value} {x : DataW H × List MemPlace} (h : DataW.trod enc Tryz.prog w base spare held fuel 62 cs = some x) : ∃ y : LK, cs = encL y ∧ (i64B y.1 ∧ i64B y.2) := by
 obtain ⟨xs, n, rfl, rfl, hl, hx, hf⟩ := DataW.trod_struct Tryz.underlying62 h
 rw [cells_lk] at hl
 match cs, hl with
 | [a2, a3], _ =>
 have f2 := hf 0 _ rfl
 rw [List.getElem?_eq_getElem (show 0 < xs.length by rw [hx]; decide)] at f2
 simp [ok_int] at f2
 obtain ⟨z2, e2, _, w2⟩ := DataW.trod_int Tryz.underlying3 f2
 obtain rfl := (List.cons.inj e2).1
 have f3 := hf 1 _ rfl
 rw [List.getElem?_eq_getElem (show 1 < xs.length by rw [hx]; decide)] at f3
 simp [ok_int] at f3
 obtain ⟨z3, e3, _, w3⟩ := DataW.trod_int Tryz.underlying3 f3
 obtain rfl := (List.cons.inj e3).1
 exact ⟨(z2, z3), rfl, i64B_wf w2, i64B_wf w3⟩
end
end Go.Proofs.YtkfodkbgmpbmfaaGreat.Bg
set_option maxRecDepth 100000
namespace Go.Proofs.YtkfodkbgmpbmfaaGreat
open Go.Proofs.YtkfodkbgmpbmfaaGreat.Bg
open Go.ChangeShapes Go.WideShapes Go.RowKit Go.Deep Go.Joins
set_option linter.unusedVariables false
set_option linter.unusedSimpArgs false
section
variable {H : Type} {enc : TypeId × Value → H} {w : World} {base b0 : Nat} {spare : Nat → Bool} {held : Bool}
theorem trod_rowsD {α : Type} {enc2 : α → List Value} {k : Nat} (hk : ∀ x, (enc2 x).length = k) (h0 : 0 < k) (d0 : α) {Q : α → DataW H → Prop} {t e : TypeId} {v : Value} {fuel : Nat} {x : DataW H × List MemPlace}
    (ht : Tryz.prog.underlying t = some (.slice e)) (hc : Tryz.prog.cellsOf e = k)
    (hel : ∀ (fuel : Nat) (cs : List Value) (x : DataW H × List MemPlace), DataW.trod enc Tryz.prog w base spare held fuel e cs = some x → ∃ y, cs = enc2 y ∧ Q y x.1)
    (h : DataW.trod enc Tryz.prog w base spare held fuel t [v] = some x) :
    ∃ (A : Option Addr) (n c : Nat) (rs : List α), v = .slice A n c ∧ n ≤ c ∧ RowsE enc2 k w w.heap.size A n rs ∧ ((x.1 = .nil ∧ n = 0 ∧ rs = []) ∨ ∃ el sp, x.1 = .slice el sp ∧ el.length = n ∧ ∀ y ∈ rs, ∃ d ∈ el, Q y d) := by
 rcases open_slice ht h with ⟨h1, h2⟩ | ⟨a, n, c, m, n', D, Pl, h1, hb, hl, hm, hmm, h2, hcell⟩
 · obtain rfl := (List.cons.inj h1).1
   exact ⟨none, 0, 0, [], rfl, Nat.le_refl _, rowsE_nil _ _ _, .inl ⟨by rw [h2], rfl, rfl⟩⟩
 · obtain rfl := (List.cons.inj h1).1
   have hnm : n ≤ m := by rw [hmm]; split <;> omega
   have HX : ∀ i, i < n → ∃ x : α, CellsE enc2 w (a.add (i * k)) x ∧ Q x (D i) := fun i hi => by
    obtain ⟨cs', hc', ht'⟩ := hcell i (by omega)
    rw [hc] at hc'
    obtain ⟨y, rfl, hs⟩ := hel _ _ _ ht'
    obtain ⟨_, hcl, hat⟩ := World.cells?_some hc'
    refine ⟨y, fun t u hu => ?_, hs⟩
    have htl : t < k := by have := (List.getElem?_eq_some_iff.1 hu).1; rwa [hk] at this
    rw [hat t htl, hu]
   refine ⟨some a, n, c, (List.range n).map (fun i => if h : i < n then Classical.choose (HX i h) else d0), rfl, hl, ⟨by simp, fun hn => ⟨a, rfl, ?_, fun j x hx => ?_⟩⟩, .inr ⟨_, _, (by rw [h2]), by simp, ?_⟩⟩
   · obtain ⟨x, hx, _⟩ := HX 0 hn
     have hlx : 0 < (enc2 x).length := by rw [hk]; exact h0
     have h3 := cell_lt (hx 0 _ (List.getElem?_eq_getElem hlx))
     rwa [block_of_add, block_of_add] at h3
   · obtain ⟨hj, hx⟩ := List.getElem?_eq_some_iff.1 hx
     simp at hj
     simp [hj] at hx
     rw [← hx]
     exact (Classical.choose_spec (HX j hj)).1
   · intro x hx
     obtain ⟨i, hi, rfl⟩ := List.mem_map.1 hx
     rw [List.mem_range] at hi
     rw [dif_pos hi]
     exact ⟨D i, List.mem_map.2 ⟨i, List.mem_range.2 hi, rfl⟩, (Classical.choose_spec (HX i hi)).2⟩
def SzOk (t : TypeId) (d : DataW H) : Prop := ∀ z ∈ DataW.weights Tryz.prog t d, z ≤ reachBytes
theorem weightsAll_mem {e : TypeId} {d : DataW H} : ∀ {l : List (DataW H)}, d ∈ l → ∀ z ∈ DataW.weights Tryz.prog e d, z ∈ DataW.weightsAll Tryz.prog e l
 | d0 :: l, h, z, hz => by
  simp only [DataW.weightsAll, List.mem_append]
  rcases List.mem_cons.1 h with rfl | h
  · exact .inl hz
  · exact .inr (weightsAll_mem h z hz)
theorem SzOk.sl {t e : TypeId} {el sp : List (DataW H)} (ht : Tryz.prog.underlying t = some (.slice e)) (h : SzOk t (.slice el sp)) : (el.length + sp.length) * Tryz.prog.bytesOf e ≤ reachBytes ∧ ∀ d ∈ el, SzOk e d := by
 unfold SzOk at h
 simp only [DataW.weights, ht] at h
 exact ⟨h _ List.mem_cons_self, fun d hd z hz => h z (List.mem_cons_of_mem _ (List.mem_append_left _ (weightsAll_mem hd z hz)))⟩
theorem SzOk.ag {t u : TypeId} {fs : Array Field} {ps : List (DataW H)} {d : DataW H} {i : Nat} (ht : Tryz.prog.underlying t = some (.struct fs)) (h : SzOk t (.agg ps)) (hf : (fs.toList.map (·.type))[i]? = some u) (hp : ps[i]? = some d) : SzOk u d := by
 unfold SzOk at h
 simp only [DataW.weights, ht] at h
 exact fun z hz => h z (DataW.weights_mem_each hf hp z hz)
theorem SzOk.len {t e : TypeId} {d : DataW H} {n b : Nat} {α : Type} {rs : List α} {Q : α → DataW H → Prop} (ht : Tryz.prog.underlying t = some (.slice e)) (hb : Tryz.prog.bytesOf e = b) (h : SzOk t d) (hx : (d = .nil ∧ n = 0 ∧ rs = []) ∨ ∃ el sp, d = .slice el sp ∧ el.length = n ∧ ∀ y ∈ rs, ∃ d ∈ el, Q y d) : n * b ≤ 140737488351232 ∧ ∀ y ∈ rs, ∃ d', SzOk e d' ∧ Q y d' := by
 rcases hx with ⟨rfl, rfl, rfl⟩ | ⟨el, sp, rfl, rfl, hq⟩
 · exact ⟨by simp, fun y hy => by cases hy⟩
 · obtain ⟨h1, h2⟩ := h.sl ht
   rw [hb] at h1
   have h3 := Nat.le_trans (Nat.mul_le_mul_right b (show el.length ≤ el.length + sp.length by omega)) h1
   refine ⟨by simp only [reachBytes] at h3; omega, fun y hy => ?_⟩
   obtain ⟨d, hd, hq⟩ := hq y hy
   exact ⟨d, h2 d hd, hq⟩
theorem wcells_Line : Tryz.prog.cellsOf 92 = 4 := by kernel_rfl
theorem wcells_Half : Tryz.prog.cellsOf 59 = 6 := by kernel_rfl
theorem wcells_Seen : Tryz.prog.cellsOf 90 = 4 := by kernel_rfl
theorem wcells_Node : Tryz.prog.cellsOf 56 = 8 := by kernel_rfl
theorem wcells_Reg : Tryz.prog.cellsOf 88 = 3 := by kernel_rfl
theorem wcells_World : Tryz.prog.cellsOf 30 = 7 := by kernel_rfl
theorem wcells_Mail : Tryz.prog.cellsOf 28 = 3 := by kernel_rfl
theorem wcells_ints : Tryz.prog.cellsOf 42 = 1 := by kernel_rfl
theorem wcells_seens : Tryz.prog.cellsOf 52 = 1 := by kernel_rfl
theorem wcells_halves : Tryz.prog.cellsOf 53 = 1 := by kernel_rfl
theorem wcells_states : Tryz.prog.cellsOf 54 = 1 := by kernel_rfl
theorem wcells_lines : Tryz.prog.cellsOf 57 = 1 := by kernel_rfl
theorem wcells_nodes : Tryz.prog.cellsOf 22 = 1 := by kernel_rfl
theorem wcells_bools : Tryz.prog.cellsOf 23 = 1 := by kernel_rfl
theorem wcells_disks : Tryz.prog.cellsOf 24 = 1 := by kernel_rfl
theorem wcells_dgs : Tryz.prog.cellsOf 25 = 1 := by kernel_rfl
theorem wcells_lks : Tryz.prog.cellsOf 26 = 1 := by kernel_rfl
theorem wcells_disk : Tryz.prog.cellsOf 77 = 1 := by kernel_rfl
theorem wtrod_int {fuel : Nat} {cs : List Value} {x : DataW H × List MemPlace} (h : DataW.trod enc Tryz.prog w base spare held fuel 3 cs = some x) : ∃ y : Int, cs = encI y := by
 obtain ⟨z, e, _, _⟩ := DataW.trod_int Tryz.underlying3 h
 exact ⟨z, e⟩
theorem wtrod_bool {fuel : Nat} {cs : List Value} {x : DataW H × List MemPlace} (h : DataW.trod enc Tryz.prog w base spare held fuel 4 cs = some x) : ∃ y : Bool, cs = encB y := by
 obtain ⟨z, e, _⟩ := DataW.trod_bool Tryz.underlying4 h
 exact ⟨z, e⟩
theorem wtrod_disk {fuel : Nat} {cs : List Value} {x : DataW H × List MemPlace} (h : DataW.trod enc Tryz.prog w base spare held fuel 77 cs = some x) : ∃ y : Sl, cs = encSl y := by
 rcases open_slice Tryz.underlying77 h with ⟨h1, h2⟩ | ⟨a, n, c, m, n', D, Pl, h1, _⟩
 · exact ⟨⟨none, 0, 0⟩, h1⟩
 · exact ⟨⟨some a, n, c⟩, h1⟩
theorem trod_reg {fuel : Nat} {cs : List Value} {x : DataW H × List MemPlace} (h : DataW.trod enc Tryz.prog w base spare held fuel 88 cs = some x) : ∃ a b c : Int, cs = [.int .i64 a, .int .i64 b, .int .i64 c] := by
 obtain ⟨xs, n, rfl, rfl, hl, hx, hf⟩ := DataW.trod_struct Tryz.underlying88 h
 rw [wcells_Reg] at hl
 match cs, hl with
 | [a0, a1, a2], _ =>
 have f0 := hf 0 _ rfl
 rw [List.getElem?_eq_getElem (show 0 < xs.length by rw [hx]; decide)] at f0
 simp [k_int64] at f0
 obtain ⟨z0, e0, _, _⟩ := DataW.trod_int Tryz.underlying2 f0
 obtain rfl := (List.cons.inj e0).1
 have f1 := hf 1 _ rfl
 rw [List.getElem?_eq_getElem (show 1 < xs.length by rw [hx]; decide)] at f1
 simp [k_int] at f1
 obtain ⟨z1, e1, _, _⟩ := DataW.trod_int Tryz.underlying3 f1
 obtain rfl := (List.cons.inj e1).1
 have f2 := hf 2 _ rfl
 rw [List.getElem?_eq_getElem (show 2 < xs.length by rw [hx]; decide)] at f2
 simp [k_int64] at f2
 obtain ⟨z2, e2, _, _⟩ := DataW.trod_int Tryz.underlying2 f2
 obtain rfl := (List.cons.inj e2).1
 exact ⟨z0, z1, z2, rfl⟩
theorem trod_line {fuel : Nat} {cs : List Value} {x : DataW H × List MemPlace} (h : DataW.trod enc Tryz.prog w base spare held fuel 92 cs = some x) : ∃ y : Ln, cs = encLn y ∧ y.name.size ≤ maxLen := by
 obtain ⟨xs, n, rfl, rfl, hl, hx, hf⟩ := DataW.trod_struct Tryz.underlying92 h
 rw [wcells_Line] at hl
 match cs, hl with
 | [a0, a1, a2, a3], _ =>
 have f0 := hf 0 _ rfl
 rw [List.getElem?_eq_getElem (show 0 < xs.length by rw [hx]; decide)] at f0
 simp [k_string] at f0
 obtain ⟨z0, e0, _, s0⟩ := DataW.trod_string Tryz.underlying9 f0
 obtain rfl := (List.cons.inj e0).1
 have f1 := hf 1 _ rfl
 rw [List.getElem?_eq_getElem (show 1 < xs.length by rw [hx]; decide)] at f1
 simp [wcells_Reg] at f1
 obtain ⟨p, q, r, e1⟩ := trod_reg f1
 simp only [List.cons.injEq, and_true] at e1
 obtain ⟨rfl, rfl, rfl⟩ := e1
 exact ⟨⟨z0, p, q, r⟩, rfl, s0⟩
theorem trod_seen {fuel : Nat} {cs : List Value} {x : DataW H × List MemPlace} (h : DataW.trod enc Tryz.prog w base spare held fuel 90 cs = some x) : ∃ y : Sn, cs = encSn y := by
 obtain ⟨xs, n, rfl, rfl, hl, hx, hf⟩ := DataW.trod_struct Tryz.underlying90 h
 rw [wcells_Seen] at hl
 match cs, hl with
 | [a0, a1, a2, a3], _ =>
 have f0 := hf 0 _ rfl
 rw [List.getElem?_eq_getElem (show 0 < xs.length by rw [hx]; decide)] at f0
 simp [k_int] at f0
 obtain ⟨z0, e0, _, _⟩ := DataW.trod_int Tryz.underlying3 f0
 obtain rfl := (List.cons.inj e0).1
 have f1 := hf 1 _ rfl
 rw [List.getElem?_eq_getElem (show 1 < xs.length by rw [hx]; decide)] at f1
 simp [k_int64] at f1
 obtain ⟨z1, e1, _, _⟩ := DataW.trod_int Tryz.underlying2 f1
 obtain rfl := (List.cons.inj e1).1
 have f2 := hf 2 _ rfl
 rw [List.getElem?_eq_getElem (show 2 < xs.length by rw [hx]; decide)] at f2
 simp [k_int64] at f2
 obtain ⟨z2, e2, _, _⟩ := DataW.trod_int Tryz.underlying2 f2
 obtain rfl := (List.cons.inj e2).1
 have f3 := hf 3 _ rfl
 rw [List.getElem?_eq_getElem (show 3 < xs.length by rw [hx]; decide)] at f3
 simp [k_int64] at f3
 obtain ⟨z3, e3, _, _⟩ := DataW.trod_int Tryz.underlying2 f3
 obtain rfl := (List.cons.inj e3).1
 exact ⟨⟨z0, z1, z2, z3⟩, rfl⟩
theorem trod_half {fuel : Nat} {cs : List Value} {x : DataW H × List MemPlace} (h : DataW.trod enc Tryz.prog w base spare held fuel 59 cs = some x) : ∃ y : Hf, cs = encH y ∧ LnsAt w w.heap.size y.la y.ln y.lines := by
 obtain ⟨xs, n, rfl, rfl, hl, hx, hf⟩ := DataW.trod_struct Tryz.underlying59 h
 rw [wcells_Half] at hl
 match cs, hl with
 | [a0, a1, a2, a3, a4, a5], _ =>
 have f0 := hf 0 _ rfl
 rw [List.getElem?_eq_getElem (show 0 < xs.length by rw [hx]; decide)] at f0
 simp [k_int] at f0
 obtain ⟨z0, e0, _, _⟩ := DataW.trod_int Tryz.underlying3 f0
 obtain rfl := (List.cons.inj e0).1
 have f1 := hf 1 _ rfl
 rw [List.getElem?_eq_getElem (show 1 < xs.length by rw [hx]; decide)] at f1
 simp [k_int64] at f1
 obtain ⟨z1, e1, _, _⟩ := DataW.trod_int Tryz.underlying2 f1
 obtain rfl := (List.cons.inj e1).1
 have f2 := hf 2 _ rfl
 rw [List.getElem?_eq_getElem (show 2 < xs.length by rw [hx]; decide)] at f2
 simp [k_int64] at f2
 obtain ⟨z2, e2, _, _⟩ := DataW.trod_int Tryz.underlying2 f2
 obtain rfl := (List.cons.inj e2).1
 have f3 := hf 3 _ rfl
 rw [List.getElem?_eq_getElem (show 3 < xs.length by rw [hx]; decide)] at f3
 simp [wcells_lines] at f3
 obtain ⟨A3, n3, c3, r3, rfl, _, h3, x3⟩ := trod_rowsD (enc2 := encLn) (k := 4) (Q := fun y _ => y.name.size ≤ maxLen) (fun _ => rfl) (by decide) Ln0 Tryz.underlying57 wcells_Line (fun _ _ _ h => by obtain ⟨y, e, hs⟩ := trod_line h; exact ⟨y, e, hs⟩) f3
 have f4 := hf 4 _ rfl
 rw [List.getElem?_eq_getElem (show 4 < xs.length by rw [hx]; decide)] at f4
 simp [k_bool] at f4
 obtain ⟨z4, e4, _⟩ := DataW.trod_bool Tryz.underlying4 f4
 obtain rfl := (List.cons.inj e4).1
 have f5 := hf 5 _ rfl
 rw [List.getElem?_eq_getElem (show 5 < xs.length by rw [hx]; decide)] at f5
 simp [k_int] at f5
 obtain ⟨z5, e5, _, _⟩ := DataW.trod_int Tryz.underlying3 f5
 obtain rfl := (List.cons.inj e5).1
 refine ⟨⟨z0, z1, z2, A3, n3, c3, z4, z5, r3⟩, rfl, h3, fun y hy => ?_⟩
 rcases x3 with ⟨_, _, rfl⟩ | ⟨el, sp, _, _, hq⟩
 · cases hy
 · obtain ⟨d, _, h⟩ := hq y hy
   exact h
theorem trod_node {fuel : Nat} {cs : List Value} {x : DataW H × List MemPlace} (h : DataW.trod enc Tryz.prog w base spare held fuel 56 cs = some x) : ∃ y : Nd, cs = encN y ∧ NdAt w w.heap.size y ∧ (SzOk 56 x.1 → NdSz y) := by
 obtain ⟨xs, n, rfl, rfl, hl, hx, hf⟩ := DataW.trod_struct Tryz.underlying56 h
 rw [wcells_Node] at hl
 match cs, hl with
 | [a0, a1, a2, a3, a4, a5, a6, a7], _ =>
 have f0 := hf 0 _ rfl
 rw [List.getElem?_eq_getElem (show 0 < xs.length by rw [hx]; decide)] at f0
 simp [k_int] at f0
 obtain ⟨z0, e0, _, _⟩ := DataW.trod_int Tryz.underlying3 f0
 obtain rfl := (List.cons.inj e0).1
 have f1 := hf 1 _ rfl
 rw [List.getElem?_eq_getElem (show 1 < xs.length by rw [hx]; decide)] at f1
 simp [k_int64] at f1
 obtain ⟨z1, e1, _, _⟩ := DataW.trod_int Tryz.underlying2 f1
 obtain rfl := (List.cons.inj e1).1
 have f2 := hf 2 _ rfl
 rw [List.getElem?_eq_getElem (show 2 < xs.length by rw [hx]; decide)] at f2
 simp [k_int64] at f2
 obtain ⟨z2, e2, _, _⟩ := DataW.trod_int Tryz.underlying2 f2
 obtain rfl := (List.cons.inj e2).1
 have f3 := hf 3 _ rfl
 rw [List.getElem?_eq_getElem (show 3 < xs.length by rw [hx]; decide)] at f3
 simp [wcells_ints] at f3
 obtain ⟨A3, n3, c3, r3, rfl, _, h3, x3⟩ := trod_rowsD (enc2 := encI) (k := 1) (Q := fun _ _ => True) (fun _ => rfl) (by decide) 0 Tryz.underlying42 k_int (fun _ _ _ h => by obtain ⟨y, e⟩ := wtrod_int h; exact ⟨y, e, trivial⟩) f3
 have f4 := hf 4 _ rfl
 rw [List.getElem?_eq_getElem (show 4 < xs.length by rw [hx]; decide)] at f4
 simp [k_int] at f4
 obtain ⟨z4, e4, _, _⟩ := DataW.trod_int Tryz.underlying3 f4
 obtain rfl := (List.cons.inj e4).1
 have f5 := hf 5 _ rfl
 rw [List.getElem?_eq_getElem (show 5 < xs.length by rw [hx]; decide)] at f5
 simp [wcells_seens] at f5
 obtain ⟨A5, n5, c5, r5, rfl, _, h5, x5⟩ := trod_rowsD (enc2 := encSn) (k := 4) (Q := fun _ _ => True) (fun _ => rfl) (by decide) ⟨0, 0, 0, 0⟩ Tryz.underlying52 wcells_Seen (fun _ _ _ h => by obtain ⟨y, e⟩ := trod_seen h; exact ⟨y, e, trivial⟩) f5
 have f6 := hf 6 _ rfl
 rw [List.getElem?_eq_getElem (show 6 < xs.length by rw [hx]; decide)] at f6
 simp [wcells_halves] at f6
 obtain ⟨A6, n6, c6, r6, rfl, _, h6, x6⟩ := trod_rowsD (enc2 := encH) (k := 6) (Q := fun y _ => LnsAt w w.heap.size y.la y.ln y.lines) (fun _ => rfl) (by decide) Hf0 Tryz.underlying53 wcells_Half (fun _ _ _ h => by obtain ⟨y, e, hq⟩ := trod_half h; exact ⟨y, e, hq⟩) f6
 have f7 := hf 7 _ rfl
 rw [List.getElem?_eq_getElem (show 7 < xs.length by rw [hx]; decide)] at f7
 simp [wcells_states] at f7
 obtain ⟨A7, n7, c7, r7, rfl, _, h7, x7⟩ := trod_rowsD (enc2 := stV) (k := 16) (Q := fun y _ => y.ch.name.size ≤ maxLen) stV_len (by decide) St0 Tryz.underlying54 cells_state (fun _ _ _ h => by obtain ⟨y, e, hq⟩ := trod_state h; exact ⟨y, e, hq⟩) f7
 refine ⟨⟨z0, z1, z2, A3, n3, c3, z4, A5, n5, c5, A6, n6, c6, A7, n7, c7, r3, r5, r6, r7⟩, rfl, ⟨h3, h5, ⟨h6, fun y hy => ?_⟩, ⟨h7, fun y hy => ?_⟩⟩, fun hz => ?_⟩
 · rcases x6 with ⟨_, _, rfl⟩ | ⟨el, sp, _, _, hq⟩
   · cases hy
   · obtain ⟨d, _, h⟩ := hq y hy
     exact h
 · rcases x7 with ⟨_, _, rfl⟩ | ⟨el, sp, _, _, hq⟩
   · cases hy
   · obtain ⟨d, _, h⟩ := hq y hy
     exact h
 · have g : ∀ i (hi : i < xs.length), (xs.map (·.1))[i]? = some (xs[i]).1 := fun i hi => by rw [List.getElem?_map, List.getElem?_eq_getElem hi]; rfl
   have s3 := ((hz.ag Tryz.underlying56 (i := 3) rfl (g 3 (by rw [hx]; decide))).len Tryz.underlying42 (b := 8) (by kernel_rfl) x3).1
   have s5 := ((hz.ag Tryz.underlying56 (i := 5) rfl (g 5 (by rw [hx]; decide))).len Tryz.underlying52 (b := 32) (by kernel_rfl) x5).1
   have s6 := ((hz.ag Tryz.underlying56 (i := 6) rfl (g 6 (by rw [hx]; decide))).len Tryz.underlying53 (b := 64) (by kernel_rfl) x6).1
   have s7 := ((hz.ag Tryz.underlying56 (i := 7) rfl (g 7 (by rw [hx]; decide))).len Tryz.underlying54 (b := 136) (by kernel_rfl) x7).1
   exact ⟨(by show n3 ≤ _; omega), (by show n5 ≤ _; omega), (by show n6 ≤ _; omega), s7⟩
theorem trod_dgram {fuel : Nat} {cs : List Value} {x : DataW H × List MemPlace} (h : DataW.trod enc Tryz.prog w base spare held fuel 81 cs = some x) : ∃ y : Bg.Dg, cs = Bg.encD y ∧ (SzOk 81 x.1 → y.body.size ≤ 140737488351232) := by
 obtain ⟨xs, n, rfl, rfl, hl, hx, hf⟩ := DataW.trod_struct Tryz.underlying81 h
 rw [Bg.cells_dg] at hl
 match cs, hl with
 | [a0, a1, a2, a3], _ =>
 have f0 := hf 0 _ rfl
 rw [List.getElem?_eq_getElem (show 0 < xs.length by rw [hx]; decide)] at f0
 simp [k_int64] at f0
 obtain ⟨z0, e0, _, _⟩ := DataW.trod_int Tryz.underlying2 f0
 obtain rfl := (List.cons.inj e0).1
 have f1 := hf 1 _ rfl
 rw [List.getElem?_eq_getElem (show 1 < xs.length by rw [hx]; decide)] at f1
 simp [k_int] at f1
 obtain ⟨z1, e1, _, _⟩ := DataW.trod_int Tryz.underlying3 f1
 obtain rfl := (List.cons.inj e1).1
 have f2 := hf 2 _ rfl
 rw [List.getElem?_eq_getElem (show 2 < xs.length by rw [hx]; decide)] at f2
 simp [k_int] at f2
 obtain ⟨z2, e2, _, _⟩ := DataW.trod_int Tryz.underlying3 f2
 obtain rfl := (List.cons.inj e2).1
 have f3 := hf 3 _ rfl
 rw [List.getElem?_eq_getElem (show 3 < xs.length by rw [hx]; decide)] at f3
 simp [k_string] at f3
 obtain ⟨z3, e3, q3, s3⟩ := DataW.trod_string Tryz.underlying9 f3
 obtain rfl := (List.cons.inj e3).1
 refine ⟨⟨z0, z1, z2, z3⟩, rfl, fun hz => ?_⟩
 have g : (xs.map (·.1))[3]? = some (xs[3]'(by rw [hx]; decide)).1 := by rw [List.getElem?_map, List.getElem?_eq_getElem (by rw [hx]; decide)]; rfl
 have s4 := hz.ag Tryz.underlying81 (i := 3) rfl g
 rw [q3] at s4
 have s5 := s4 z3.data.toList.length (by simp [DataW.weights])
 have s6 : z3.data.toList.length = z3.size := by rw [Array.length_toList]; rfl
 simp only [reachBytes] at s5
 show z3.size ≤ _
 omega
theorem trod_mailW {fuel : Nat} {cs : List Value} {x : DataW H × List MemPlace} (h : DataW.trod enc Tryz.prog w base spare held fuel 28 cs = some x) : ∃ (nx : Int) (la : Option Addr) (ll lc : Nat) (sa : Option Addr) (sl sc : Nat) (dgs : List Bg.Dg) (svs : List Bg.LK), cs = [.int .i64 nx, .slice la ll lc, .slice sa sl sc] ∧ RowsE Bg.encD 4 w w.heap.size la ll dgs ∧ RowsE Bg.encL 2 w w.heap.size sa sl svs ∧ (SzOk 28 x.1 → ll ≤ 70368744177664 ∧ sl ≤ 70368744177664 ∧ ∀ d ∈ dgs, d.body.size ≤ 140737488351232) := by
 obtain ⟨xs, n, rfl, rfl, hl, hx, hf⟩ := DataW.trod_struct Tryz.underlying28 h
 rw [wcells_Mail] at hl
 match cs, hl with
 | [a0, a1, a2], _ =>
 have f0 := hf 0 _ rfl
 rw [List.getElem?_eq_getElem (show 0 < xs.length by rw [hx]; decide)] at f0
 simp [k_int64] at f0
 obtain ⟨z0, e0, _, _⟩ := DataW.trod_int Tryz.underlying2 f0
 obtain rfl := (List.cons.inj e0).1
 have f1 := hf 1 _ rfl
 rw [List.getElem?_eq_getElem (show 1 < xs.length by rw [hx]; decide)] at f1
 simp [wcells_dgs] at f1
 obtain ⟨A1, n1, c1, r1, rfl, _, h1, x1⟩ := trod_rowsD (enc2 := Bg.encD) (k := 4) (Q := fun y d => SzOk 81 d → y.body.size ≤ 140737488351232) Bg.encD_len (by decide) Bg.Dg0 Tryz.underlying25 Bg.cells_dg (fun _ _ _ h => by obtain ⟨y, e, hq⟩ := trod_dgram h; exact ⟨y, e, hq⟩) f1
 have f2 := hf 2 _ rfl
 rw [List.getElem?_eq_getElem (show 2 < xs.length by rw [hx]; decide)] at f2
 simp [wcells_lks] at f2
 obtain ⟨A2, n2, c2, r2, rfl, _, h2, x2⟩ := trod_rowsD (enc2 := Bg.encL) (k := 2) (Q := fun _ _ => True) Bg.encL_len (by decide) (0, 0) Tryz.underlying26 Bg.cells_lk (fun _ _ _ h => by obtain ⟨y, e, _⟩ := Bg.trod_lk h; exact ⟨y, e, trivial⟩) f2
 refine ⟨z0, A1, n1, c1, A2, n2, c2, r1, r2, rfl, h1, h2, fun hz => ?_⟩
 have g : ∀ i (hi : i < xs.length), (xs.map (·.1))[i]? = some (xs[i]).1 := fun i hi => by rw [List.getElem?_map, List.getElem?_eq_getElem hi]; rfl
 have s1 := (hz.ag Tryz.underlying28 (i := 1) rfl (g 1 (by rw [hx]; decide))).len Tryz.underlying25 (b := 40) (by kernel_rfl) x1
 have s2 := ((hz.ag Tryz.underlying28 (i := 2) rfl (g 2 (by rw [hx]; decide))).len Tryz.underlying26 (b := 16) (by kernel_rfl) x2).1
 refine ⟨by omega, by omega, fun d hd => ?_⟩
 obtain ⟨d', h1, h2⟩ := s1.2 d hd
 exact h2 h1
theorem trod_worldW {fuel : Nat} {cs : List Value} {x : DataW H × List MemPlace} (h : DataW.trod enc Tryz.prog w base spare held fuel 30 cs = some x) : ∃ (y : Wd) (dks : List Sl) (dgs : List Bg.Dg) (svs : List Bg.LK), cs = [.slice y.na y.nn y.nc, .slice y.ua y.un y.uc, .slice y.da y.dn y.dc, .int .i64 y.nx, .slice y.la y.ll y.lc, .slice y.sa y.sl y.sc, .int .i64 y.lost] ∧ (SzOk 30 x.1 → WdAll w y dks dgs svs) := by
 obtain ⟨xs, n, rfl, rfl, hl, hx, hf⟩ := DataW.trod_struct Tryz.underlying30 h
 rw [wcells_World] at hl
 match cs, hl with
 | [a0, a1, a2, a3, a4, a5, a6], _ =>
 have f0 := hf 0 _ rfl
 rw [List.getElem?_eq_getElem (show 0 < xs.length by rw [hx]; decide)] at f0
 simp [wcells_nodes] at f0
 obtain ⟨A0, n0, c0, r0, rfl, _, h0, x0⟩ := trod_rowsD (enc2 := encN) (k := 8) (Q := fun y d => NdAt w w.heap.size y ∧ (SzOk 56 d → NdSz y)) (fun _ => rfl) (by decide) Nd0 Tryz.underlying22 wcells_Node (fun _ _ _ h => by obtain ⟨y, e, hq⟩ := trod_node h; exact ⟨y, e, hq⟩) f0
 have f1 := hf 1 _ rfl
 rw [List.getElem?_eq_getElem (show 1 < xs.length by rw [hx]; decide)] at f1
 simp [wcells_bools] at f1
 obtain ⟨A1, n1, c1, r1, rfl, _, h1, x1⟩ := trod_rowsD (enc2 := encB) (k := 1) (Q := fun _ _ => True) (fun _ => rfl) (by decide) false Tryz.underlying23 k_bool (fun _ _ _ h => by obtain ⟨y, e⟩ := wtrod_bool h; exact ⟨y, e, trivial⟩) f1
 have f2 := hf 2 _ rfl
 rw [List.getElem?_eq_getElem (show 2 < xs.length by rw [hx]; decide)] at f2
 simp [wcells_disks] at f2
 obtain ⟨A2, n2, c2, r2, rfl, _, h2, x2⟩ := trod_rowsD (enc2 := encSl) (k := 1) (Q := fun _ _ => True) (fun _ => rfl) (by decide) ⟨none, 0, 0⟩ Tryz.underlying24 wcells_disk (fun _ _ _ h => by obtain ⟨y, e⟩ := wtrod_disk h; exact ⟨y, e, trivial⟩) f2
 have f3 := hf 3 _ rfl
 rw [List.getElem?_eq_getElem (show 3 < xs.length by rw [hx]; decide)] at f3
 simp [wcells_Mail] at f3
 obtain ⟨nx, la, ll, lc, sa, sl, sc, dgs, svs, e3, m1, m2, m3⟩ := trod_mailW f3
 simp only [List.cons.injEq, and_true] at e3
 obtain ⟨rfl, rfl, rfl⟩ := e3
 have f4 := hf 4 _ rfl
 rw [List.getElem?_eq_getElem (show 4 < xs.length by rw [hx]; decide)] at f4
 simp [k_int64] at f4
 obtain ⟨z4, e4, _, _⟩ := DataW.trod_int Tryz.underlying2 f4
 obtain rfl := (List.cons.inj e4).1
 refine ⟨⟨A0, n0, c0, A1, n1, c1, A2, n2, c2, nx, la, ll, lc, sa, sl, sc, z4, r0, r1⟩, r2, dgs, svs, rfl, fun hz => ?_⟩
 have g : ∀ i (hi : i < xs.length), (xs.map (·.1))[i]? = some (xs[i]).1 := fun i hi => by rw [List.getElem?_map, List.getElem?_eq_getElem hi]; rfl
 have s0 := (hz.ag Tryz.underlying30 (i := 0) rfl (g 0 (by rw [hx]; decide))).len Tryz.underlying22 (b := Tryz.prog.bytesOf 56) rfl x0
 obtain ⟨q1, q2, q3⟩ := m3 (hz.ag Tryz.underlying30 (i := 3) rfl (g 3 (by rw [hx]; decide)))
 exact ⟨⟨⟨h0, fun y hy => by obtain ⟨d, _, h⟩ := s0.2 y hy; exact h.1⟩, h1⟩, h2, m1, m2, q1, q2, fun y hy => by obtain ⟨d, hd, h⟩ := s0.2 y hy; exact h.2 hd, q3⟩
theorem open_world {ts : List TypeId} {ds : List (DataW H)} (hsz : (DataW.weightsEach Tryz.prog ts ds).all (· ≤ reachBytes) = true) {v : Value} {d : DataW H} {p : List MemPlace} {j : Nat} (ht : ts[j]? = some 30) (hd : ds[j]? = some d)
    (hv : Value.okWide Tryz.prog w .any b0 30 v) (h : DataW.Trod enc Tryz.prog w base spare held 30 v d p) :
    ∃ (y : Wd) (dks : List Sl) (dgs : List Bg.Dg) (svs : List Bg.LK), v = WdV y ∧ WdAll w y dks dgs svs := by
 obtain ⟨cs, rfl, hs⟩ := okWide_struct Tryz.underlying30 hv
 obtain ⟨fuel, hf⟩ := h
 obtain ⟨y, dks, dgs, svs, e, hw⟩ := trod_worldW hf
 refine ⟨y, dks, dgs, svs, ?_, hw fun z hz => ?_⟩
 · have e2 : cs.toList = _ := e
   congr 1
   exact Array.ext' (by rw [e2])
 · have := List.all_eq_true.1 hsz _ (DataW.weights_mem_each ht hd z hz)
   simpa using this
end
end Go.Proofs.YtkfodkbgmpbmfaaGreat
namespace Go.Proofs.YtkfodkbgmpbmfaaGreat
open Go.RowKit
section
variable {P : Program} {C : World → Prop} {a : Act} {o : Oper} {n : Nat}
theorem wpInW_of_quiet {K : Act → Prop} {K' : Act → World → Prop} {Q' : Exit → Act → World → Prop} {w : World} (hd : ∀ c, o.op ≠ .defer c) (hw : C w) (h : ∀ a w', C w' → K a → K' a w') (hh : o.quiet P a C K) : o.wpIn Fence.wide n P a w K' Q' := by
 refine ⟨fun _ _ => trivial, ?_⟩
 rw [Oper.semAt_eq _ _ _ hd]
 obtain ⟨v, h1, h2⟩ := hh
 have h3 := h1 w hw
 unfold Oper.quietAt at h3
 generalize (execOp a.eval o).run P w = r at *
 cases r with
 | ok nx w' =>
  cases nx <;> simp only [Oper.quietUpon] at h3 <;> simp only [Oper.uponIn]
  case value u =>
   obtain ⟨e1, e2⟩ := h3
   rw [e1, e2]
   exact h _ _ hw h2
  case skip =>
   obtain ⟨e1, e2⟩ := h3
   rw [e1, ← e2]
   exact h _ _ hw h2
  case enter f args =>
   obtain ⟨e1, hc⟩ := h3
   rw [e1]
   refine ⟨fun hx => (by cases hx), ?_⟩
   refine (callsIn_wide.2 hc).mono fun e w'' he => ?_
   obtain ⟨he, hw''⟩ := he
   subst he
   exact h _ _ hw'' h2
 | halt x w' => simp only [Oper.quietUpon] at h3
theorem wpOpInW_of_qOp {ops : Array Oper} {i : Nat} {K : Act → Prop} {K' : Act → World → Prop} {Q' : Exit → Act → World → Prop} {w : World} (hd : noDefer ops = true) (hC : C w) (h : ∀ a w', C w' → K a → K' a w') (hh : qOp P ops C i K a) : wpOpIn Fence.wide n P ops Q' i K' a w := by
 unfold qOp at hh
 unfold wpOpIn
 split
 · rename_i ho; simp only [ho] at hh; exact h _ _ hC hh
 · rename_i o ho
   simp only [ho] at hh
   split
   · rename_i hw; simp only [hw, if_true] at hh; exact wpInW_of_quiet (noDefer_at hd ho) hC h hh
   · rename_i hw; simp only [hw] at hh; exact ⟨fun _ _ => trivial, h _ _ hC hh⟩
theorem wpAnyInW_of_headQ {ops : Array Oper} {md : Region.Mode} {m g : Nat} {L : Array Bool → Act → Prop} {Q' : Exit → Act → World → Prop} (hd : noDefer ops = true) (hL : ∀ listed a w, C w → L listed a → wpAnyIn Fence.wide n P md ops Q' g listed a w) :
    ∀ (f : Nat) (listed : Array Bool) (a : Act) (w : World), C w → wpHeadQ P md ops C m L f listed a → wpAnyIn Fence.wide n P md ops Q' (f + g) listed a w
 | 0, listed, a, w, hw, h => by rw [Nat.zero_add]; exact hL _ _ _ hw h
 | f + 1, listed, a, w, hw, h => by
  rw [show f + 1 + g = (f + g) + 1 by omega]
  exact ⟨fun h0 => absurd h0 h.1, fun i hi => wpOpInW_of_qOp hd hw (fun a' w' hw' h' => wpAnyInW_of_headQ hd hL f _ a' w' hw' h') (h.2 i hi).2⟩
theorem wpAnyInW_of_seq {ops : Array Oper} {md : Region.Mode} {Q' : Exit → Act → World → Prop} : ∀ (l : List Oper) (k : Nat) (listed : Array Bool) (a : Act) (w : World), (∀ j, l[j]? = ops[k + j]?) →
    Region.seqB md ops l.length k listed = true → wpListIn Fence.wide n P ops Q' l a w → wpAnyIn Fence.wide n P md ops Q' l.length listed a w
 | [], _, _, _, _, _, hB, h => ⟨by simpa [Region.seqB] using hB, h⟩
 | o :: l, k, listed, a, w, hl, hB, h => by
  have h0 : ops[k]? = some o := by simpa using (hl 0).symm
  simp only [List.length_cons, Region.seqB, Bool.and_eq_true, decide_eq_true_eq] at hB
  refine ⟨fun h1 => (by rw [hB.1] at h1; cases h1), fun i hi => ?_⟩
  rw [hB.1] at hi
  have hik : i = k := by simpa using hi
  subst hik
  have hw : wpOpIn Fence.wide n P ops Q' i (wpListIn Fence.wide n P ops Q' l) a w := by unfold wpOpIn; simp only [h0]; exact h
  exact wpOpIn_mono (fun a' w' h' => wpAnyInW_of_seq l (i + 1) _ a' w' (fun j => by have := hl (j + 1); simpa [Nat.add_assoc, Nat.add_comm 1 j] using this) hB.2 h') hw
theorem wpIn_region_quietC_tail {id : Nat} {Q : Exit → Act → World → Prop} {w : World} {l : List Oper} (C : World → Prop) (m : Nat) (hm : P.follows .mixedOrders = true) (hB : Region.lexTailB .any l.toArray m = true) (hd : noDefer l.toArray = true)
    (hC : C { w with drawn := w.drawn + 1 }) (h : wpQuiet P l.toArray C (fun a' => ∀ w', C w' → wpListIn Fence.wide n P l.toArray Q (l.drop m) a' w') (l.take m) a) : (Code.region id l.toArray true).wpIn Fence.wide n P Q a w := by
 simp only [Region.lexTailB, Bool.and_eq_true, decide_eq_true_eq] at hB
 obtain ⟨⟨⟨⟨hsel, hn⟩, hs⟩, hc⟩, hlex⟩ := hB
 have hn' : m < l.length := by simpa using hn
 have htl : (l.take m).length = m := by simp; omega
 have hdl : (l.drop m).length = l.toArray.size - m := by simp
 have inv0 : HeadInv .any l.toArray m (Array.replicate l.toArray.size false) :=
  ⟨by simp, fun j oj _ hl => (by rw [getD_replicate_false] at hl; cases hl), fun t _ ht => getD_in (by simpa using ht) (getD_replicate_false _ _)⟩
 have H := wpHeadQ_lex (md := .any) (g := l.toArray.size - m) hsel hs hc hn (l.take m) 0 _ a (fun j hj => by
  have hj' : j < m := by rw [htl] at hj; exact hj
  simp [hj']) (by simpa using htl) inv0 (by rw [htl]; exact hlex) h
 refine wpIn_region_any hm ?_
 have := wpAnyInW_of_headQ (n := n) (Q' := Q) (g := l.toArray.size - m) hd (fun listed a' w' hw' hL => by
  have := wpAnyInW_of_seq (n := n) (md := .any) (Q' := Q) (l.drop m) m listed a' w' (fun j => by simp [List.getElem?_drop]) (by rw [hdl]; exact hL.1) (hL.2 w' hw')
  rwa [hdl] at this) _ _ _ _ hC H
 rw [htl, show m + (l.toArray.size - m) = l.toArray.size by omega] at this
 exact this
end
end Go.Proofs.YtkfodkbgmpbmfaaGreat
