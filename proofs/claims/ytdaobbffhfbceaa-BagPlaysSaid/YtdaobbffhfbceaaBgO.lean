/- Arguments of the laws of chapter 6, opened: an act, a list of acts, packets, links. -/
import Derived.Test.YtdaobbffhfbceaaBgL
import Derived.Test.YtdaobbffhfbceaaOpn
set_option maxRecDepth 100000
namespace Go.Proofs.Ytdaobbffhfbceaa
open Go.ChangeShapes Go.WideShapes Go.RowKit Go.Deep Go.Joins
set_option linter.unusedVariables false
set_option linter.unusedSimpArgs false
structure Ac where
  kind : Int
  num : Int
  frm : Int
  dst : Int
  body : ByteArray
def encA (x : Ac) : List Value := [.int .i64 x.kind, .int .i64 x.num, .int .i64 x.frm, .int .i64 x.dst, .string x.body]
theorem encA_len (x : Ac) : (encA x).length = 5 := rfl
def OkA (x : Ac) : Prop := i64B x.kind ∧ i64B x.num ∧ i64B x.frm ∧ i64B x.dst
theorem ok_int : Try.prog.cellsOf 3 = 1 := by kernel_rfl
theorem ok_int64 : Try.prog.cellsOf 2 = 1 := by kernel_rfl
theorem ok_string : Try.prog.cellsOf 9 = 1 := by kernel_rfl
theorem cells_act : Try.prog.cellsOf 26 = 5 := by kernel_rfl
theorem cells_dg : Try.prog.cellsOf 33 = 4 := by kernel_rfl
theorem cells_lk : Try.prog.cellsOf 64 = 2 := by kernel_rfl
section
variable {H : Type} {enc : TypeId × Value → H} {w : World} {base b0 : Nat} {spare : Nat → Bool} {held : Bool}
theorem i64B_wf {x : Int} (h : (Lit.int .i64 x).wf = true) : i64B x := by have := bounds_i64 h; unfold i64B; omega
theorem trod_act {fuel : Nat} {cs : List Value} {x : DataW H × List MemPlace} (h : DataW.trod enc Try.prog w base spare held fuel 26 cs = some x) : ∃ y : Ac, cs = encA y ∧ OkA y := by
  obtain ⟨xs, n, rfl, rfl, hl, hx, hf⟩ := DataW.trod_struct Try.underlying26 h
  rw [cells_act] at hl
  match cs, hl with
  | [a0, a1, a2, a3, a4], _ =>
  have f0 := hf 0 _ rfl
  rw [List.getElem?_eq_getElem (show 0 < xs.length by rw [hx]; decide)] at f0
  simp [ok_int] at f0
  obtain ⟨z0, e0, _, w0⟩ := DataW.trod_int Try.underlying3 f0
  obtain rfl := (List.cons.inj e0).1
  have f1 := hf 1 _ rfl
  rw [List.getElem?_eq_getElem (show 1 < xs.length by rw [hx]; decide)] at f1
  simp [ok_int64] at f1
  obtain ⟨z1, e1, _, w1⟩ := DataW.trod_int Try.underlying2 f1
  obtain rfl := (List.cons.inj e1).1
  have f2 := hf 2 _ rfl
  rw [List.getElem?_eq_getElem (show 2 < xs.length by rw [hx]; decide)] at f2
  simp [ok_int] at f2
  obtain ⟨z2, e2, _, w2⟩ := DataW.trod_int Try.underlying3 f2
  obtain rfl := (List.cons.inj e2).1
  have f3 := hf 3 _ rfl
  rw [List.getElem?_eq_getElem (show 3 < xs.length by rw [hx]; decide)] at f3
  simp [ok_int] at f3
  obtain ⟨z3, e3, _, w3⟩ := DataW.trod_int Try.underlying3 f3
  obtain rfl := (List.cons.inj e3).1
  have f4 := hf 4 _ rfl
  rw [List.getElem?_eq_getElem (show 4 < xs.length by rw [hx]; decide)] at f4
  simp [ok_string] at f4
  obtain ⟨z4, e4, _⟩ := DataW.trod_string Try.underlying9 f4
  obtain rfl := (List.cons.inj e4).1
  exact ⟨⟨z0, z1, z2, z3, z4⟩, rfl, i64B_wf w0, i64B_wf w1, i64B_wf w2, i64B_wf w3⟩
theorem trod_dg {fuel : Nat} {cs : List Value} {x : DataW H × List MemPlace} (h : DataW.trod enc Try.prog w base spare held fuel 33 cs = some x) : ∃ y : Dg, cs = encD y ∧ (i64B y.num ∧ i64B y.frm ∧ i64B y.dst) := by
  obtain ⟨xs, n, rfl, rfl, hl, hx, hf⟩ := DataW.trod_struct Try.underlying33 h
  rw [cells_dg] at hl
  match cs, hl with
  | [a1, a2, a3, a4], _ =>
  have f1 := hf 0 _ rfl
  rw [List.getElem?_eq_getElem (show 0 < xs.length by rw [hx]; decide)] at f1
  simp [ok_int64] at f1
  obtain ⟨z1, e1, _, w1⟩ := DataW.trod_int Try.underlying2 f1
  obtain rfl := (List.cons.inj e1).1
  have f2 := hf 1 _ rfl
  rw [List.getElem?_eq_getElem (show 1 < xs.length by rw [hx]; decide)] at f2
  simp [ok_int] at f2
  obtain ⟨z2, e2, _, w2⟩ := DataW.trod_int Try.underlying3 f2
  obtain rfl := (List.cons.inj e2).1
  have f3 := hf 2 _ rfl
  rw [List.getElem?_eq_getElem (show 2 < xs.length by rw [hx]; decide)] at f3
  simp [ok_int] at f3
  obtain ⟨z3, e3, _, w3⟩ := DataW.trod_int Try.underlying3 f3
  obtain rfl := (List.cons.inj e3).1
  have f4 := hf 3 _ rfl
  rw [List.getElem?_eq_getElem (show 3 < xs.length by rw [hx]; decide)] at f4
  simp [ok_string] at f4
  obtain ⟨z4, e4, _⟩ := DataW.trod_string Try.underlying9 f4
  obtain rfl := (List.cons.inj e4).1
  exact ⟨⟨z1, z2, z3, z4⟩, rfl, i64B_wf w1, i64B_wf w2, i64B_wf w3⟩
theorem trod_lk {fuel : Nat} {cs : List Value} {x : DataW H × List MemPlace} (h : DataW.trod enc Try.prog w base spare held fuel 64 cs = some x) : ∃ y : LK, cs = encL y ∧ (i64B y.1 ∧ i64B y.2) := by
  obtain ⟨xs, n, rfl, rfl, hl, hx, hf⟩ := DataW.trod_struct Try.underlying64 h
  rw [cells_lk] at hl
  match cs, hl with
  | [a2, a3], _ =>
  have f2 := hf 0 _ rfl
  rw [List.getElem?_eq_getElem (show 0 < xs.length by rw [hx]; decide)] at f2
  simp [ok_int] at f2
  obtain ⟨z2, e2, _, w2⟩ := DataW.trod_int Try.underlying3 f2
  obtain rfl := (List.cons.inj e2).1
  have f3 := hf 1 _ rfl
  rw [List.getElem?_eq_getElem (show 1 < xs.length by rw [hx]; decide)] at f3
  simp [ok_int] at f3
  obtain ⟨z3, e3, _, w3⟩ := DataW.trod_int Try.underlying3 f3
  obtain rfl := (List.cons.inj e3).1
  exact ⟨(z2, z3), rfl, i64B_wf w2, i64B_wf w3⟩
theorem open_act {v : Value} {d : DataW H} {p : List MemPlace} (hv : Value.okWide Try.prog w .any b0 26 v) (h : DataW.Trod enc Try.prog w base spare held 26 v d p) :
    ∃ y : Ac, v = .agg #[.int .i64 y.kind, .int .i64 y.num, .int .i64 y.frm, .int .i64 y.dst, .string y.body] ∧ OkA y := by
  obtain ⟨cs, rfl, hsz⟩ := okWide_struct Try.underlying26 hv
  obtain ⟨fuel, hf⟩ := h
  obtain ⟨y, e, hy⟩ := trod_act hf
  refine ⟨y, ?_, hy⟩
  have e2 : cs.toList = encA y := e
  congr 1
  exact Array.ext' (by rw [e2]; rfl)
theorem open_acts {v : Value} {d : DataW H} {p : List MemPlace} (hv : Value.okWide Try.prog w .any b0 22 v) (h : DataW.Trod enc Try.prog w base spare held 22 v d p) :
    ∃ (A : Option Addr) (n c : Nat) (rs : List Ac), v = .slice A n c ∧ n ≤ maxLen ∧ RowsE encA 5 w w.heap.size A n rs ∧ (∀ y ∈ rs, OkA y) ∧ ((d = .nil ∧ n = 0) ∨ ∃ el sp, d = .slice el sp ∧ el.length = n) :=
  open_rows (enc2 := encA) (k := 5) encA_len (by omega) ⟨0, 0, 0, 0, ⟨#[]⟩⟩ Try.underlying22 cells_act (fun _ _ _ h => trod_act h) hv h
end
end Go.Proofs.Ytdaobbffhfbceaa
