/- A state laid over the cells of another one. -/
import Derived.Test.YtfihkkamedghkaaSt
namespace Go.Proofs.Ytfihkkamedghkaa
open Go.RowKit
set_option linter.unusedVariables false
theorem st16_cells {W : World} {b : Nat} {x : St} (h : st16 W ⟨b, 0, none⟩ x) : ∀ j u, (stV x)[j]? = some u → W.cell? ⟨b, j, none⟩ = some u := by
  intro j u hu
  have hj : j < 16 := by have := (List.getElem?_eq_some_iff.1 hu).1; rwa [stV_len] at this
  obtain ⟨h0, h1, h2, h3, h4, h5, h6, h7, h8, h9, h10, h11, h12, h13, h14, h15⟩ := h
  match j, hj with
  | 0, _ => cases hu; exact h0
  | 1, _ => cases hu; exact h1
  | 2, _ => cases hu; exact h2
  | 3, _ => cases hu; exact h3
  | 4, _ => cases hu; exact h4
  | 5, _ => cases hu; exact h5
  | 6, _ => cases hu; exact h6
  | 7, _ => cases hu; exact h7
  | 8, _ => cases hu; exact h8
  | 9, _ => cases hu; exact h9
  | 10, _ => cases hu; exact h10
  | 11, _ => cases hu; exact h11
  | 12, _ => cases hu; exact h12
  | 13, _ => cases hu; exact h13
  | 14, _ => cases hu; exact h14
  | 15, _ => cases hu; exact h15
theorem st16_from {W : World} {b : Nat} {x : St} (h : ∀ j u, (stV x)[j]? = some u → W.cell? ⟨b, j, none⟩ = some u) : st16 W ⟨b, 0, none⟩ x :=
  ⟨h 0 _ rfl, h 1 _ rfl, h 2 _ rfl, h 3 _ rfl, h 4 _ rfl, h 5 _ rfl, h 6 _ rfl, h 7 _ rfl, h 8 _ rfl, h 9 _ rfl, h 10 _ rfl, h 11 _ rfl, h 12 _ rfl, h 13 _ rfl, h 14 _ rfl, h 15 _ rfl⟩
theorem st16_one {W : World} {b i : Nat} {x x' : St} {v : Value} (h : st16 W ⟨b, 0, none⟩ x) (hx : stV x' = (stV x).set i v) : st16 (W.setCell ⟨b, i, none⟩ v) ⟨b, 0, none⟩ x' := by
  have hc := st16_cells h
  refine st16_from fun j u hu => ?_
  have hj : j < (stV x).length := by have := (List.getElem?_eq_some_iff.1 hu).1; rwa [stV_len] at this
  rw [hx] at hu
  by_cases e : j = i
  · subst e
    rw [List.getElem?_set_self hj] at hu
    cases hu
    exact World.cell?_setCell_same _ _ _ (hc j _ (List.getElem?_eq_getElem hj))
  · rw [List.getElem?_set_ne (Ne.symm e)] at hu
    rw [World.cell?_setCell_other]
    · exact hc j u hu
    · intro e3
      have := congrArg Addr.off e3
      simp only [] at this
      omega
/-- A state laid over a state's cells. -/
theorem st16_put (W : World) (b : Nat) (x y : St) (h : st16 W ⟨b, 0, none⟩ x) : st16 ((((((((((((((((W.setCell ⟨b, 0, none⟩ (.string y.ch.name)).setCell ⟨b, 1, none⟩ (.int .i64 y.ch.ep)).setCell ⟨b, 2, none⟩ (.int .i64 y.ch.who)).setCell ⟨b, 3, none⟩ (.bool y.ch.al)).setCell ⟨b, 4, none⟩ (.int .i64 y.ch.kd)).setCell ⟨b, 5, none⟩ (.int .i64 y.ch.sc)).setCell ⟨b, 6, none⟩ (.bool y.has)).setCell ⟨b, 7, none⟩ (.int .i64 y.inp)).setCell ⟨b, 8, none⟩ (.bool y.mn.has)).setCell ⟨b, 9, none⟩ (.int .i64 y.mn.val)).setCell ⟨b, 10, none⟩ (.int .i64 y.mn.org)).setCell ⟨b, 11, none⟩ (.int .i64 y.mn.age)).setCell ⟨b, 12, none⟩ (.bool y.mx.has)).setCell ⟨b, 13, none⟩ (.int .i64 y.mx.val)).setCell ⟨b, 14, none⟩ (.int .i64 y.mx.org)).setCell ⟨b, 15, none⟩ (.int .i64 y.mx.age)) ⟨b, 0, none⟩ y := by
  have h1 := st16_one (i := 0) (v := .string y.ch.name) (x' := ⟨⟨y.ch.name, x.ch.ep, x.ch.who, x.ch.al, x.ch.kd, x.ch.sc⟩, x.has, x.inp, ⟨x.mn.has, x.mn.val, x.mn.org, x.mn.age⟩, ⟨x.mx.has, x.mx.val, x.mx.org, x.mx.age⟩⟩) h rfl
  have h2 := st16_one (i := 1) (v := .int .i64 y.ch.ep) (x' := ⟨⟨y.ch.name, y.ch.ep, x.ch.who, x.ch.al, x.ch.kd, x.ch.sc⟩, x.has, x.inp, ⟨x.mn.has, x.mn.val, x.mn.org, x.mn.age⟩, ⟨x.mx.has, x.mx.val, x.mx.org, x.mx.age⟩⟩) h1 rfl
  have h3 := st16_one (i := 2) (v := .int .i64 y.ch.who) (x' := ⟨⟨y.ch.name, y.ch.ep, y.ch.who, x.ch.al, x.ch.kd, x.ch.sc⟩, x.has, x.inp, ⟨x.mn.has, x.mn.val, x.mn.org, x.mn.age⟩, ⟨x.mx.has, x.mx.val, x.mx.org, x.mx.age⟩⟩) h2 rfl
  have h4 := st16_one (i := 3) (v := .bool y.ch.al) (x' := ⟨⟨y.ch.name, y.ch.ep, y.ch.who, y.ch.al, x.ch.kd, x.ch.sc⟩, x.has, x.inp, ⟨x.mn.has, x.mn.val, x.mn.org, x.mn.age⟩, ⟨x.mx.has, x.mx.val, x.mx.org, x.mx.age⟩⟩) h3 rfl
  have h5 := st16_one (i := 4) (v := .int .i64 y.ch.kd) (x' := ⟨⟨y.ch.name, y.ch.ep, y.ch.who, y.ch.al, y.ch.kd, x.ch.sc⟩, x.has, x.inp, ⟨x.mn.has, x.mn.val, x.mn.org, x.mn.age⟩, ⟨x.mx.has, x.mx.val, x.mx.org, x.mx.age⟩⟩) h4 rfl
  have h6 := st16_one (i := 5) (v := .int .i64 y.ch.sc) (x' := ⟨⟨y.ch.name, y.ch.ep, y.ch.who, y.ch.al, y.ch.kd, y.ch.sc⟩, x.has, x.inp, ⟨x.mn.has, x.mn.val, x.mn.org, x.mn.age⟩, ⟨x.mx.has, x.mx.val, x.mx.org, x.mx.age⟩⟩) h5 rfl
  have h7 := st16_one (i := 6) (v := .bool y.has) (x' := ⟨⟨y.ch.name, y.ch.ep, y.ch.who, y.ch.al, y.ch.kd, y.ch.sc⟩, y.has, x.inp, ⟨x.mn.has, x.mn.val, x.mn.org, x.mn.age⟩, ⟨x.mx.has, x.mx.val, x.mx.org, x.mx.age⟩⟩) h6 rfl
  have h8 := st16_one (i := 7) (v := .int .i64 y.inp) (x' := ⟨⟨y.ch.name, y.ch.ep, y.ch.who, y.ch.al, y.ch.kd, y.ch.sc⟩, y.has, y.inp, ⟨x.mn.has, x.mn.val, x.mn.org, x.mn.age⟩, ⟨x.mx.has, x.mx.val, x.mx.org, x.mx.age⟩⟩) h7 rfl
  have h9 := st16_one (i := 8) (v := .bool y.mn.has) (x' := ⟨⟨y.ch.name, y.ch.ep, y.ch.who, y.ch.al, y.ch.kd, y.ch.sc⟩, y.has, y.inp, ⟨y.mn.has, x.mn.val, x.mn.org, x.mn.age⟩, ⟨x.mx.has, x.mx.val, x.mx.org, x.mx.age⟩⟩) h8 rfl
  have h10 := st16_one (i := 9) (v := .int .i64 y.mn.val) (x' := ⟨⟨y.ch.name, y.ch.ep, y.ch.who, y.ch.al, y.ch.kd, y.ch.sc⟩, y.has, y.inp, ⟨y.mn.has, y.mn.val, x.mn.org, x.mn.age⟩, ⟨x.mx.has, x.mx.val, x.mx.org, x.mx.age⟩⟩) h9 rfl
  have h11 := st16_one (i := 10) (v := .int .i64 y.mn.org) (x' := ⟨⟨y.ch.name, y.ch.ep, y.ch.who, y.ch.al, y.ch.kd, y.ch.sc⟩, y.has, y.inp, ⟨y.mn.has, y.mn.val, y.mn.org, x.mn.age⟩, ⟨x.mx.has, x.mx.val, x.mx.org, x.mx.age⟩⟩) h10 rfl
  have h12 := st16_one (i := 11) (v := .int .i64 y.mn.age) (x' := ⟨⟨y.ch.name, y.ch.ep, y.ch.who, y.ch.al, y.ch.kd, y.ch.sc⟩, y.has, y.inp, ⟨y.mn.has, y.mn.val, y.mn.org, y.mn.age⟩, ⟨x.mx.has, x.mx.val, x.mx.org, x.mx.age⟩⟩) h11 rfl
  have h13 := st16_one (i := 12) (v := .bool y.mx.has) (x' := ⟨⟨y.ch.name, y.ch.ep, y.ch.who, y.ch.al, y.ch.kd, y.ch.sc⟩, y.has, y.inp, ⟨y.mn.has, y.mn.val, y.mn.org, y.mn.age⟩, ⟨y.mx.has, x.mx.val, x.mx.org, x.mx.age⟩⟩) h12 rfl
  have h14 := st16_one (i := 13) (v := .int .i64 y.mx.val) (x' := ⟨⟨y.ch.name, y.ch.ep, y.ch.who, y.ch.al, y.ch.kd, y.ch.sc⟩, y.has, y.inp, ⟨y.mn.has, y.mn.val, y.mn.org, y.mn.age⟩, ⟨y.mx.has, y.mx.val, x.mx.org, x.mx.age⟩⟩) h13 rfl
  have h15 := st16_one (i := 14) (v := .int .i64 y.mx.org) (x' := ⟨⟨y.ch.name, y.ch.ep, y.ch.who, y.ch.al, y.ch.kd, y.ch.sc⟩, y.has, y.inp, ⟨y.mn.has, y.mn.val, y.mn.org, y.mn.age⟩, ⟨y.mx.has, y.mx.val, y.mx.org, x.mx.age⟩⟩) h14 rfl
  have h16 := st16_one (i := 15) (v := .int .i64 y.mx.age) (x' := ⟨⟨y.ch.name, y.ch.ep, y.ch.who, y.ch.al, y.ch.kd, y.ch.sc⟩, y.has, y.inp, ⟨y.mn.has, y.mn.val, y.mn.org, y.mn.age⟩, ⟨y.mx.has, y.mx.val, y.mx.org, y.mx.age⟩⟩) h15 rfl
  exact h16
theorem lay_ret {Q : Exit → Act → World → Prop} {e : Exit} {a : Act} {W : World} (C : World → Prop) (hC : C W) (h : ∀ W', C W' → Q e a W') : Q e a W := h W hC
theorem lay0 {P : Program} {c : Code} {Q : Exit → Act → World → Prop} {a : Act} {W : World} (C : World → Prop) (hC : C W) (h : ∀ W', C W' → c.wp P Q a W') : c.wp P Q a W := h W hC
end Go.Proofs.Ytfihkkamedghkaa
