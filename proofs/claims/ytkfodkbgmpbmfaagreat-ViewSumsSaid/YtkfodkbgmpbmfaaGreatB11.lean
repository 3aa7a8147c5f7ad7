/- Chapter 22, parts on the way: StE -/
import Derived.Test.YtkfodkbgmpbmfaaGreatB01
import Derived.Test.YtkfodkbgmpbmfaaGreatB03
set_option linter.unusedVariables false
set_option linter.unusedSimpArgs false
namespace Go.Proofs.YtkfodkbgmpbmfaaGreat
open Go.RowKit
set_option linter.unusedVariables false
set_option linter.unusedSimpArgs false
set_option maxRecDepth 100000
def chEq (x y : Ch) : Bool := x.name.toList == y.name.toList && (x.ep == y.ep && (x.who == y.who && (x.al == y.al && (x.kd == y.kd && x.sc == y.sc))))
def eEq (x y : E) : Bool := x.has == y.has && (x.val == y.val && (x.org == y.org && x.age == y.age))
def stEq (x y : St) : Bool := chEq x.ch y.ch && (x.has == y.has && (x.inp == y.inp && (eEq x.mn y.mn && eEq x.mx y.mx)))
theorem bytesList_inj {a b : ByteArray} (h : a.toList = b.toList) : a = b := by
 rw [ByteArray.toList_eq, ByteArray.toList_eq] at h
 exact Go.WideShapes.bytes_inj h
theorem chEq_iff {x y : Ch} : chEq x y = true ↔ x = y := by
 obtain ⟨a, b, c, d, e, f⟩ := x
 obtain ⟨a2, b2, c2, d2, e2, f2⟩ := y
 simp only [chEq, Bool.and_eq_true, beq_iff_eq, Ch.mk.injEq]
 exact ⟨fun ⟨h, t⟩ => ⟨bytesList_inj h, t⟩, fun ⟨h, t⟩ => ⟨by rw [h], t⟩⟩
theorem eEq_iff {x y : E} : eEq x y = true ↔ x = y := by
 obtain ⟨a, b, c, d⟩ := x
 obtain ⟨a2, b2, c2, d2⟩ := y
 simp only [eEq, Bool.and_eq_true, beq_iff_eq, E.mk.injEq]
theorem stEq_iff {x y : St} : stEq x y = true ↔ x = y := by
 obtain ⟨a, b, c, d, e⟩ := x
 obtain ⟨a2, b2, c2, d2, e2⟩ := y
 simp only [stEq, Bool.and_eq_true, beq_iff_eq, chEq_iff, eEq_iff, St.mk.injEq]
theorem stEq_ne {x y : St} (h : stEq x y = false) : x ≠ y := fun e => by rw [stEq_iff.2 e] at h; cases h
theorem fields_chan : Tryz.prog.underlying 34 = some (.struct (Tryz.prog.fieldsOf 34)) := by kernel_rfl
theorem fields_ext : Tryz.prog.underlying 94 = some (.struct (Tryz.prog.fieldsOf 94)) := by kernel_rfl
theorem fields_state : Tryz.prog.underlying 96 = some (.struct (Tryz.prog.fieldsOf 96)) := by kernel_rfl
theorem held_chan : Tryz.prog.stoodInHeld 34 = false := by kernel_rfl
theorem held_ext : Tryz.prog.stoodInHeld 94 = false := by kernel_rfl
theorem held_state : Tryz.prog.stoodInHeld 96 = false := by kernel_rfl
theorem eqIn_chan (d : Nat) (x y : Ch) (W : World) : (Op.equalIn (d + 2) 34 (.agg #[.string x.name, .int .i64 x.ep, .int .i64 x.who, .bool x.al, .int .i64 x.kd, .int .i64 x.sc]) (.agg #[.string y.name, .int .i64 y.ep, .int .i64 y.who, .bool y.al, .int .i64 y.kd, .int .i64 y.sc])).run Tryz.prog W = .ok (chEq x y) W := by
 rw [run_equalIn_struct _ _ _ _ _ fields_chan held_chan]
 simp [go_sem, Op.eqFields, Tryz.underlying34, Tryz.underlying94, Tryz.underlying96, Tryz.underlying9, Tryz.underlying2, Tryz.underlying3, Tryz.underlying4]
 unfold chEq
 repeat' (first | split | simp_all)
theorem eqIn_ext (d : Nat) (x y : E) (W : World) : (Op.equalIn (d + 2) 94 (.agg #[.bool x.has, .int .i64 x.val, .int .i64 x.org, .int .i64 x.age]) (.agg #[.bool y.has, .int .i64 y.val, .int .i64 y.org, .int .i64 y.age])).run Tryz.prog W = .ok (eEq x y) W := by
 rw [run_equalIn_struct _ _ _ _ _ fields_ext held_ext]
 simp [go_sem, Op.eqFields, Tryz.underlying34, Tryz.underlying94, Tryz.underlying96, Tryz.underlying9, Tryz.underlying2, Tryz.underlying3, Tryz.underlying4]
 unfold eEq
 repeat' (first | split | simp_all)
theorem eqIn_state (x y : St) (W : World) : (Op.equalIn 10000 96 (.agg #[.string x.ch.name, .int .i64 x.ch.ep, .int .i64 x.ch.who, .bool x.ch.al, .int .i64 x.ch.kd, .int .i64 x.ch.sc, .bool x.has, .int .i64 x.inp, .bool x.mn.has, .int .i64 x.mn.val, .int .i64 x.mn.org, .int .i64 x.mn.age, .bool x.mx.has, .int .i64 x.mx.val, .int .i64 x.mx.org, .int .i64 x.mx.age]) (.agg #[.string y.ch.name, .int .i64 y.ch.ep, .int .i64 y.ch.who, .bool y.ch.al, .int .i64 y.ch.kd, .int .i64 y.ch.sc, .bool y.has, .int .i64 y.inp, .bool y.mn.has, .int .i64 y.mn.val, .int .i64 y.mn.org, .int .i64 y.mn.age, .bool y.mx.has, .int .i64 y.mx.val, .int .i64 y.mx.org, .int .i64 y.mx.age])).run Tryz.prog W = .ok (stEq x y) W := by
 have c1 : ∀ W, (Op.equalIn 9999 34 (.agg #[.string x.ch.name, .int .i64 x.ch.ep, .int .i64 x.ch.who, .bool x.ch.al, .int .i64 x.ch.kd, .int .i64 x.ch.sc]) (.agg #[.string y.ch.name, .int .i64 y.ch.ep, .int .i64 y.ch.who, .bool y.ch.al, .int .i64 y.ch.kd, .int .i64 y.ch.sc])).run Tryz.prog W = .ok (chEq x.ch y.ch) W := fun W => eqIn_chan 9997 _ _ W
 have c2 : ∀ W, (Op.equalIn 9999 94 (.agg #[.bool x.mn.has, .int .i64 x.mn.val, .int .i64 x.mn.org, .int .i64 x.mn.age]) (.agg #[.bool y.mn.has, .int .i64 y.mn.val, .int .i64 y.mn.org, .int .i64 y.mn.age])).run Tryz.prog W = .ok (eEq x.mn y.mn) W := fun W => eqIn_ext 9997 _ _ W
 have c3 : ∀ W, (Op.equalIn 9999 94 (.agg #[.bool x.mx.has, .int .i64 x.mx.val, .int .i64 x.mx.org, .int .i64 x.mx.age]) (.agg #[.bool y.mx.has, .int .i64 y.mx.val, .int .i64 y.mx.org, .int .i64 y.mx.age])).run Tryz.prog W = .ok (eEq x.mx y.mx) W := fun W => eqIn_ext 9997 _ _ W
 rw [run_equalIn_struct _ _ _ _ _ fields_state held_state]
 simp [go_sem, Op.eqFields, Tryz.underlying34, Tryz.underlying94, Tryz.underlying96, Tryz.underlying9, Tryz.underlying2, Tryz.underlying3, Tryz.underlying4, c1, c2, c3]
 unfold stEq
 generalize chEq x.ch y.ch = a
 generalize eEq x.mn y.mn = b
 generalize eEq x.mx y.mx = c
 cases a <;> cases b <;> cases c <;> (try simp) <;> repeat' (first | split | simp_all)
theorem eql_ext (x y : E) (W : World) : (binOp .eql 94 (.agg #[.bool x.has, .int .i64 x.val, .int .i64 x.org, .int .i64 x.age]) (.agg #[.bool y.has, .int .i64 y.val, .int .i64 y.org, .int .i64 y.age])).run Tryz.prog W = .ok (.bool (eEq x y)) W := by
 rw [run_eql_struct]
 rw [show (10000 : Nat) = 9998 + 2 from rfl, eqIn_ext]
 rfl
theorem neq_state (x y : St) (W : World) : (binOp .neq 96 (.agg #[.string x.ch.name, .int .i64 x.ch.ep, .int .i64 x.ch.who, .bool x.ch.al, .int .i64 x.ch.kd, .int .i64 x.ch.sc, .bool x.has, .int .i64 x.inp, .bool x.mn.has, .int .i64 x.mn.val, .int .i64 x.mn.org, .int .i64 x.mn.age, .bool x.mx.has, .int .i64 x.mx.val, .int .i64 x.mx.org, .int .i64 x.mx.age]) (.agg #[.string y.ch.name, .int .i64 y.ch.ep, .int .i64 y.ch.who, .bool y.ch.al, .int .i64 y.ch.kd, .int .i64 y.ch.sc, .bool y.has, .int .i64 y.inp, .bool y.mn.has, .int .i64 y.mn.val, .int .i64 y.mn.org, .int .i64 y.mn.age, .bool y.mx.has, .int .i64 y.mx.val, .int .i64 y.mx.org, .int .i64 y.mx.age])).run Tryz.prog W = .ok (.bool (!stEq x y)) W := by
 rw [run_neq_struct, eqIn_state]
 rfl
end Go.Proofs.YtkfodkbgmpbmfaaGreat
