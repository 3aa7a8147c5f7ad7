/- Two links, two packets compared: what the comparison tells, for every two. -/
import Derived.Test.YtdaobbffhfbceaaBgL
import Derived.WalkKit
import Derived.WalkSpells
import Derived.WalkLawsBesides
namespace Go.Proofs.Ytdaobbffhfbceaa
open Go.RowKit
set_option linter.unusedVariables false
set_option linter.unusedSimpArgs false
set_option maxRecDepth 100000
def lEq (x y : LK) : Bool := x.1 == y.1 && x.2 == y.2
def dEq (x y : Dg) : Bool := x.num == y.num && (x.frm == y.frm && (x.dst == y.dst && x.body.toList == y.body.toList))
theorem bytesList_inj {a b : ByteArray} (h : a.toList = b.toList) : a = b := by
  rw [ByteArray.toList_eq, ByteArray.toList_eq] at h
  exact Go.WideShapes.bytes_inj h
theorem lEq_iff {x y : LK} : lEq x y = true ↔ x = y := by
  obtain ⟨a, b⟩ := x
  obtain ⟨c, d⟩ := y
  simp [lEq]
theorem dEq_iff {x y : Dg} : dEq x y = true ↔ x = y := by
  obtain ⟨a, b, c, d⟩ := x
  obtain ⟨a2, b2, c2, d2⟩ := y
  simp only [dEq, Bool.and_eq_true, beq_iff_eq, Dg.mk.injEq]
  exact ⟨fun ⟨h1, h2, h3, h⟩ => ⟨h1, h2, h3, bytesList_inj h⟩, fun ⟨h1, h2, h3, h⟩ => ⟨h1, h2, h3, by rw [h]⟩⟩
theorem dEq_self (x : Dg) : dEq x x = true := dEq_iff.2 rfl
theorem lEq_self (x : LK) : lEq x x = true := lEq_iff.2 rfl
theorem lEq_beq (x y : LK) : lEq x y = (x == y) := by
  rw [Bool.eq_iff_iff, lEq_iff, beq_iff_eq]
theorem fields_link : Try.prog.underlying 64 = some (.struct (Try.prog.fieldsOf 64)) := by kernel_rfl
theorem fields_dg : Try.prog.underlying 33 = some (.struct (Try.prog.fieldsOf 33)) := by kernel_rfl
theorem held_link : Try.prog.stoodInHeld 64 = false := by kernel_rfl
theorem held_dg : Try.prog.stoodInHeld 33 = false := by kernel_rfl
theorem eqIn_link (d : Nat) (x y : LK) (W : World) : (Op.equalIn (d + 2) 64 (lAgg x) (lAgg y)).run Try.prog W = .ok (lEq x y) W := by
  rw [run_equalIn_struct _ _ _ _ _ fields_link held_link]
  simp [go_sem, Op.eqFields, Try.underlying64, Try.underlying3]
  unfold lEq
  repeat' (first | split | simp_all)
theorem eqIn_dg (d : Nat) (x y : Dg) (W : World) : (Op.equalIn (d + 2) 33 (dAgg x) (dAgg y)).run Try.prog W = .ok (dEq x y) W := by
  rw [run_equalIn_struct _ _ _ _ _ fields_dg held_dg]
  simp [go_sem, Op.eqFields, Try.underlying33, Try.underlying3, Try.underlying2, Try.underlying9]
  unfold dEq
  repeat' (first | split | simp_all)
theorem eql_link (x y : LK) (W : World) : (binOp .eql 64 (lAgg x) (lAgg y)).run Try.prog W = .ok (.bool (lEq x y)) W := by
  rw [run_eql_struct]
  rw [show (10000 : Nat) = 9998 + 2 from rfl, eqIn_link]
  rfl
theorem neq_link (x y : LK) (W : World) : (binOp .neq 64 (lAgg x) (lAgg y)).run Try.prog W = .ok (.bool (!lEq x y)) W := by
  rw [run_neq_struct]
  rw [show (10000 : Nat) = 9998 + 2 from rfl, eqIn_link]
  rfl
theorem eql_dg (x y : Dg) (W : World) : (binOp .eql 33 (dAgg x) (dAgg y)).run Try.prog W = .ok (.bool (dEq x y)) W := by
  rw [run_eql_struct]
  rw [show (10000 : Nat) = 9998 + 2 from rfl, eqIn_dg]
  rfl
theorem neq_dg (x y : Dg) (W : World) : (binOp .neq 33 (dAgg x) (dAgg y)).run Try.prog W = .ok (.bool (!dEq x y)) W := by
  rw [run_neq_struct]
  rw [show (10000 : Nat) = 9998 + 2 from rfl, eqIn_dg]
  rfl
end Go.Proofs.Ytdaobbffhfbceaa
