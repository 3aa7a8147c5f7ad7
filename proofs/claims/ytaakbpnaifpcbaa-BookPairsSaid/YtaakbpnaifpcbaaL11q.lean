/- Whatever the arguments: eddylaw11's BookPairs returns true. No conditions. -/
import Derived.Test.YtaakbpnaifpcbaaL11p
import Derived.Test.YtaakbpnaifpcbaaOpn
namespace Go.Proofs.Ytaakbpnaifpcbaa
open Go.ChangeShapes Go.WideShapes Go.ChangeAt Go.RowKit Go.Joins Go.ChangeMaps Go.Deep
set_option linter.unusedVariables false
set_option maxRecDepth 100000
section
variable {H : Type} {enc : TypeId × Value → H} {w : World} {base b0 : Nat} {spare : Nat → Bool} {held : Bool}
theorem kp_int64 : Try.prog.cellsOf 2 = 1 := by kernel_rfl
theorem kp_int : Try.prog.cellsOf 3 = 1 := by kernel_rfl
theorem cells_pair : Try.prog.cellsOf 27 = 3 := by kernel_rfl
theorem trod_i64 {fuel : Nat} {cs : List Value} {x : DataW H × List MemPlace} (h : DataW.trod enc Try.prog w base spare held fuel 2 cs = some x) : ∃ y : Int, cs = [.int .i64 y] ∧ (-9223372036854775808 ≤ y ∧ y < 9223372036854775808) := by
  obtain ⟨z, e, _, hw⟩ := DataW.trod_int Try.underlying2 h
  exact ⟨z, e, by have := bounds_i64 hw; omega⟩
theorem trod_pair {fuel : Nat} {cs : List Value} {x : DataW H × List MemPlace} (h : DataW.trod enc Try.prog w base spare held fuel 27 cs = some x) : ∃ y : Pr, cs = encP y ∧ True := by
  obtain ⟨xs, n, rfl, rfl, hl, hx, hf⟩ := DataW.trod_struct Try.underlying27 h
  rw [cells_pair] at hl
  match cs, hl with
  | [a0, a1, a2], _ =>
  have f0 := hf 0 _ rfl
  rw [List.getElem?_eq_getElem (show 0 < xs.length by rw [hx]; decide)] at f0
  simp [kp_int] at f0
  obtain ⟨z0, e0, _⟩ := DataW.trod_int Try.underlying3 f0
  obtain rfl := (List.cons.inj e0).1
  have f1 := hf 1 _ rfl
  rw [List.getElem?_eq_getElem (show 1 < xs.length by rw [hx]; decide)] at f1
  simp [kp_int] at f1
  obtain ⟨z1, e1, _⟩ := DataW.trod_int Try.underlying3 f1
  obtain rfl := (List.cons.inj e1).1
  have f2 := hf 2 _ rfl
  rw [List.getElem?_eq_getElem (show 2 < xs.length by rw [hx]; decide)] at f2
  simp [kp_int64] at f2
  obtain ⟨z2, e2, _⟩ := DataW.trod_int Try.underlying2 f2
  obtain rfl := (List.cons.inj e2).1
  exact ⟨⟨z0, z1, z2⟩, rfl, trivial⟩
theorem flat_i64 (xs : List Int) : flatE (fun x : Int => [Value.int .i64 x]) xs = xs.map (Value.int .i64) := by
  unfold flatE
  induction xs with
  | nil => rfl
  | cons x xs ih => simp [ih]
end
theorem bookPairs_lifted (os : Os) (started : os.Started) (H : Type) (enc : TypeId × Value → H) :
    ReturnsInHanded {} Try.checked os 3 .any (Rows.bookPairsSpec.pre6 enc Try.prog Try.f3 Rows.bookPairsRow.domain false) (Rows.bookPairsSpec.post enc Try.prog Try.f3 false true false false) := by
  refine returnsInHanded_of_change_sized (C := Try.checked) own started (by kernel_rfl) Try.func3
    (ChangeSpec.witness6 (enc := enc) (C := Try.checked) false ⟨#[], #[.slice none 0 0, .slice none 0 0], []⟩ 8 (by kernel_rfl) (by kernel_rfl) (by kernel_rfl) (by kernel_rfl)) ?_
  intro W base args ds gs before hval hW _ hsz _
  have hW' := hW
  obtain ⟨p, q, hA, hV, rfl, hfz, hnd⟩ := hW
  obtain ⟨rfl, rfl⟩ := trodVars_none hV
  rw [Try.params3] at hA hval
  obtain ⟨v0, vs0, d0, ds0, p0, q0, hargs, rfl, rfl, h0, r0⟩ := trodAll_cons hA
  obtain ⟨v1, vs1, d1, ds1, p1, q1, rfl, rfl, rfl, h1, r1⟩ := trodAll_cons r0
  obtain ⟨rfl, rfl, rfl⟩ := trodAll_nil r1
  obtain rfl : args = #[v0, v1] := by cases args; simp_all
  obtain ⟨A0, n0, c0, ins, rfl, _, hr0, hi0, hd0⟩ := open_rows (enc2 := fun x : Int => [Value.int .i64 x]) (k := 1) (fun _ => rfl) (by omega) 0 Try.underlying22 kp_int64 (fun _ _ _ h => trod_i64 h) (hval 0 _ v0 rfl rfl) h0
  obtain ⟨A1, n1, c1, ps, rfl, _, hr1, _, hd1⟩ := open_rows (enc2 := encP) (k := 3) encP_len (by omega) ⟨0, 0, 0⟩ Try.underlying23 cells_pair (fun _ _ _ h => trod_pair h) (hval 1 _ v1 rfl rfl) h1
  have hr0' := RowsE.reads (k := 1) (enc := fun x : Int => [Value.int .i64 x]) (fun _ => rfl) hr0
  rw [flat_i64] at hr0'
  refine (bookPairs_any A0 n0 c0 ins A1 n1 c1 ps W hr0' hi0 (by unfold maxLen at *; omega) hr1 (small_rows hsz (j := 1) rfl rfl Try.underlying23 (by kernel_rfl) hd1)).mono fun e W' ⟨he, hg⟩ => ?_
  subst he
  exact ⟨_, rfl, law_post laidOut rfl (by kernel_rfl) rfl Try.underlying4 rfl hW' hg⟩

theorem bookPairs_holds : Rows.BookPairsSaid :=
  OpenClaim.holds_of_wide 3 Try.f3 rfl rfl rfl rfl rfl rfl rfl ⟨rfl, rfl, rfl, rfl, rfl⟩ rfl rfl rfl rfl rfl (by kernel_rfl) Try.func3 (by kernel_rfl)
    (of_decide_eq_true (by kernel_rfl)) (by unfold Func.isWrapper; first | (rw [if_pos (by decide +kernel)]; kernel_rfl) | (rw [if_neg (by decide +kernel)]; exact ⟨rfl, rfl⟩))
    (fun os started H enc _ => bookPairs_lifted os started H enc)

end Go.Proofs.Ytaakbpnaifpcbaa
