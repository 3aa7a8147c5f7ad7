/- Whatever two numbers: eddylaw01's NumTells returns true. No conditions. -/
import Derived.Test.YtmgpknadefhikaaAwk
namespace Go.Proofs.Ytmgpknadefhikaa
open Go.ChangeShapes Go.WideShapes Go.ChangeAt Go.RowKit Go.Joins
set_option linter.unusedVariables false
set_option maxHeartbeats 4000000 in
theorem numTells_any (a b : Int) (w : World) :
    Calls Try.prog 4 #[.int .i64 a, .int .i64 b] w fun e w' => e = .returned (.bool true) ∧ Below w.heap.size w w' := by
  have c0 := fun w => nadd_any a b w
  have d0 := fun w => nradd_any a b w
  generalize addN a b = R0 at *
  obtain ⟨x0, y0⟩ := R0
  have c1 := fun w => nsub_any a b w
  have d1 := fun w => nrsub_any a b w
  generalize subN a b = R1 at *
  obtain ⟨x1, y1⟩ := R1
  have c2 := fun w => nmul_any a b w
  have d2 := fun w => nrmul_any a b w
  generalize mulN a b = R2 at *
  obtain ⟨x2, y2⟩ := R2
  have c3 := fun w => nhalf_any a b w
  have d3 := fun w => nrhalf_any a b w
  generalize halfN a b = R3 at *
  obtain ⟨x3, y3⟩ := R3
  have C0 := Lib.hid c0; have D0 := Lib.hid d0; clear c0 d0
  have C1 := Lib.hid c1; have D1 := Lib.hid d1; clear c1 d1
  have C2 := Lib.hid c2; have D2 := Lib.hid d2; clear c2 d2
  have C3 := Lib.hid c3; have D3 := Lib.hid d3; clear c3 d3
  have c4 := fun w => nfits_any a w
  have d4 := fun w => nrfits_any a w
  generalize flowsB a = f at *
  have C4 := Lib.hid c4; have D4 := Lib.hid d4; clear c4 d4
  go_enter Try.func4, Try.ntmps4
  go_wp2_with (fail)
  refine (C0.out _).mono ?_; rintro e w' ⟨rfl, rfl⟩
  go_wp2_with (fail)
  refine (D0.out _).mono ?_; rintro e w' ⟨rfl, rfl⟩
  go_wp2_with (fail)
  refine (C4.out _).mono ?_; rintro e w' ⟨rfl, rfl⟩
  go_wp2_with (fail)
  refine (D4.out _).mono ?_; rintro e w' ⟨rfl, rfl⟩
  go_wp2_with (fail)
  refine (C1.out _).mono ?_; rintro e w' ⟨rfl, rfl⟩
  go_wp2_with (fail)
  refine (D1.out _).mono ?_; rintro e w' ⟨rfl, rfl⟩
  go_wp2_with (fail)
  refine (C2.out _).mono ?_; rintro e w' ⟨rfl, rfl⟩
  go_wp2_with (fail)
  refine (D2.out _).mono ?_; rintro e w' ⟨rfl, rfl⟩
  go_wp2_with (fail)
  refine (C3.out _).mono ?_; rintro e w' ⟨rfl, rfl⟩
  go_wp2_with (fail)
  refine (D3.out _).mono ?_; rintro e w' ⟨rfl, rfl⟩
  go_wp2_with (fail)
  refine (awake_any _).mono ?_; rintro e w1 ⟨rfl, hb1⟩; obtain ⟨hc1, hf1⟩ := bcell hb1; have hz1 := hb1.size; (try simp at hz1)
  go_wp2
  go_ret
  exact ⟨rfl, (by repeat (first | with_reducible refine Below.setCell ?_ (by first | (simp; done) | (simp; omega) | omega) _ | with_reducible refine Below.alloc ?_ (by first | (simp; done) | (simp; omega) | omega) _ | with_reducible refine Below.drew ?_ | with_reducible exact Below.refl _ _ | with_reducible refine Below.trans ?_ (Below.mono hb1 (by first | (simp; done) | (simp; omega) | omega))))⟩
theorem numTells_lifted (os : Os) (started : os.Started) (H : Type) (enc : TypeId × Value → H) :
    ReturnsInHanded {} Try.checked os 4 .any (Rows.numTellsSpec.pre6 enc Try.prog Try.f4 Rows.numTellsRow.domain false) (Rows.numTellsSpec.post enc Try.prog Try.f4 false true false false) := by
  refine returnsInHanded_of_change_sized (C := Try.checked) own started (by kernel_rfl) Try.func4
    (ChangeSpec.witness6 (enc := enc) (C := Try.checked) false ⟨#[], #[.int .i64 0, .int .i64 0], []⟩ 8 (by kernel_rfl) (by kernel_rfl) (by kernel_rfl) (by kernel_rfl)) ?_
  intro W base args ds gs before hval hW _ hsz _
  have hW' := hW
  obtain ⟨p, q, hA, hV, rfl, hfz, hnd⟩ := hW
  obtain ⟨rfl, rfl⟩ := trodVars_none hV
  rw [Try.params4] at hA hval
  obtain ⟨v0, vs0, d0, ds0, p0, q0, hargs, rfl, rfl, h0, r0⟩ := trodAll_cons hA
  obtain ⟨v1, vs1, d1, ds1, p1, q1, rfl, rfl, rfl, h1, r1⟩ := trodAll_cons r0
  obtain ⟨rfl, rfl, rfl⟩ := trodAll_nil r1
  obtain rfl : args = #[v0, v1] := by cases args; simp_all
  obtain ⟨a, rfl, _, _, wa⟩ := open_int Try.underlying2 (hval 0 _ v0 rfl rfl) h0
  obtain ⟨b, rfl, _, _, wb⟩ := open_int Try.underlying2 (hval 1 _ v1 rfl rfl) h1
  refine (numTells_any a b W).mono fun e W' ⟨he, hg⟩ => ?_
  subst he
  exact ⟨_, rfl, law_post laidOut rfl (by kernel_rfl) rfl Try.underlying4 rfl hW' hg⟩

theorem numTells_holds : Rows.NumTellsSaid :=
  OpenClaim.holds_of_wide 4 Try.f4 rfl rfl rfl rfl rfl rfl rfl ⟨rfl, rfl, rfl, rfl, rfl⟩ rfl rfl rfl rfl rfl (by kernel_rfl) Try.func4 (by kernel_rfl)
    (of_decide_eq_true (by kernel_rfl)) (by unfold Func.isWrapper; first | (rw [if_pos (by decide +kernel)]; kernel_rfl) | (rw [if_neg (by decide +kernel)]; exact ⟨rfl, rfl⟩))
    (fun os started H enc _ => numTells_lifted os started H enc)

end Go.Proofs.Ytmgpknadefhikaa
