/- Whatever the numbers and the register: eddylaw12's TradeEnds returns true. No conditions. -/
import Derived.Test.YtlcbfabdfpdcgaaL12a
import Derived.Test.YtlcbfabdfpdcgaaGain
namespace Go.Proofs.Ytlcbfabdfpdcgaa
open Go.ChangeShapes Go.WideShapes Go.ChangeAt Go.RowKit Go.Joins
set_option linter.unusedVariables false
set_option maxRecDepth 100000 in
set_option maxHeartbeats 8000000 in
theorem tradeEnds_any (me peer v wr f rest told : Int) (w : World) :
    Calls Try.prog 6 #[.int .i64 me, .int .i64 peer, .agg #[.int .i64 v, .int .i64 wr, .int .i64 f], .int .i64 rest, .int .i64 told] w fun e w' => e = .returned (.bool true) ∧ Below w.heap.size w w' := by
  have c1 := fun w => ends_any v wr f me peer rest told w
  have c2 := fun w => rends_any v wr f me peer rest told w
  have c3 := fun w => gain_any v wr f me peer rest told w
  have c4 := fun w => rgain_any v wr f me peer rest told w
  generalize endsT v wr f me peer rest told = E at *
  generalize gainT v wr f me peer rest told = G at *
  obtain ⟨x, y, e⟩ := E
  obtain ⟨⟨gh, gl⟩, ge⟩ := G
  have C1 := Lib.hid c1; have C2 := Lib.hid c2; have C3 := Lib.hid c3; have C4 := Lib.hid c4
  clear c1 c2 c3 c4
  go_enter Try.func6, Try.ntmps6
  go_wp2_with (fail)
  refine (C1.out _).mono ?_; rintro e w1 ⟨rfl, hb1⟩; obtain ⟨hc1, hf1⟩ := bcell hb1; have hz1 := hb1.size; (try simp at hz1); have hz1_0 : w.heap.size < w1.heap.size := (by omega); have hz1_0_1 : w.heap.size < w1.heap.size + 1 := (by omega); have hz1_0_2 : w.heap.size < w1.heap.size + 1 + 1 := (by omega); have hz1_0_3 : w.heap.size < w1.heap.size + 1 + 1 + 1 := (by omega)
  go_wp2_with (fail)
  refine (C2.out _).mono ?_; rintro e w2 ⟨rfl, hb2⟩; obtain ⟨hc2, hf2⟩ := bcell hb2; have hz2 := hb2.size; (try simp at hz2); have hz2_0 : w.heap.size < w2.heap.size := (by omega); have hz2_0_1 : w.heap.size < w2.heap.size + 1 := (by omega); have hz2_0_2 : w.heap.size < w2.heap.size + 1 + 1 := (by omega); have hz2_0_3 : w.heap.size < w2.heap.size + 1 + 1 + 1 := (by omega)
  go_wp2_with (fail)
  refine (C3.out _).mono ?_; rintro e w3 ⟨rfl, hb3⟩; obtain ⟨hc3, hf3⟩ := bcell hb3; have hz3 := hb3.size; (try simp at hz3); have hz3_0 : w.heap.size < w3.heap.size := (by omega); have hz3_0_1 : w.heap.size < w3.heap.size + 1 := (by omega); have hz3_0_2 : w.heap.size < w3.heap.size + 1 + 1 := (by omega); have hz3_0_3 : w.heap.size < w3.heap.size + 1 + 1 + 1 := (by omega)
  go_wp2_with (fail)
  refine (C4.out _).mono ?_; rintro e w4 ⟨rfl, hb4⟩; obtain ⟨hc4, hf4⟩ := bcell hb4; have hz4 := hb4.size; (try simp at hz4); have hz4_0 : w.heap.size < w4.heap.size := (by omega); have hz4_0_1 : w.heap.size < w4.heap.size + 1 := (by omega); have hz4_0_2 : w.heap.size < w4.heap.size + 1 + 1 := (by omega); have hz4_0_3 : w.heap.size < w4.heap.size + 1 + 1 + 1 := (by omega); have hz4_1 : w3.heap.size < w4.heap.size := (by omega); have hz4_1_1 : w3.heap.size < w4.heap.size + 1 := (by omega); have hz4_1_2 : w3.heap.size < w4.heap.size + 1 + 1 := (by omega); have hz4_1_3 : w3.heap.size < w4.heap.size + 1 + 1 + 1 := (by omega)
  go_wp2_with (fail)
  refine (awake_any _).mono ?_; rintro e w5 ⟨rfl, hb5⟩; obtain ⟨hc5, hf5⟩ := bcell hb5; have hz5 := hb5.size; (try simp at hz5)
  go_wp2
  go_ret
  exact ⟨rfl, (by repeat (first | with_reducible refine Below.setCell ?_ (by first | (simp; done) | (simp; omega) | omega) _ | with_reducible refine Below.alloc ?_ (by first | (simp; done) | (simp; omega) | omega) _ | with_reducible refine Below.drew ?_ | with_reducible exact Below.refl _ _ | with_reducible refine Below.trans ?_ (Below.mono hb5 (by first | (simp; done) | (simp; omega) | omega)) | with_reducible refine Below.trans ?_ (Below.mono hb4 (by first | (simp; done) | (simp; omega) | omega)) | with_reducible refine Below.trans ?_ (Below.mono hb3 (by first | (simp; done) | (simp; omega) | omega)) | with_reducible refine Below.trans ?_ (Below.mono hb2 (by first | (simp; done) | (simp; omega) | omega)) | with_reducible refine Below.trans ?_ (Below.mono hb1 (by first | (simp; done) | (simp; omega) | omega))))⟩

theorem tradeEnds_lifted (os : Os) (started : os.Started) (H : Type) (enc : TypeId × Value → H) :
    ReturnsInHanded {} Try.checked os 6 .any (Rows.tradeEndsSpec.pre6 enc Try.prog Try.f6 Rows.tradeEndsRow.domain false) (Rows.tradeEndsSpec.post enc Try.prog Try.f6 false true false false) := by
  refine returnsInHanded_of_change_sized (C := Try.checked) own started (by kernel_rfl) Try.func6
    (ChangeSpec.witness6 (enc := enc) (C := Try.checked) false ⟨#[], #[.int .i64 0, .int .i64 0, .agg #[.int .i64 0, .int .i64 0, .int .i64 0], .int .i64 0, .int .i64 0], []⟩ 8 (by kernel_rfl) (by kernel_rfl) (by kernel_rfl) (by kernel_rfl)) ?_
  intro W base args ds gs before hval hW _ hsz _
  have hW' := hW
  obtain ⟨p, q, hA, hV, rfl, hfz, hnd⟩ := hW
  obtain ⟨rfl, rfl⟩ := trodVars_none hV
  rw [Try.params6] at hA hval
  obtain ⟨v0, vs0, d0, ds0, p0, q0, hargs, rfl, rfl, h0, r0⟩ := trodAll_cons hA
  obtain ⟨v1, vs1, d1, ds1, p1, q1, rfl, rfl, rfl, h1, r1⟩ := trodAll_cons r0
  obtain ⟨v2, vs2, d2, ds2, p2, q2, rfl, rfl, rfl, h2, r2⟩ := trodAll_cons r1
  obtain ⟨v3, vs3, d3, ds3, p3, q3, rfl, rfl, rfl, h3, r3⟩ := trodAll_cons r2
  obtain ⟨v4, vs4, d4, ds4, p4, q4, rfl, rfl, rfl, h4, r4⟩ := trodAll_cons r3
  obtain ⟨rfl, rfl, rfl⟩ := trodAll_nil r4
  obtain rfl : args = #[v0, v1, v2, v3, v4] := by cases args; simp_all
  obtain ⟨me, rfl, _, _, wa⟩ := open_int Try.underlying3 (hval 0 _ v0 rfl rfl) h0
  obtain ⟨peer, rfl, _, _, wb⟩ := open_int Try.underlying3 (hval 1 _ v1 rfl rfl) h1
  obtain ⟨v, wr, f, rfl, _, _, _⟩ := open_reg (hval 2 _ v2 rfl rfl) h2
  obtain ⟨rest, rfl, _, _, wam⟩ := open_int Try.underlying2 (hval 3 _ v3 rfl rfl) h3
  obtain ⟨told, rfl, _, _, wk⟩ := open_int Try.underlying2 (hval 4 _ v4 rfl rfl) h4
  refine (tradeEnds_any me peer v wr f rest told W).mono fun e W' ⟨he, hg⟩ => ?_
  subst he
  exact ⟨_, rfl, law_post laidOut rfl (by kernel_rfl) rfl Try.underlying4 rfl hW' hg⟩

theorem tradeEnds_holds : Rows.TradeEndsSaid :=
  OpenClaim.holds_of_wide 6 Try.f6 rfl rfl rfl rfl rfl rfl rfl ⟨rfl, rfl, rfl, rfl, rfl⟩ rfl rfl rfl rfl rfl (by kernel_rfl) Try.func6 (by kernel_rfl)
    (of_decide_eq_true (by kernel_rfl)) (by unfold Func.isWrapper; first | (rw [if_pos (by decide +kernel)]; kernel_rfl) | (rw [if_neg (by decide +kernel)]; exact ⟨rfl, rfl⟩))
    (fun os started H enc _ => tradeEnds_lifted os started H enc)

end Go.Proofs.Ytlcbfabdfpdcgaa
