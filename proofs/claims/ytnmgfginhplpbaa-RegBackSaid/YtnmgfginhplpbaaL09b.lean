/- Whatever the registers and numbers: eddylaw09's RegTells and RegBack return true. No conditions. -/
import Derived.Test.YtnmgfginhplpbaaL09a
import Derived.Test.YtnmgfginhplpbaaQuiet
import Derived.Outline
namespace Go.Proofs.Ytnmgfginhplpbaa
open Go.ChangeShapes Go.WideShapes Go.ChangeAt Go.RowKit Go.Joins Go.BigFrame
set_option linter.unusedVariables false
set_option maxHeartbeats 4000000 in
theorem regTells_same (v wr f a b : Int) (w : World) :
    Calls Try.prog 5 #[.agg #[.int .i64 v, .int .i64 wr, .int .i64 f], .agg #[.int .i64 v, .int .i64 wr, .int .i64 f], .int .i64 a, .int .i64 b] w fun e w' => e = .returned (.bool true) ∧ Below w.heap.size w w' := by
  go_enter Try.func5, Try.ntmps5
  go_wp2
  refine wp_region_quietC_lit (KeptC w [(⟨w.heap.size, 0, none⟩, .int .i64 v), (⟨w.heap.size, 1, none⟩, .int .i64 wr), (⟨w.heap.size, 2, none⟩, .int .i64 f), (⟨w.heap.size + 1, 0, none⟩, .int .i64 v), (⟨w.heap.size + 1, 1, none⟩, .int .i64 wr), (⟨w.heap.size + 1, 2, none⟩, .int .i64 f)]) (by kernel_rfl) (by kernel_rfl) ?_ ?_
  · refine KeptC.drewn ?_
    repeat' (first | refine KeptC.cons ?_ ?_ | refine KeptC.mk0 ?_)
    all_goals (first | assumption | (go_simp; done) | exact (by repeat (first | exact Below.refl _ _ | refine Below.setCell ?_ (by first | (simp; done) | (simp; omega) | omega) _ | refine Below.alloc ?_ (by first | (simp; done) | (simp; omega) | omega) _ | refine Below.drew ?_)))
  repeat (first
    | go_big_quiet_skip
    | (go_big_quiet_want; (apply quietC_run); (· intro w' hw'; (have hk' := hw'; simp only [KeptC, List.forall_mem_cons] at hk'; go_split_ands); go_simp; first | done | rfl); (simp only [Act.put, List.setIfInBounds_toArray, List.set_cons_zero, List.set_cons_succ]; go_big_quiet_on))
    | (go_big_quiet_want; (apply quietC_call); (· intro w' hw'; go_simp; first | done | exact ⟨rfl, rfl⟩ | rfl); (· intro w' hw'; first | (refine (fit_any _ _ _ _ _ _).mono ?_; rintro e w2 ⟨rfl, hb⟩; exact ⟨rfl, hw'.below hb⟩) | (refine (rfit_any _ _ _ _ _ _).mono ?_; rintro e w2 ⟨rfl, hb⟩; exact ⟨rfl, hw'.below hb⟩) | (refine (newer_any _ _ _ _ _ _ _).mono ?_; rintro e w2 ⟨rfl, hb⟩; exact ⟨rfl, hw'.below hb⟩) | (refine (rnewer_any _ _ _ _ _ _ _).mono ?_; rintro e w2 ⟨rfl, hb⟩; exact ⟨rfl, hw'.below hb⟩) | (refine (merge_any _ _ _ _ _ _ _).mono ?_; rintro e w2 ⟨rfl, hb⟩; exact ⟨rfl, hw'.below hb⟩) | (refine (rmerge_any _ _ _ _ _ _ _).mono ?_; rintro e w2 ⟨rfl, hb⟩; exact ⟨rfl, hw'.below hb⟩) | (refine (agree_any _ _ _ _ _ _ _).mono ?_; rintro e w2 ⟨rfl, hb⟩; exact ⟨rfl, hw'.below hb⟩) | (refine (out_any _ _ _ _ _ _).mono ?_; rintro e w2 ⟨rfl, hb⟩; exact ⟨rfl, hw'.below hb⟩) | (refine (rout_any _ _ _ _ _ _).mono ?_; rintro e w2 ⟨rfl, hb⟩; exact ⟨rfl, hw'.below hb⟩) | (refine (awake_any _).mono ?_; rintro e w2 ⟨rfl, hb⟩; exact ⟨rfl, hw'.below hb⟩)); (simp only [Act.put, List.setIfInBounds_toArray, List.set_cons_zero, List.set_cons_succ]; go_big_quiet_on)))
  refine wpQuiet_nil ?_
  intro w1 hk1
  (have hk' := hk1; simp only [KeptC, List.forall_mem_cons] at hk'; go_split_ands)
  go_wp2
  go_ret
  exact ⟨rfl, hk1.1⟩
set_option maxHeartbeats 4000000 in
theorem regTells_ver (v wr f v2 wr2 f2 a b : Int) (w : World) (h : (v == v2) = false) (h2 : decide (v = v2) = false) :
    Calls Try.prog 5 #[.agg #[.int .i64 v, .int .i64 wr, .int .i64 f], .agg #[.int .i64 v2, .int .i64 wr2, .int .i64 f2], .int .i64 a, .int .i64 b] w fun e w' => e = .returned (.bool true) ∧ Below w.heap.size w w' := by
  go_enter Try.func5, Try.ntmps5
  go_wp2
  refine wp_region_quietC_lit (KeptC w [(⟨w.heap.size, 0, none⟩, .int .i64 v), (⟨w.heap.size, 1, none⟩, .int .i64 wr), (⟨w.heap.size, 2, none⟩, .int .i64 f), (⟨w.heap.size + 1, 0, none⟩, .int .i64 v2), (⟨w.heap.size + 1, 1, none⟩, .int .i64 wr2), (⟨w.heap.size + 1, 2, none⟩, .int .i64 f2)]) (by kernel_rfl) (by kernel_rfl) ?_ ?_
  · refine KeptC.drewn ?_
    repeat' (first | refine KeptC.cons ?_ ?_ | refine KeptC.mk0 ?_)
    all_goals (first | assumption | (go_simp; done) | exact (by repeat (first | exact Below.refl _ _ | refine Below.setCell ?_ (by first | (simp; done) | (simp; omega) | omega) _ | refine Below.alloc ?_ (by first | (simp; done) | (simp; omega) | omega) _ | refine Below.drew ?_)))
  repeat (first
    | go_big_quiet_skip
    | (go_big_quiet_want; (apply quietC_run); (· intro w' hw'; (have hk' := hw'; simp only [KeptC, List.forall_mem_cons] at hk'; go_split_ands); go_simp; first | done | rfl); (simp only [Act.put, List.setIfInBounds_toArray, List.set_cons_zero, List.set_cons_succ]; go_big_quiet_on))
    | (go_big_quiet_want; (apply quietC_call); (· intro w' hw'; go_simp; first | done | exact ⟨rfl, rfl⟩ | rfl); (· intro w' hw'; first | (refine (fit_any _ _ _ _ _ _).mono ?_; rintro e w2 ⟨rfl, hb⟩; exact ⟨rfl, hw'.below hb⟩) | (refine (rfit_any _ _ _ _ _ _).mono ?_; rintro e w2 ⟨rfl, hb⟩; exact ⟨rfl, hw'.below hb⟩) | (refine (newer_any _ _ _ _ _ _ _).mono ?_; rintro e w2 ⟨rfl, hb⟩; exact ⟨rfl, hw'.below hb⟩) | (refine (rnewer_any _ _ _ _ _ _ _).mono ?_; rintro e w2 ⟨rfl, hb⟩; exact ⟨rfl, hw'.below hb⟩) | (refine (merge_any _ _ _ _ _ _ _).mono ?_; rintro e w2 ⟨rfl, hb⟩; exact ⟨rfl, hw'.below hb⟩) | (refine (rmerge_any _ _ _ _ _ _ _).mono ?_; rintro e w2 ⟨rfl, hb⟩; exact ⟨rfl, hw'.below hb⟩) | (refine (agree_any _ _ _ _ _ _ _).mono ?_; rintro e w2 ⟨rfl, hb⟩; exact ⟨rfl, hw'.below hb⟩) | (refine (out_any _ _ _ _ _ _).mono ?_; rintro e w2 ⟨rfl, hb⟩; exact ⟨rfl, hw'.below hb⟩) | (refine (rout_any _ _ _ _ _ _).mono ?_; rintro e w2 ⟨rfl, hb⟩; exact ⟨rfl, hw'.below hb⟩) | (refine (awake_any _).mono ?_; rintro e w2 ⟨rfl, hb⟩; exact ⟨rfl, hw'.below hb⟩)); (simp only [Act.put, List.setIfInBounds_toArray, List.set_cons_zero, List.set_cons_succ]; go_big_quiet_on)))
  refine wpQuiet_nil ?_
  intro w1 hk1
  (have hk' := hk1; simp only [KeptC, List.forall_mem_cons] at hk'; go_split_ands)
  go_wp2
  go_ret
  exact ⟨rfl, hk1.1⟩
set_option maxHeartbeats 4000000 in
theorem regTells_wr (v wr f wr2 f2 a b : Int) (w : World) (h : (wr == wr2) = false) (h2 : decide (wr = wr2) = false) :
    Calls Try.prog 5 #[.agg #[.int .i64 v, .int .i64 wr, .int .i64 f], .agg #[.int .i64 v, .int .i64 wr2, .int .i64 f2], .int .i64 a, .int .i64 b] w fun e w' => e = .returned (.bool true) ∧ Below w.heap.size w w' := by
  go_enter Try.func5, Try.ntmps5
  go_wp2
  refine wp_region_quietC_lit (KeptC w [(⟨w.heap.size, 0, none⟩, .int .i64 v), (⟨w.heap.size, 1, none⟩, .int .i64 wr), (⟨w.heap.size, 2, none⟩, .int .i64 f), (⟨w.heap.size + 1, 0, none⟩, .int .i64 v), (⟨w.heap.size + 1, 1, none⟩, .int .i64 wr2), (⟨w.heap.size + 1, 2, none⟩, .int .i64 f2)]) (by kernel_rfl) (by kernel_rfl) ?_ ?_
  · refine KeptC.drewn ?_
    repeat' (first | refine KeptC.cons ?_ ?_ | refine KeptC.mk0 ?_)
    all_goals (first | assumption | (go_simp; done) | exact (by repeat (first | exact Below.refl _ _ | refine Below.setCell ?_ (by first | (simp; done) | (simp; omega) | omega) _ | refine Below.alloc ?_ (by first | (simp; done) | (simp; omega) | omega) _ | refine Below.drew ?_)))
  repeat (first
    | go_big_quiet_skip
    | (go_big_quiet_want; (apply quietC_run); (· intro w' hw'; (have hk' := hw'; simp only [KeptC, List.forall_mem_cons] at hk'; go_split_ands); go_simp; first | done | rfl); (simp only [Act.put, List.setIfInBounds_toArray, List.set_cons_zero, List.set_cons_succ]; go_big_quiet_on))
    | (go_big_quiet_want; (apply quietC_call); (· intro w' hw'; go_simp; first | done | exact ⟨rfl, rfl⟩ | rfl); (· intro w' hw'; first | (refine (fit_any _ _ _ _ _ _).mono ?_; rintro e w2 ⟨rfl, hb⟩; exact ⟨rfl, hw'.below hb⟩) | (refine (rfit_any _ _ _ _ _ _).mono ?_; rintro e w2 ⟨rfl, hb⟩; exact ⟨rfl, hw'.below hb⟩) | (refine (newer_any _ _ _ _ _ _ _).mono ?_; rintro e w2 ⟨rfl, hb⟩; exact ⟨rfl, hw'.below hb⟩) | (refine (rnewer_any _ _ _ _ _ _ _).mono ?_; rintro e w2 ⟨rfl, hb⟩; exact ⟨rfl, hw'.below hb⟩) | (refine (merge_any _ _ _ _ _ _ _).mono ?_; rintro e w2 ⟨rfl, hb⟩; exact ⟨rfl, hw'.below hb⟩) | (refine (rmerge_any _ _ _ _ _ _ _).mono ?_; rintro e w2 ⟨rfl, hb⟩; exact ⟨rfl, hw'.below hb⟩) | (refine (agree_any _ _ _ _ _ _ _).mono ?_; rintro e w2 ⟨rfl, hb⟩; exact ⟨rfl, hw'.below hb⟩) | (refine (out_any _ _ _ _ _ _).mono ?_; rintro e w2 ⟨rfl, hb⟩; exact ⟨rfl, hw'.below hb⟩) | (refine (rout_any _ _ _ _ _ _).mono ?_; rintro e w2 ⟨rfl, hb⟩; exact ⟨rfl, hw'.below hb⟩) | (refine (awake_any _).mono ?_; rintro e w2 ⟨rfl, hb⟩; exact ⟨rfl, hw'.below hb⟩)); (simp only [Act.put, List.setIfInBounds_toArray, List.set_cons_zero, List.set_cons_succ]; go_big_quiet_on)))
  refine wpQuiet_nil ?_
  intro w1 hk1
  (have hk' := hk1; simp only [KeptC, List.forall_mem_cons] at hk'; go_split_ands)
  go_wp2
  go_ret
  exact ⟨rfl, hk1.1⟩
set_option maxHeartbeats 4000000 in
theorem regTells_flow (v wr f f2 a b : Int) (w : World) (h : (f == f2) = false) (h2 : decide (f = f2) = false) :
    Calls Try.prog 5 #[.agg #[.int .i64 v, .int .i64 wr, .int .i64 f], .agg #[.int .i64 v, .int .i64 wr, .int .i64 f2], .int .i64 a, .int .i64 b] w fun e w' => e = .returned (.bool true) ∧ Below w.heap.size w w' := by
  go_enter Try.func5, Try.ntmps5
  go_wp2
  refine wp_region_quietC_lit (KeptC w [(⟨w.heap.size, 0, none⟩, .int .i64 v), (⟨w.heap.size, 1, none⟩, .int .i64 wr), (⟨w.heap.size, 2, none⟩, .int .i64 f), (⟨w.heap.size + 1, 0, none⟩, .int .i64 v), (⟨w.heap.size + 1, 1, none⟩, .int .i64 wr), (⟨w.heap.size + 1, 2, none⟩, .int .i64 f2)]) (by kernel_rfl) (by kernel_rfl) ?_ ?_
  · refine KeptC.drewn ?_
    repeat' (first | refine KeptC.cons ?_ ?_ | refine KeptC.mk0 ?_)
    all_goals (first | assumption | (go_simp; done) | exact (by repeat (first | exact Below.refl _ _ | refine Below.setCell ?_ (by first | (simp; done) | (simp; omega) | omega) _ | refine Below.alloc ?_ (by first | (simp; done) | (simp; omega) | omega) _ | refine Below.drew ?_)))
  repeat (first
    | go_big_quiet_skip
    | (go_big_quiet_want; (apply quietC_run); (· intro w' hw'; (have hk' := hw'; simp only [KeptC, List.forall_mem_cons] at hk'; go_split_ands); go_simp; first | done | rfl); (simp only [Act.put, List.setIfInBounds_toArray, List.set_cons_zero, List.set_cons_succ]; go_big_quiet_on))
    | (go_big_quiet_want; (apply quietC_call); (· intro w' hw'; go_simp; first | done | exact ⟨rfl, rfl⟩ | rfl); (· intro w' hw'; first | (refine (fit_any _ _ _ _ _ _).mono ?_; rintro e w2 ⟨rfl, hb⟩; exact ⟨rfl, hw'.below hb⟩) | (refine (rfit_any _ _ _ _ _ _).mono ?_; rintro e w2 ⟨rfl, hb⟩; exact ⟨rfl, hw'.below hb⟩) | (refine (newer_any _ _ _ _ _ _ _).mono ?_; rintro e w2 ⟨rfl, hb⟩; exact ⟨rfl, hw'.below hb⟩) | (refine (rnewer_any _ _ _ _ _ _ _).mono ?_; rintro e w2 ⟨rfl, hb⟩; exact ⟨rfl, hw'.below hb⟩) | (refine (merge_any _ _ _ _ _ _ _).mono ?_; rintro e w2 ⟨rfl, hb⟩; exact ⟨rfl, hw'.below hb⟩) | (refine (rmerge_any _ _ _ _ _ _ _).mono ?_; rintro e w2 ⟨rfl, hb⟩; exact ⟨rfl, hw'.below hb⟩) | (refine (agree_any _ _ _ _ _ _ _).mono ?_; rintro e w2 ⟨rfl, hb⟩; exact ⟨rfl, hw'.below hb⟩) | (refine (out_any _ _ _ _ _ _).mono ?_; rintro e w2 ⟨rfl, hb⟩; exact ⟨rfl, hw'.below hb⟩) | (refine (rout_any _ _ _ _ _ _).mono ?_; rintro e w2 ⟨rfl, hb⟩; exact ⟨rfl, hw'.below hb⟩) | (refine (awake_any _).mono ?_; rintro e w2 ⟨rfl, hb⟩; exact ⟨rfl, hw'.below hb⟩)); (simp only [Act.put, List.setIfInBounds_toArray, List.set_cons_zero, List.set_cons_succ]; go_big_quiet_on)))
  refine wpQuiet_nil ?_
  intro w1 hk1
  (have hk' := hk1; simp only [KeptC, List.forall_mem_cons] at hk'; go_split_ands)
  go_wp2
  go_ret
  exact ⟨rfl, hk1.1⟩
theorem regTells_any (v wr f v2 wr2 f2 a b : Int) (w : World) :
    Calls Try.prog 5 #[.agg #[.int .i64 v, .int .i64 wr, .int .i64 f], .agg #[.int .i64 v2, .int .i64 wr2, .int .i64 f2], .int .i64 a, .int .i64 b] w fun e w' => e = .returned (.bool true) ∧ Below w.heap.size w w' := by
  by_cases h1 : v = v2
  · subst h1
    by_cases h2 : wr = wr2
    · subst h2
      by_cases h3 : f = f2
      · subst h3; exact regTells_same _ _ _ _ _ _
      · exact regTells_flow _ _ _ _ _ _ _ (by simpa using h3) (by simpa using h3)
    · exact regTells_wr _ _ _ _ _ _ _ _ (by simpa using h2) (by simpa using h2)
  · exact regTells_ver _ _ _ _ _ _ _ _ _ (by simpa using h1) (by simpa using h1)

theorem regTells_lifted (os : Os) (started : os.Started) (H : Type) (enc : TypeId × Value → H) :
    ReturnsInHanded {} Try.checked os 5 .any (Rows.regTellsSpec.pre6 enc Try.prog Try.f5 Rows.regTellsRow.domain false) (Rows.regTellsSpec.post enc Try.prog Try.f5 false true false false) := by
  refine returnsInHanded_of_change_sized (C := Try.checked) own started (by kernel_rfl) Try.func5
    (ChangeSpec.witness6 (enc := enc) (C := Try.checked) false ⟨#[], #[.agg #[.int .i64 0, .int .i64 0, .int .i64 0], .agg #[.int .i64 0, .int .i64 0, .int .i64 0], .int .i64 0, .int .i64 0], []⟩ 8 (by kernel_rfl) (by kernel_rfl) (by kernel_rfl) (by kernel_rfl)) ?_
  intro W base args ds gs before hval hW _ hsz _
  have hW' := hW
  obtain ⟨p, q, hA, hV, rfl, hfz, hnd⟩ := hW
  obtain ⟨rfl, rfl⟩ := trodVars_none hV
  rw [Try.params5] at hA hval
  obtain ⟨v0, vs0, d0, ds0, p0, q0, hargs, rfl, rfl, h0, r0⟩ := trodAll_cons hA
  obtain ⟨v1, vs1, d1, ds1, p1, q1, rfl, rfl, rfl, h1, r1⟩ := trodAll_cons r0
  obtain ⟨v2, vs2, d2, ds2, p2, q2, rfl, rfl, rfl, h2, r2⟩ := trodAll_cons r1
  obtain ⟨v3, vs3, d3, ds3, p3, q3, rfl, rfl, rfl, h3, r3⟩ := trodAll_cons r2
  obtain ⟨rfl, rfl, rfl⟩ := trodAll_nil r3
  obtain rfl : args = #[v0, v1, v2, v3] := by cases args; simp_all
  obtain ⟨v, wr, f, rfl, _, _, _⟩ := open_reg (hval 0 _ v0 rfl rfl) h0
  obtain ⟨x, xr, g, rfl, _, _, _⟩ := open_reg (hval 1 _ v1 rfl rfl) h1
  obtain ⟨a, rfl, _, _, wa⟩ := open_int Try.underlying3 (hval 2 _ v2 rfl rfl) h2
  obtain ⟨b, rfl, _, _, wb⟩ := open_int Try.underlying3 (hval 3 _ v3 rfl rfl) h3
  refine (regTells_any v wr f x xr g a b W).mono fun e W' ⟨he, hg⟩ => ?_
  subst he
  exact ⟨_, rfl, law_post laidOut rfl (by kernel_rfl) rfl Try.underlying4 rfl hW' hg⟩

theorem regTells_holds : Rows.RegTellsSaid :=
  OpenClaim.holds_of_wide 5 Try.f5 rfl rfl rfl rfl rfl rfl rfl ⟨rfl, rfl, rfl, rfl, rfl⟩ rfl rfl rfl rfl rfl (by kernel_rfl) Try.func5 (by kernel_rfl)
    (of_decide_eq_true (by kernel_rfl)) (by unfold Func.isWrapper; first | (rw [if_pos (by decide +kernel)]; kernel_rfl) | (rw [if_neg (by decide +kernel)]; exact ⟨rfl, rfl⟩))
    (fun os started H enc _ => regTells_lifted os started H enc)

end Go.Proofs.Ytnmgfginhplpbaa
