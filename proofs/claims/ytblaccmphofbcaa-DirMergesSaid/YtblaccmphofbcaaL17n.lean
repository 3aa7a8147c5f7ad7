/- Whatever the two lists: eddylaw17's DirMerges returns true. No conditions. -/
import Derived.Test.YtblaccmphofbcaaDirX
import Derived.Test.YtblaccmphofbcaaDirE
import Derived.Test.YtblaccmphofbcaaDirS
import Derived.Test.YtblaccmphofbcaaDirO
namespace Go.Proofs.Ytblaccmphofbcaa
open Go.ChangeShapes Go.WideShapes Go.ChangeAt Go.RowKit Go.Joins
set_option linter.unusedVariables false
set_option maxRecDepth 100000 in
set_option maxHeartbeats 8000000 in
theorem merges_n0 (A1 : Option Addr) (n1 cp1 : Nat) (ra : List Ch) (A2 : Option Addr) (n2 cp2 : Nat) (rb : List Ch) (w : World) (hr1 : ChsAt w w.heap.size A1 n1 ra) (hr2 : ChsAt w w.heap.size A2 n2 rb) (hm1 : n1 * 56 ≤ 140737488351232) (hm2 : n2 * 56 ≤ 140737488351232) (hg1 : Hid (fitsB ra = false)) :
    Calls Try.prog 4 #[.slice A1 n1 cp1, .slice A2 n2 cp2] w fun x w' => x = .returned (.bool true) ∧ Below w.heap.size w w' := by
  have HR1 := Lib.hid hr1
  have HR2 := Lib.hid hr2
  clear hr1 hr2
  go_enter Try.func4, Try.ntmps4
  go_wp2_with (fail)
  have hF := rfits_any A1 n1 cp1 ra w ((HR1.out.below (by repeat (first | with_reducible refine Below.setCell ?_ (by first | (simp; done) | (simp; omega) | omega) _ | with_reducible refine Below.alloc ?_ (by first | (simp; done) | (simp; omega) | omega) _ | with_reducible refine Below.drew ?_ | with_reducible refine below_drewN ?_ _ | with_reducible exact Below.refl _ _))).more (by first | (simp; done) | (simp; omega) | omega)) hm1
  rw [hg1.out] at hF
  refine (hF).mono ?_; rintro e w1 ⟨rfl, hb1⟩; obtain ⟨hc1, hf1⟩ := bcell hb1; have hz1 := hb1.size; (try simp at hz1)
  clear hF
  go_wp2_with (fail)
  refine (awake_any _).mono ?_; rintro e w2 ⟨rfl, hb2⟩; obtain ⟨hc2, hf2⟩ := bcell hb2; have hz2 := hb2.size; (try simp at hz2)
  go_wp2
  go_ret
  exact ⟨rfl, (by repeat (first | with_reducible refine Below.setCell ?_ (by first | (simp; done) | (simp; omega) | omega) _ | with_reducible refine Below.alloc ?_ (by first | (simp; done) | (simp; omega) | omega) _ | with_reducible refine Below.drew ?_ | with_reducible refine below_drewN ?_ _ | with_reducible exact Below.refl _ _ | with_reducible refine Below.trans ?_ (Below.mono hb1 (by first | (simp; done) | (simp; omega) | omega)) | with_reducible refine Below.trans ?_ (Below.mono hb2 (by first | (simp; done) | (simp; omega) | omega))))⟩
set_option maxRecDepth 100000 in
set_option maxHeartbeats 8000000 in
theorem merges_n1 (A1 : Option Addr) (n1 cp1 : Nat) (ra : List Ch) (A2 : Option Addr) (n2 cp2 : Nat) (rb : List Ch) (w : World) (hr1 : ChsAt w w.heap.size A1 n1 ra) (hr2 : ChsAt w w.heap.size A2 n2 rb) (hm1 : n1 * 56 ≤ 140737488351232) (hm2 : n2 * 56 ≤ 140737488351232) (hg1 : Hid (fitsB ra = true)) (hg2 : Hid (fitsB rb = false)) :
    Calls Try.prog 4 #[.slice A1 n1 cp1, .slice A2 n2 cp2] w fun x w' => x = .returned (.bool true) ∧ Below w.heap.size w w' := by
  have HR1 := Lib.hid hr1
  have HR2 := Lib.hid hr2
  clear hr1 hr2
  go_enter Try.func4, Try.ntmps4
  go_wp2_with (fail)
  have hF := rfits_any A1 n1 cp1 ra w ((HR1.out.below (by repeat (first | with_reducible refine Below.setCell ?_ (by first | (simp; done) | (simp; omega) | omega) _ | with_reducible refine Below.alloc ?_ (by first | (simp; done) | (simp; omega) | omega) _ | with_reducible refine Below.drew ?_ | with_reducible refine below_drewN ?_ _ | with_reducible exact Below.refl _ _))).more (by first | (simp; done) | (simp; omega) | omega)) hm1
  rw [hg1.out] at hF
  refine (hF).mono ?_; rintro e w1 ⟨rfl, hb1⟩; obtain ⟨hc1, hf1⟩ := bcell hb1; have hz1 := hb1.size; (try simp at hz1)
  clear hF
  go_wp2_with (fail)
  have hF := rfits_any A2 n2 cp2 rb w1 ((HR2.out.below (by repeat (first | with_reducible refine Below.setCell ?_ (by first | (simp; done) | (simp; omega) | omega) _ | with_reducible refine Below.alloc ?_ (by first | (simp; done) | (simp; omega) | omega) _ | with_reducible refine Below.drew ?_ | with_reducible refine below_drewN ?_ _ | with_reducible exact Below.refl _ _ | with_reducible refine Below.trans ?_ (Below.mono hb1 (by first | (simp; done) | (simp; omega) | omega))))).more (by first | (simp; done) | (simp; omega) | omega)) hm2
  rw [hg2.out] at hF
  refine (hF).mono ?_; rintro e w2 ⟨rfl, hb2⟩; obtain ⟨hc2, hf2⟩ := bcell hb2; have hz2 := hb2.size; (try simp at hz2)
  clear hF
  go_wp2_with (fail)
  refine (awake_any _).mono ?_; rintro e w3 ⟨rfl, hb3⟩; obtain ⟨hc3, hf3⟩ := bcell hb3; have hz3 := hb3.size; (try simp at hz3)
  go_wp2
  go_ret
  exact ⟨rfl, (by repeat (first | with_reducible refine Below.setCell ?_ (by first | (simp; done) | (simp; omega) | omega) _ | with_reducible refine Below.alloc ?_ (by first | (simp; done) | (simp; omega) | omega) _ | with_reducible refine Below.drew ?_ | with_reducible refine below_drewN ?_ _ | with_reducible exact Below.refl _ _ | with_reducible refine Below.trans ?_ (Below.mono hb1 (by first | (simp; done) | (simp; omega) | omega)) | with_reducible refine Below.trans ?_ (Below.mono hb2 (by first | (simp; done) | (simp; omega) | omega)) | with_reducible refine Below.trans ?_ (Below.mono hb3 (by first | (simp; done) | (simp; omega) | omega))))⟩
set_option maxRecDepth 100000 in
set_option maxHeartbeats 8000000 in
theorem merges_main (A1 : Option Addr) (n1 cp1 : Nat) (ra : List Ch) (A2 : Option Addr) (n2 cp2 : Nat) (rb : List Ch) (w : World) (hr1 : ChsAt w w.heap.size A1 n1 ra) (hr2 : ChsAt w w.heap.size A2 n2 rb) (hm1 : n1 * 56 ≤ 140737488351232) (hm2 : n2 * 56 ≤ 140737488351232) (hg1 : Hid (fitsB ra = true)) (hg2 : Hid (fitsB rb = true)) :
    Calls Try.prog 4 #[.slice A1 n1 cp1, .slice A2 n2 cp2] w fun x w' => x = .returned (.bool true) ∧ Below w.heap.size w w' := by
  have HR1 := Lib.hid hr1
  have HR2 := Lib.hid hr2
  clear hr1 hr2
  have hM : fitsB (mergeR ra rb) = true := mergeR_fits _ hg1.out (fit_of_fits hg2.out).2
  have HM := Lib.hid hM
  clear hM
  go_enter Try.func4, Try.ntmps4
  go_wp2_with (fail)
  have hF := rfits_any A1 n1 cp1 ra w ((HR1.out.below (by repeat (first | with_reducible refine Below.setCell ?_ (by first | (simp; done) | (simp; omega) | omega) _ | with_reducible refine Below.alloc ?_ (by first | (simp; done) | (simp; omega) | omega) _ | with_reducible refine Below.drew ?_ | with_reducible refine below_drewN ?_ _ | with_reducible exact Below.refl _ _))).more (by first | (simp; done) | (simp; omega) | omega)) hm1
  rw [hg1.out] at hF
  refine (hF).mono ?_; rintro e w1 ⟨rfl, hb1⟩; obtain ⟨hc1, hf1⟩ := bcell hb1; have hz1 := hb1.size; (try simp at hz1)
  clear hF
  go_wp2_with (fail)
  have hF := rfits_any A2 n2 cp2 rb w1 ((HR2.out.below (by repeat (first | with_reducible refine Below.setCell ?_ (by first | (simp; done) | (simp; omega) | omega) _ | with_reducible refine Below.alloc ?_ (by first | (simp; done) | (simp; omega) | omega) _ | with_reducible refine Below.drew ?_ | with_reducible refine below_drewN ?_ _ | with_reducible exact Below.refl _ _ | with_reducible refine Below.trans ?_ (Below.mono hb1 (by first | (simp; done) | (simp; omega) | omega))))).more (by first | (simp; done) | (simp; omega) | omega)) hm2
  rw [hg2.out] at hF
  refine (hF).mono ?_; rintro e w2 ⟨rfl, hb2⟩; obtain ⟨hc2, hf2⟩ := bcell hb2; have hz2 := hb2.size; (try simp at hz2)
  clear hF
  go_wp2_with (fail)
  refine (merge_any A1 n1 cp1 ra A2 n2 cp2 rb _ ((HR1.out.below (by repeat (first | with_reducible refine Below.setCell ?_ (by first | (simp; done) | (simp; omega) | omega) _ | with_reducible refine Below.alloc ?_ (by first | (simp; done) | (simp; omega) | omega) _ | with_reducible refine Below.drew ?_ | with_reducible refine below_drewN ?_ _ | with_reducible exact Below.refl _ _ | with_reducible refine Below.trans ?_ (Below.mono hb1 (by first | (simp; done) | (simp; omega) | omega)) | with_reducible refine Below.trans ?_ (Below.mono hb2 (by first | (simp; done) | (simp; omega) | omega))))).more (by first | (simp; done) | (simp; omega) | omega)) ((HR2.out.below (by repeat (first | with_reducible refine Below.setCell ?_ (by first | (simp; done) | (simp; omega) | omega) _ | with_reducible refine Below.alloc ?_ (by first | (simp; done) | (simp; omega) | omega) _ | with_reducible refine Below.drew ?_ | with_reducible refine below_drewN ?_ _ | with_reducible exact Below.refl _ _ | with_reducible refine Below.trans ?_ (Below.mono hb1 (by first | (simp; done) | (simp; omega) | omega)) | with_reducible refine Below.trans ?_ (Below.mono hb2 (by first | (simp; done) | (simp; omega) | omega))))).more (by first | (simp; done) | (simp; omega) | omega)) hg1.out hg2.out).mono ?_; rintro x w3 ⟨lv, rfl, hown3, hb3⟩
  obtain ⟨A3, c3, rfl, hr3⟩ := hown3.fit HM.out
  have HRQ3 := Lib.hid hr3
  have hz3 := hb3.size
  clear hown3 hr3
  go_wp2_with (fail)
  refine (rmerge_any A1 n1 cp1 ra A2 n2 cp2 rb _ ((HR1.out.below (by repeat (first | with_reducible refine Below.setCell ?_ (by first | (simp; done) | (simp; omega) | omega) _ | with_reducible refine Below.alloc ?_ (by first | (simp; done) | (simp; omega) | omega) _ | with_reducible refine Below.drew ?_ | with_reducible refine below_drewN ?_ _ | with_reducible exact Below.refl _ _ | with_reducible refine Below.trans ?_ (Below.mono hb1 (by first | (simp; done) | (simp; omega) | omega)) | with_reducible refine Below.trans ?_ (Below.mono hb2 (by first | (simp; done) | (simp; omega) | omega)) | with_reducible refine Below.trans ?_ (Below.mono hb3 (by first | (simp; done) | (simp; omega) | omega))))).more (by first | (simp; done) | (simp; omega) | omega)) ((HR2.out.below (by repeat (first | with_reducible refine Below.setCell ?_ (by first | (simp; done) | (simp; omega) | omega) _ | with_reducible refine Below.alloc ?_ (by first | (simp; done) | (simp; omega) | omega) _ | with_reducible refine Below.drew ?_ | with_reducible refine below_drewN ?_ _ | with_reducible exact Below.refl _ _ | with_reducible refine Below.trans ?_ (Below.mono hb1 (by first | (simp; done) | (simp; omega) | omega)) | with_reducible refine Below.trans ?_ (Below.mono hb2 (by first | (simp; done) | (simp; omega) | omega)) | with_reducible refine Below.trans ?_ (Below.mono hb3 (by first | (simp; done) | (simp; omega) | omega))))).more (by first | (simp; done) | (simp; omega) | omega)) hg1.out hg2.out).mono ?_; rintro x w4 ⟨lv, rfl, hown4, hb4⟩
  obtain ⟨A4, c4, rfl, hr4⟩ := hown4.fit HM.out
  have HRQ4 := Lib.hid hr4
  have hz4 := hb4.size
  clear hown4 hr4
  go_wp2_with (fail)
  have hS := same_any A3 _ c3 _ A4 _ c4 _ w4 ((HRQ3.out.below (by repeat (first | with_reducible refine Below.setCell ?_ (by first | (simp; done) | (simp; omega) | omega) _ | with_reducible refine Below.alloc ?_ (by first | (simp; done) | (simp; omega) | omega) _ | with_reducible refine Below.drew ?_ | with_reducible refine below_drewN ?_ _ | with_reducible exact Below.refl _ _ | with_reducible refine Below.trans ?_ (Below.mono hb4 (by first | (simp; done) | (simp; omega) | omega))))).more (by first | (simp; done) | (simp; omega) | omega)) ((HRQ4.out.below (by repeat (first | with_reducible refine Below.setCell ?_ (by first | (simp; done) | (simp; omega) | omega) _ | with_reducible refine Below.alloc ?_ (by first | (simp; done) | (simp; omega) | omega) _ | with_reducible refine Below.drew ?_ | with_reducible refine below_drewN ?_ _ | with_reducible exact Below.refl _ _))).more (by first | (simp; done) | (simp; omega) | omega)) (fit_hm HM.out) (fit_hm HM.out)
  rw [sameB_eq rfl] at hS
  refine (hS).mono ?_; rintro e w5 ⟨rfl, hb5⟩; obtain ⟨hc5, hf5⟩ := bcell hb5; have hz5 := hb5.size; (try simp at hz5)
  clear hS
  go_wp2_with (fail)
  refine (awake_any _).mono ?_; rintro e w6 ⟨rfl, hb6⟩; obtain ⟨hc6, hf6⟩ := bcell hb6; have hz6 := hb6.size; (try simp at hz6)
  go_wp2
  go_ret
  exact ⟨rfl, (by repeat (first | with_reducible refine Below.setCell ?_ (by first | (simp; done) | (simp; omega) | omega) _ | with_reducible refine Below.alloc ?_ (by first | (simp; done) | (simp; omega) | omega) _ | with_reducible refine Below.drew ?_ | with_reducible refine below_drewN ?_ _ | with_reducible exact Below.refl _ _ | with_reducible refine Below.trans ?_ (Below.mono hb1 (by first | (simp; done) | (simp; omega) | omega)) | with_reducible refine Below.trans ?_ (Below.mono hb2 (by first | (simp; done) | (simp; omega) | omega)) | with_reducible refine Below.trans ?_ (Below.mono hb3 (by first | (simp; done) | (simp; omega) | omega)) | with_reducible refine Below.trans ?_ (Below.mono hb4 (by first | (simp; done) | (simp; omega) | omega)) | with_reducible refine Below.trans ?_ (Below.mono hb5 (by first | (simp; done) | (simp; omega) | omega)) | with_reducible refine Below.trans ?_ (Below.mono hb6 (by first | (simp; done) | (simp; omega) | omega))))⟩
theorem dirMerges_any (A1 : Option Addr) (n1 cp1 : Nat) (ra : List Ch) (A2 : Option Addr) (n2 cp2 : Nat) (rb : List Ch) (w : World) (hr1 : ChsAt w w.heap.size A1 n1 ra) (hr2 : ChsAt w w.heap.size A2 n2 rb) (hm1 : n1 * 56 ≤ 140737488351232) (hm2 : n2 * 56 ≤ 140737488351232) :
    Calls Try.prog 4 #[.slice A1 n1 cp1, .slice A2 n2 cp2] w fun x w' => x = .returned (.bool true) ∧ Below w.heap.size w w' := by
  cases hf : fitsB ra with
  | false => exact merges_n0 A1 n1 cp1 ra A2 n2 cp2 rb w hr1 hr2 hm1 hm2 (Lib.hid hf)
  | true =>
    cases hf2 : fitsB rb with
    | false => exact merges_n1 A1 n1 cp1 ra A2 n2 cp2 rb w hr1 hr2 hm1 hm2 (Lib.hid hf) (Lib.hid hf2)
    | true => exact merges_main A1 n1 cp1 ra A2 n2 cp2 rb w hr1 hr2 hm1 hm2 (Lib.hid hf) (Lib.hid hf2)
theorem dirMerges_lifted (os : Os) (started : os.Started) (H : Type) (enc : TypeId × Value → H) :
    ReturnsInHanded {} Try.checked os 4 .any (Rows.dirMergesSpec.pre6 enc Try.prog Try.f4 Rows.dirMergesRow.domain false) (Rows.dirMergesSpec.post enc Try.prog Try.f4 false true false false) := by
  refine returnsInHanded_of_change_sized (C := Try.checked) own started (by kernel_rfl) Try.func4
    (ChangeSpec.witness6 (enc := enc) (C := Try.checked) false ⟨#[], #[.slice none 0 0, .slice none 0 0], []⟩ 8 (by kernel_rfl) (by kernel_rfl) (by kernel_rfl) (by kernel_rfl)) ?_
  intro W base args ds gs before hval hW _ hsz _
  have hW' := hW
  obtain ⟨p, q, hA, hV, rfl, hfz, hnd⟩ := hW
  obtain ⟨rfl, rfl⟩ := trodVars_none hV
  rw [Try.params4] at hA hval
  obtain ⟨v0, vs0, d0, ds0, p0, q0, hargs, rfl, rfl, h0, r0⟩ := trodAll_cons hA
  obtain ⟨v1, vs1, d1, ds1, p1, q1, rfl, rfl, rfl, h1, r1⟩ := trodAll_cons r0
  obtain ⟨rfl, rfl, rfl⟩ := trodAll_nil r1
  obtain rfl : args = #[v0, v1] := by cases args; simp_all
  obtain ⟨A1, n1, cp1, ra, rfl, _, hr1, hds1⟩ := open_chans (hval 0 _ v0 rfl rfl) h0
  obtain ⟨A2, n2, cp2, rb, rfl, _, hr2, hds2⟩ := open_chans (hval 1 _ v1 rfl rfl) h1
  refine (dirMerges_any A1 n1 cp1 ra A2 n2 cp2 rb W hr1 hr2 (small_chans hsz (j := 0) rfl rfl hds1) (small_chans hsz (j := 1) rfl rfl hds2)).mono fun e W' ⟨he, hg⟩ => ?_
  subst he
  exact ⟨_, rfl, law_post laidOut rfl (by kernel_rfl) rfl Try.underlying4 rfl hW' hg⟩

theorem dirMerges_holds : Rows.DirMergesSaid :=
  OpenClaim.holds_of_wide 4 Try.f4 rfl rfl rfl rfl rfl rfl rfl ⟨rfl, rfl, rfl, rfl, rfl⟩ rfl rfl rfl rfl rfl (by kernel_rfl) Try.func4 (by kernel_rfl)
    (of_decide_eq_true (by kernel_rfl)) (by unfold Func.isWrapper; first | (rw [if_pos (by decide +kernel)]; kernel_rfl) | (rw [if_neg (by decide +kernel)]; exact ⟨rfl, rfl⟩))
    (fun os started H enc _ => dirMerges_lifted os started H enc)

end Go.Proofs.Ytblaccmphofbcaa
