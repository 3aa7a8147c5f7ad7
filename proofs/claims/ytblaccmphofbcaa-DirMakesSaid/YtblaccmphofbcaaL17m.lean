/- Whatever the list, the maker, the name, the kind and the scale: eddylaw17's DirMakes returns true. No conditions. -/
import Derived.Test.YtblaccmphofbcaaDirX
import Derived.Test.YtblaccmphofbcaaDirR
import Derived.Test.YtblaccmphofbcaaDirS
import Derived.Test.YtblaccmphofbcaaDirO
import Derived.ChangeMaps5
namespace Go.Proofs.Ytblaccmphofbcaa
open Go.ChangeShapes Go.WideShapes Go.ChangeAt Go.RowKit Go.Joins Go.ChangeMaps
set_option linter.unusedVariables false
theorem fit_hm {ls : List Ch} (h : fitsB ls = true) : ls.length * 56 ≤ 140737488351232 := by have := (fit_of_fits h).1; omega
set_option maxRecDepth 100000 in
set_option maxHeartbeats 8000000 in
theorem makes_n0 (A : Option Addr) (n cp : Nat) (ls : List Ch) (m : Int) (nm : ByteArray) (k sc : Int) (w : World) (hnz : nm.size ≤ maxLen) (hr : ChsAt w w.heap.size A n ls) (hm : n * 56 ≤ 140737488351232) (hf : fitsB ls = false) :
    Calls Try.prog 3 #[.slice A n cp, .int .i64 m, .string nm, .int .i64 k, .int .i64 sc] w fun x w' => x = .returned (.bool true) ∧ Below w.heap.size w w' := by
  have HR := Lib.hid hr
  clear hr
  have hF := rfits_any A n cp ls w HR.out hm
  rw [hf] at hF
  go_enter Try.func3, Try.ntmps3
  go_wp2_with (fail)
  refine (hF).mono ?_; rintro e w1 ⟨rfl, hb1⟩; obtain ⟨hc1, hf1⟩ := bcell hb1; have hz1 := hb1.size; (try simp at hz1)
  go_wp2_with (fail)
  refine (awake_any _).mono ?_; rintro e w2 ⟨rfl, hb2⟩; obtain ⟨hc2, hf2⟩ := bcell hb2; have hz2 := hb2.size; (try simp at hz2)
  go_wp2
  go_ret
  exact ⟨rfl, (by repeat (first | with_reducible refine Below.setCell ?_ (by first | (simp; done) | (simp; omega) | omega) _ | with_reducible refine Below.alloc ?_ (by first | (simp; done) | (simp; omega) | omega) _ | with_reducible refine Below.drew ?_ | with_reducible refine below_drewN ?_ _ | with_reducible exact Below.refl _ _ | with_reducible refine Below.trans ?_ (Below.mono hb1 (by first | (simp; done) | (simp; omega) | omega)) | with_reducible refine Below.trans ?_ (Below.mono hb2 (by first | (simp; done) | (simp; omega) | omega))))⟩
set_option maxRecDepth 100000 in
set_option maxHeartbeats 8000000 in
theorem makes_n1 (A : Option Addr) (n cp : Nat) (ls : List Ch) (m : Int) (nm : ByteArray) (k sc : Int) (w : World) (hnz : nm.size ≤ maxLen) (hr : ChsAt w w.heap.size A n ls) (hm : n * 56 ≤ 140737488351232) (hf : fitsB ls = true) (h0 : m < 0) :
    Calls Try.prog 3 #[.slice A n cp, .int .i64 m, .string nm, .int .i64 k, .int .i64 sc] w fun x w' => x = .returned (.bool true) ∧ Below w.heap.size w w' := by
  have HR := Lib.hid hr
  clear hr
  have hF := rfits_any A n cp ls w HR.out hm
  rw [hf] at hF
  go_enter Try.func3, Try.ntmps3
  go_wp2_with (fail)
  refine (hF).mono ?_; rintro e w1 ⟨rfl, hb1⟩; obtain ⟨hc1, hf1⟩ := bcell hb1; have hz1 := hb1.size; (try simp at hz1)
  go_wp2_with (fail)
  refine (awake_any _).mono ?_; rintro e w2 ⟨rfl, hb2⟩; obtain ⟨hc2, hf2⟩ := bcell hb2; have hz2 := hb2.size; (try simp at hz2)
  go_wp2
  go_ret
  exact ⟨rfl, (by repeat (first | with_reducible refine Below.setCell ?_ (by first | (simp; done) | (simp; omega) | omega) _ | with_reducible refine Below.alloc ?_ (by first | (simp; done) | (simp; omega) | omega) _ | with_reducible refine Below.drew ?_ | with_reducible refine below_drewN ?_ _ | with_reducible exact Below.refl _ _ | with_reducible refine Below.trans ?_ (Below.mono hb1 (by first | (simp; done) | (simp; omega) | omega)) | with_reducible refine Below.trans ?_ (Below.mono hb2 (by first | (simp; done) | (simp; omega) | omega))))⟩
set_option maxRecDepth 100000 in
set_option maxHeartbeats 8000000 in
theorem makes_n2 (A : Option Addr) (n cp : Nat) (ls : List Ch) (m : Int) (nm : ByteArray) (k sc : Int) (w : World) (hnz : nm.size ≤ maxLen) (hr : ChsAt w w.heap.size A n ls) (hm : n * 56 ≤ 140737488351232) (hf : fitsB ls = true) (h0 : ¬ m < 0) (h1 : 16 ≤ m) :
    Calls Try.prog 3 #[.slice A n cp, .int .i64 m, .string nm, .int .i64 k, .int .i64 sc] w fun x w' => x = .returned (.bool true) ∧ Below w.heap.size w w' := by
  have HR := Lib.hid hr
  clear hr
  have hF := rfits_any A n cp ls w HR.out hm
  rw [hf] at hF
  go_enter Try.func3, Try.ntmps3
  go_wp2_with (fail)
  refine (hF).mono ?_; rintro e w1 ⟨rfl, hb1⟩; obtain ⟨hc1, hf1⟩ := bcell hb1; have hz1 := hb1.size; (try simp at hz1)
  go_wp2_with (fail)
  refine (awake_any _).mono ?_; rintro e w2 ⟨rfl, hb2⟩; obtain ⟨hc2, hf2⟩ := bcell hb2; have hz2 := hb2.size; (try simp at hz2)
  go_wp2
  go_ret
  exact ⟨rfl, (by repeat (first | with_reducible refine Below.setCell ?_ (by first | (simp; done) | (simp; omega) | omega) _ | with_reducible refine Below.alloc ?_ (by first | (simp; done) | (simp; omega) | omega) _ | with_reducible refine Below.drew ?_ | with_reducible refine below_drewN ?_ _ | with_reducible exact Below.refl _ _ | with_reducible refine Below.trans ?_ (Below.mono hb1 (by first | (simp; done) | (simp; omega) | omega)) | with_reducible refine Below.trans ?_ (Below.mono hb2 (by first | (simp; done) | (simp; omega) | omega))))⟩
set_option maxRecDepth 100000 in
set_option maxHeartbeats 8000000 in
theorem makes_main (A : Option Addr) (n cp : Nat) (ls : List Ch) (m : Int) (nm : ByteArray) (k sc : Int) (w : World) (hnz : nm.size ≤ maxLen) (hr : ChsAt w w.heap.size A n ls) (hm : n * 56 ≤ 140737488351232) (hf : fitsB ls = true) (h0 : ¬ m < 0) (h1 : ¬ 16 ≤ m) :
    Calls Try.prog 3 #[.slice A n cp, .int .i64 m, .string nm, .int .i64 k, .int .i64 sc] w fun x w' => x = .returned (.bool true) ∧ Below w.heap.size w w' := by
  have HR := Lib.hid hr
  clear hr
  have HF := Lib.hid hf
  have hF := rfits_any A n cp ls w HR.out hm
  rw [hf] at hF
  clear hf
  have c1 := fun W hr => create_any A n cp ls m nm k sc W hr HF.out
  have c2 := fun W hr => rcreate_any A n cp ls m nm k sc W hnz hr HF.out
  have d1 := fun W hr => delete_any A n cp ls m nm W hr HF.out
  have d2 := fun W hr => rdelete_any A n cp ls m nm W hnz hr HF.out
  have f1 := creL_fits (m := m) (nm := nm) (k := k) (sc := sc) HF.out (by omega) (by omega)
  have f2 := delL_fits (m := m) (nm := nm) HF.out (by omega) (by omega)
  generalize creL ls m nm k sc = LC at *
  generalize delL ls m nm = LD at *
  generalize creE ls nm k sc = ec at *
  generalize delE ls nm = ed at *
  have C1 := Lib.hid c1; have C2 := Lib.hid c2; have D1 := Lib.hid d1; have D2 := Lib.hid d2; have F1 := Lib.hid f1; have F2 := Lib.hid f2
  clear c1 c2 d1 d2 f1 f2
  go_enter Try.func3, Try.ntmps3
  go_wp2_with (fail)
  refine (hF).mono ?_; rintro e w1 ⟨rfl, hb1⟩; obtain ⟨hc1, hf1⟩ := bcell hb1; have hz1 := hb1.size; (try simp at hz1)
  clear hF
  go_wp2_with (fail)
  refine (C1.out _ ((HR.out.below (by repeat (first | with_reducible refine Below.setCell ?_ (by first | (simp; done) | (simp; omega) | omega) _ | with_reducible refine Below.alloc ?_ (by first | (simp; done) | (simp; omega) | omega) _ | with_reducible refine Below.drew ?_ | with_reducible refine below_drewN ?_ _ | with_reducible exact Below.refl _ _ | with_reducible refine Below.trans ?_ (Below.mono hb1 (by first | (simp; done) | (simp; omega) | omega))))).more (by first | (simp; done) | (simp; omega) | omega))).mono ?_; rintro x w2 ⟨lv, rfl, hown2, hb2⟩
  obtain ⟨A2, c2, rfl, hr2⟩ := hown2.fit F1.out
  have HR2 := Lib.hid hr2
  have hz2 := hb2.size
  clear hown2 hr2
  go_wp2_with (fail)
  refine (C2.out _ ((HR.out.below (by repeat (first | with_reducible refine Below.setCell ?_ (by first | (simp; done) | (simp; omega) | omega) _ | with_reducible refine Below.alloc ?_ (by first | (simp; done) | (simp; omega) | omega) _ | with_reducible refine Below.drew ?_ | with_reducible refine below_drewN ?_ _ | with_reducible exact Below.refl _ _ | with_reducible refine Below.trans ?_ (Below.mono hb1 (by first | (simp; done) | (simp; omega) | omega)) | with_reducible refine Below.trans ?_ (Below.mono hb2 (by first | (simp; done) | (simp; omega) | omega))))).more (by first | (simp; done) | (simp; omega) | omega))).mono ?_; rintro x w3 ⟨lv, rfl, hown3, hb3⟩
  obtain ⟨A3, c3, rfl, hr3⟩ := hown3.fit F1.out
  have HR3 := Lib.hid hr3
  have hz3 := hb3.size
  clear hown3 hr3
  go_wp2_with (fail)
  have hS := same_any A2 _ c2 _ A3 _ c3 _ w3 ((HR2.out.below (by repeat (first | with_reducible refine Below.setCell ?_ (by first | (simp; done) | (simp; omega) | omega) _ | with_reducible refine Below.alloc ?_ (by first | (simp; done) | (simp; omega) | omega) _ | with_reducible refine Below.drew ?_ | with_reducible refine below_drewN ?_ _ | with_reducible exact Below.refl _ _ | with_reducible refine Below.trans ?_ (Below.mono hb3 (by first | (simp; done) | (simp; omega) | omega))))).more (by first | (simp; done) | (simp; omega) | omega)) ((HR3.out.below (by repeat (first | with_reducible refine Below.setCell ?_ (by first | (simp; done) | (simp; omega) | omega) _ | with_reducible refine Below.alloc ?_ (by first | (simp; done) | (simp; omega) | omega) _ | with_reducible refine Below.drew ?_ | with_reducible refine below_drewN ?_ _ | with_reducible exact Below.refl _ _))).more (by first | (simp; done) | (simp; omega) | omega)) (fit_hm F1.out) (fit_hm F1.out)
  rw [sameB_eq rfl] at hS
  refine (hS).mono ?_; rintro e w4 ⟨rfl, hb4⟩; obtain ⟨hc4, hf4⟩ := bcell hb4; have hz4 := hb4.size; (try simp at hz4)
  clear hS
  go_wp2_with (fail)
  refine (D1.out _ ((HR.out.below (by repeat (first | with_reducible refine Below.setCell ?_ (by first | (simp; done) | (simp; omega) | omega) _ | with_reducible refine Below.alloc ?_ (by first | (simp; done) | (simp; omega) | omega) _ | with_reducible refine Below.drew ?_ | with_reducible refine below_drewN ?_ _ | with_reducible exact Below.refl _ _ | with_reducible refine Below.trans ?_ (Below.mono hb1 (by first | (simp; done) | (simp; omega) | omega)) | with_reducible refine Below.trans ?_ (Below.mono hb2 (by first | (simp; done) | (simp; omega) | omega)) | with_reducible refine Below.trans ?_ (Below.mono hb3 (by first | (simp; done) | (simp; omega) | omega)) | with_reducible refine Below.trans ?_ (Below.mono hb4 (by first | (simp; done) | (simp; omega) | omega))))).more (by first | (simp; done) | (simp; omega) | omega))).mono ?_; rintro x w5 ⟨lv, rfl, hown5, hb5⟩
  obtain ⟨A5, c5, rfl, hr5⟩ := hown5.fit F2.out
  have HR5 := Lib.hid hr5
  have hz5 := hb5.size
  clear hown5 hr5
  go_wp2_with (fail)
  refine (D2.out _ ((HR.out.below (by repeat (first | with_reducible refine Below.setCell ?_ (by first | (simp; done) | (simp; omega) | omega) _ | with_reducible refine Below.alloc ?_ (by first | (simp; done) | (simp; omega) | omega) _ | with_reducible refine Below.drew ?_ | with_reducible refine below_drewN ?_ _ | with_reducible exact Below.refl _ _ | with_reducible refine Below.trans ?_ (Below.mono hb1 (by first | (simp; done) | (simp; omega) | omega)) | with_reducible refine Below.trans ?_ (Below.mono hb2 (by first | (simp; done) | (simp; omega) | omega)) | with_reducible refine Below.trans ?_ (Below.mono hb3 (by first | (simp; done) | (simp; omega) | omega)) | with_reducible refine Below.trans ?_ (Below.mono hb4 (by first | (simp; done) | (simp; omega) | omega)) | with_reducible refine Below.trans ?_ (Below.mono hb5 (by first | (simp; done) | (simp; omega) | omega))))).more (by first | (simp; done) | (simp; omega) | omega))).mono ?_; rintro x w6 ⟨lv, rfl, hown6, hb6⟩
  obtain ⟨A6, c6, rfl, hr6⟩ := hown6.fit F2.out
  have HR6 := Lib.hid hr6
  have hz6 := hb6.size
  clear hown6 hr6
  go_wp2_with (fail)
  have hS := same_any A5 _ c5 _ A6 _ c6 _ w6 ((HR5.out.below (by repeat (first | with_reducible refine Below.setCell ?_ (by first | (simp; done) | (simp; omega) | omega) _ | with_reducible refine Below.alloc ?_ (by first | (simp; done) | (simp; omega) | omega) _ | with_reducible refine Below.drew ?_ | with_reducible refine below_drewN ?_ _ | with_reducible exact Below.refl _ _ | with_reducible refine Below.trans ?_ (Below.mono hb6 (by first | (simp; done) | (simp; omega) | omega))))).more (by first | (simp; done) | (simp; omega) | omega)) ((HR6.out.below (by repeat (first | with_reducible refine Below.setCell ?_ (by first | (simp; done) | (simp; omega) | omega) _ | with_reducible refine Below.alloc ?_ (by first | (simp; done) | (simp; omega) | omega) _ | with_reducible refine Below.drew ?_ | with_reducible refine below_drewN ?_ _ | with_reducible exact Below.refl _ _))).more (by first | (simp; done) | (simp; omega) | omega)) (fit_hm F2.out) (fit_hm F2.out)
  rw [sameB_eq rfl] at hS
  refine (hS).mono ?_; rintro e w7 ⟨rfl, hb7⟩; obtain ⟨hc7, hf7⟩ := bcell hb7; have hz7 := hb7.size; (try simp at hz7)
  clear hS
  go_wp2_with (fail)
  refine (awake_any _).mono ?_; rintro e w8 ⟨rfl, hb8⟩; obtain ⟨hc8, hf8⟩ := bcell hb8; have hz8 := hb8.size; (try simp at hz8)
  go_wp2
  go_ret
  exact ⟨rfl, (by repeat (first | with_reducible refine Below.setCell ?_ (by first | (simp; done) | (simp; omega) | omega) _ | with_reducible refine Below.alloc ?_ (by first | (simp; done) | (simp; omega) | omega) _ | with_reducible refine Below.drew ?_ | with_reducible refine below_drewN ?_ _ | with_reducible exact Below.refl _ _ | with_reducible refine Below.trans ?_ (Below.mono hb1 (by first | (simp; done) | (simp; omega) | omega)) | with_reducible refine Below.trans ?_ (Below.mono hb2 (by first | (simp; done) | (simp; omega) | omega)) | with_reducible refine Below.trans ?_ (Below.mono hb3 (by first | (simp; done) | (simp; omega) | omega)) | with_reducible refine Below.trans ?_ (Below.mono hb4 (by first | (simp; done) | (simp; omega) | omega)) | with_reducible refine Below.trans ?_ (Below.mono hb5 (by first | (simp; done) | (simp; omega) | omega)) | with_reducible refine Below.trans ?_ (Below.mono hb6 (by first | (simp; done) | (simp; omega) | omega)) | with_reducible refine Below.trans ?_ (Below.mono hb7 (by first | (simp; done) | (simp; omega) | omega)) | with_reducible refine Below.trans ?_ (Below.mono hb8 (by first | (simp; done) | (simp; omega) | omega))))⟩
theorem dirMakes_any (A : Option Addr) (n cp : Nat) (ls : List Ch) (m : Int) (nm : ByteArray) (k sc : Int) (w : World) (hnz : nm.size ≤ maxLen) (hr : ChsAt w w.heap.size A n ls) (hm : n * 56 ≤ 140737488351232) :
    Calls Try.prog 3 #[.slice A n cp, .int .i64 m, .string nm, .int .i64 k, .int .i64 sc] w fun x w' => x = .returned (.bool true) ∧ Below w.heap.size w w' := by
  cases hf : fitsB ls with
  | false => exact makes_n0 A n cp ls m nm k sc w hnz hr hm hf
  | true =>
    by_cases h0 : m < 0
    · exact makes_n1 A n cp ls m nm k sc w hnz hr hm hf h0
    · by_cases h1 : 16 ≤ m
      · exact makes_n2 A n cp ls m nm k sc w hnz hr hm hf h0 h1
      · exact makes_main A n cp ls m nm k sc w hnz hr hm hf h0 h1
theorem dirMakes_lifted (os : Os) (started : os.Started) (H : Type) (enc : TypeId × Value → H) :
    ReturnsInHanded {} Try.checked os 3 .any (Rows.dirMakesSpec.pre6 enc Try.prog Try.f3 Rows.dirMakesRow.domain false) (Rows.dirMakesSpec.post enc Try.prog Try.f3 false true false false) := by
  refine returnsInHanded_of_change_sized (C := Try.checked) own started (by kernel_rfl) Try.func3
    (ChangeSpec.witness6 (enc := enc) (C := Try.checked) false ⟨#[], #[.slice none 0 0, .int .i64 0, .string ⟨#[]⟩, .int .i64 0, .int .i64 0], []⟩ 8 (by kernel_rfl) (by kernel_rfl) (by kernel_rfl) (by kernel_rfl)) ?_
  intro W base args ds gs before hval hW _ hsz _
  have hW' := hW
  obtain ⟨p, q, hA, hV, rfl, hfz, hnd⟩ := hW
  obtain ⟨rfl, rfl⟩ := trodVars_none hV
  rw [Try.params3] at hA hval
  obtain ⟨v0, vs0, d0, ds0, p0, q0, hargs, rfl, rfl, h0, r0⟩ := trodAll_cons hA
  obtain ⟨v1, vs1, d1, ds1, p1, q1, rfl, rfl, rfl, h1, r1⟩ := trodAll_cons r0
  obtain ⟨v2, vs2, d2, ds2, p2, q2, rfl, rfl, rfl, h2, r2⟩ := trodAll_cons r1
  obtain ⟨v3, vs3, d3, ds3, p3, q3, rfl, rfl, rfl, h3, r3⟩ := trodAll_cons r2
  obtain ⟨v4, vs4, d4, ds4, p4, q4, rfl, rfl, rfl, h4, r4⟩ := trodAll_cons r3
  obtain ⟨rfl, rfl, rfl⟩ := trodAll_nil r4
  obtain rfl : args = #[v0, v1, v2, v3, v4] := by cases args; simp_all
  obtain ⟨A, n, cp, rs, rfl, _, hr, hds⟩ := open_chans (hval 0 _ v0 rfl rfl) h0
  obtain ⟨m, rfl, _, _, _⟩ := open_int Try.underlying3 (hval 1 _ v1 rfl rfl) h1
  obtain ⟨nm, rfl, _, _, wx⟩ := open_string Try.underlying9 (hval 2 _ v2 rfl rfl) h2
  obtain ⟨k, rfl, _, _, _⟩ := open_int Try.underlying3 (hval 3 _ v3 rfl rfl) h3
  obtain ⟨sc, rfl, _, _, _⟩ := open_int Try.underlying2 (hval 4 _ v4 rfl rfl) h4
  refine (dirMakes_any A n cp rs m nm k sc W wx hr (small_chans hsz (j := 0) rfl rfl hds)).mono fun e W' ⟨he, hg⟩ => ?_
  subst he
  exact ⟨_, rfl, law_post laidOut rfl (by kernel_rfl) rfl Try.underlying4 rfl hW' hg⟩

theorem dirMakes_holds : Rows.DirMakesSaid :=
  OpenClaim.holds_of_wide 3 Try.f3 rfl rfl rfl rfl rfl rfl rfl ⟨rfl, rfl, rfl, rfl, rfl⟩ rfl rfl rfl rfl rfl (by kernel_rfl) Try.func3 (by kernel_rfl)
    (of_decide_eq_true (by kernel_rfl)) (by unfold Func.isWrapper; first | (rw [if_pos (by decide +kernel)]; kernel_rfl) | (rw [if_neg (by decide +kernel)]; exact ⟨rfl, rfl⟩))
    (fun os started H enc _ => dirMakes_lifted os started H enc)

end Go.Proofs.Ytblaccmphofbcaa
