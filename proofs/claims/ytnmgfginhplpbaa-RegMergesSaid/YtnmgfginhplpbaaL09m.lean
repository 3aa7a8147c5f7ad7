/- Whatever the list: eddylaw09's RegMost returns true. No conditions. -/
import Derived.Test.YtnmgfginhplpbaaL09a
import Derived.Test.YtnmgfginhplpbaaMostW
import Derived.Test.YtnmgfginhplpbaaOpnR
namespace Go.Proofs.Ytnmgfginhplpbaa
open Go.ChangeShapes Go.WideShapes Go.ChangeAt Go.RowKit Go.Joins
set_option linter.unusedVariables false
set_option maxHeartbeats 4000000 in
theorem regMost_any (A : Option Addr) (n c : Nat) (rs : List R) (w : World) (hr : RegsAt w w.heap.size A n rs) (hm : n * 24 ≤ reachBytes) :
    Calls Try.prog 6 #[.slice A n c] w fun e w' => e = .returned (.bool true) ∧ Below w.heap.size w w' := by
  have hm' : n * 24 ≤ 140737488351232 := by unfold reachBytes at hm; omega
  clear hm
  have c1 := fun w hr => most_any A n c rs w hr hm'
  have c2 := fun w hr => rmost_any A n c rs w hr hm'
  generalize mostR rs = m at *
  obtain ⟨mv, mw, mf⟩ := m
  have C1 := Lib.hid c1; have C2 := Lib.hid c2
  clear c1 c2
  go_enter Try.func6, Try.ntmps6
  go_wp2_with (fail)
  refine (C1.out _ hr).mono ?_; rintro e w1 ⟨rfl, hb1⟩
  have hr1 := (hr.below hb1).more hb1.size
  go_wp2_with (fail)
  refine (C2.out _ hr1).mono ?_; rintro e w2 ⟨rfl, hb2⟩
  have hb3 := hb1.trans (hb2.mono hb1.size)
  clear hr hr1
  go_wp2_with (fail)
  refine (awake_any _).mono ?_; rintro e w3 ⟨rfl, hb4⟩
  go_wp2
  go_ret
  exact ⟨rfl, hb3.trans (hb4.mono hb3.size)⟩
theorem regMost_lifted (os : Os) (started : os.Started) (H : Type) (enc : TypeId × Value → H) :
    ReturnsInHanded {} Try.checked os 6 .any (Rows.regMostSpec.pre6 enc Try.prog Try.f6 Rows.regMostRow.domain false) (Rows.regMostSpec.post enc Try.prog Try.f6 false true false false) := by
  refine returnsInHanded_of_change_sized (C := Try.checked) own started (by kernel_rfl) Try.func6
    (ChangeSpec.witness6 (enc := enc) (C := Try.checked) false ⟨#[], #[.slice none 0 0], []⟩ 8 (by kernel_rfl) (by kernel_rfl) (by kernel_rfl) (by kernel_rfl)) ?_
  intro W base args ds gs before hval hW _ hsz _
  have hW' := hW
  obtain ⟨p, q, hA, hV, rfl, hfz, hnd⟩ := hW
  obtain ⟨rfl, rfl⟩ := trodVars_none hV
  rw [Try.params6] at hA hval
  obtain ⟨v0, vs0, d0, ds0, p0, q0, hargs, rfl, rfl, h0, r0⟩ := trodAll_cons hA
  obtain ⟨rfl, rfl, rfl⟩ := trodAll_nil r0
  obtain rfl : args = #[v0] := by cases args; simp_all
  obtain ⟨A, n, c, rs, rfl, _, hr, hds⟩ := open_regs Try.underlying37 Try.underlying23 (by kernel_rfl) (by kernel_rfl) rfl rfl Try.underlying2 Try.underlying3 Try.underlying2 (hval 0 _ v0 rfl rfl) h0
  refine (regMost_any A n c rs W hr (small_regs hsz (j := 0) rfl rfl Try.underlying37 (by kernel_rfl) hds)).mono fun e W' ⟨he, hg⟩ => ?_
  subst he
  exact ⟨_, rfl, law_post laidOut rfl (by kernel_rfl) rfl Try.underlying4 rfl hW' hg⟩

theorem regMost_holds : Rows.RegMostSaid :=
  OpenClaim.holds_of_wide 6 Try.f6 rfl rfl rfl rfl rfl rfl rfl ⟨rfl, rfl, rfl, rfl, rfl⟩ rfl rfl rfl rfl rfl (by kernel_rfl) Try.func6 (by kernel_rfl)
    (of_decide_eq_true (by kernel_rfl)) (by unfold Func.isWrapper; first | (rw [if_pos (by decide +kernel)]; kernel_rfl) | (rw [if_neg (by decide +kernel)]; exact ⟨rfl, rfl⟩))
    (fun os started H enc _ => regMost_lifted os started H enc)

end Go.Proofs.Ytnmgfginhplpbaa
