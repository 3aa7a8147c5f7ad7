/- Whatever the arguments: eddylaw18's ChansFits returns true. No conditions. -/
import Derived.Test.YtfihkkamedghkaaStY
import Derived.Test.YtfihkkamedghkaaStS
import Derived.Test.YtfihkkamedghkaaStO
import Derived.Test.YtfihkkamedghkaaLaw
import Derived.ChangeMaps5
import Derived.Deep.Cut
namespace Go.Proofs.Ytfihkkamedghkaa
open Go.ChangeShapes Go.WideShapes Go.ChangeAt Go.RowKit Go.Joins Go.ChangeMaps
set_option linter.unusedVariables false
set_option maxRecDepth 100000
set_option maxRecDepth 100000 in
set_option maxHeartbeats 8000000 in
theorem chansFits_any (id : Int) (A : Option Addr) (n cp : Nat) (rs : List St) (A2 : Option Addr) (n2 cp2 : Nat) (ms : List St) (k : Int) (w : World) (hr : StsAt w w.heap.size A n rs) (hm : n * 136 ≤ 140737488351232) (hr2 : StsAt w w.heap.size A2 n2 ms) (hm2 : n2 * 136 ≤ 140737488351232) :
    Calls Try.prog 6 #[.int .i64 id, .slice A n cp, .slice A2 n2 cp2, .int .i64 k] w fun x w' => x = .returned (.bool true) ∧ Below w.heap.size w w' := by
  have HR := Lib.hid hr
  have HR2 := Lib.hid hr2
  clear hr hr2
  have f1 := fun W (hb : Below w.heap.size w W) => sfit_any id A n cp rs W ((HR.out.below hb).more hb.size) hm
  have f2 := fun W (hb : Below w.heap.size w W) => srfit_any id A n cp rs W ((HR.out.below hb).more hb.size) hm
  have g1 := fun W => sflows_any k W
  have g2 := fun W => srflows_any k W
  have s1 := fun W (hb : Below w.heap.size w W) => ssame_any A n cp rs A2 n2 cp2 ms W ((HR.out.below hb).more hb.size) ((HR2.out.below hb).more hb.size) hm hm2
  have s2 := fun W (hb : Below w.heap.size w W) => srsame_any A n cp rs A2 n2 cp2 ms W ((HR.out.below hb).more hb.size) ((HR2.out.below hb).more hb.size) hm hm2
  have cc := fun W (hb : Below w.heap.size w W) => srcopy_any A n cp rs W ((HR.out.below hb).more hb.size) hm
  generalize stsB id rs = q1 at *
  generalize (decide (1 ≤ k) && decide (k ≤ 3)) = q2 at *
  generalize sameS rs ms = q3 at *
  have F1 := Lib.hid f1; have F2 := Lib.hid f2; have G1 := Lib.hid g1; have G2 := Lib.hid g2; have S1 := Lib.hid s1; have S2 := Lib.hid s2; have CC := Lib.hid cc
  clear f1 f2 g1 g2 s1 s2 cc
  have kb0 : Below w.heap.size w w := Below.refl _ _
  have hs0 := kb0.size
  have e1 : (q1 == q1) = true := by cases q1 <;> rfl
  have e2 : (q2 == q2) = true := by cases q2 <;> rfl
  have e3 : (q3 == q3) = true := by cases q3 <;> rfl
  go_enter Try.func6, Try.ntmps6
  go_wp2_with (fail)
  refine (F1.out _ (by repeat (first | with_reducible refine Below.setCell ?_ (by first | (simp; done) | (simp; omega) | omega) _ | with_reducible refine Below.alloc ?_ (by first | (simp; done) | (simp; omega) | omega) _ | with_reducible refine Below.drew ?_ | with_reducible refine below_drewN ?_ _ | with_reducible exact Below.refl _ _ | with_reducible refine Below.trans ?_ (Below.mono kb0 (by first | (simp; done) | (simp; omega) | omega))))).mono ?_; rintro e w1 ⟨rfl, hb1⟩
  have kb1 : Below w.heap.size w w1 := (by repeat (first | with_reducible refine Below.setCell ?_ (by first | (simp; done) | (simp; omega) | omega) _ | with_reducible refine Below.alloc ?_ (by first | (simp; done) | (simp; omega) | omega) _ | with_reducible refine Below.drew ?_ | with_reducible refine below_drewN ?_ _ | with_reducible exact Below.refl _ _ | with_reducible refine Below.trans ?_ (Below.mono hb1 (by first | (simp; done) | (simp; omega) | omega)) | with_reducible refine Below.trans ?_ (Below.mono kb0 (by first | (simp; done) | (simp; omega) | omega))))
  have hs1 := kb1.size
  clear hb1
  go_wp2_with (fail)
  refine (F2.out _ (by repeat (first | with_reducible refine Below.setCell ?_ (by first | (simp; done) | (simp; omega) | omega) _ | with_reducible refine Below.alloc ?_ (by first | (simp; done) | (simp; omega) | omega) _ | with_reducible refine Below.drew ?_ | with_reducible refine below_drewN ?_ _ | with_reducible exact Below.refl _ _ | with_reducible refine Below.trans ?_ (Below.mono kb1 (by first | (simp; done) | (simp; omega) | omega))))).mono ?_; rintro e w2 ⟨rfl, hb2⟩
  have kb2 : Below w.heap.size w w2 := (by repeat (first | with_reducible refine Below.setCell ?_ (by first | (simp; done) | (simp; omega) | omega) _ | with_reducible refine Below.alloc ?_ (by first | (simp; done) | (simp; omega) | omega) _ | with_reducible refine Below.drew ?_ | with_reducible refine below_drewN ?_ _ | with_reducible exact Below.refl _ _ | with_reducible refine Below.trans ?_ (Below.mono hb2 (by first | (simp; done) | (simp; omega) | omega)) | with_reducible refine Below.trans ?_ (Below.mono kb1 (by first | (simp; done) | (simp; omega) | omega))))
  have hs2 := kb2.size
  clear hb2
  go_wp2_with (fail)
  refine (G1.out _).mono ?_; rintro e w3 ⟨rfl, hb3⟩
  have kb3 : Below w.heap.size w w3 := (by repeat (first | with_reducible refine Below.setCell ?_ (by first | (simp; done) | (simp; omega) | omega) _ | with_reducible refine Below.alloc ?_ (by first | (simp; done) | (simp; omega) | omega) _ | with_reducible refine Below.drew ?_ | with_reducible refine below_drewN ?_ _ | with_reducible exact Below.refl _ _ | with_reducible refine Below.trans ?_ (Below.mono hb3 (by first | (simp; done) | (simp; omega) | omega)) | with_reducible refine Below.trans ?_ (Below.mono kb2 (by first | (simp; done) | (simp; omega) | omega))))
  have hs3 := kb3.size
  clear hb3
  go_wp2_with (fail)
  refine (G2.out _).mono ?_; rintro e w4 ⟨rfl, hb4⟩
  have kb4 : Below w.heap.size w w4 := (by repeat (first | with_reducible refine Below.setCell ?_ (by first | (simp; done) | (simp; omega) | omega) _ | with_reducible refine Below.alloc ?_ (by first | (simp; done) | (simp; omega) | omega) _ | with_reducible refine Below.drew ?_ | with_reducible refine below_drewN ?_ _ | with_reducible exact Below.refl _ _ | with_reducible refine Below.trans ?_ (Below.mono hb4 (by first | (simp; done) | (simp; omega) | omega)) | with_reducible refine Below.trans ?_ (Below.mono kb3 (by first | (simp; done) | (simp; omega) | omega))))
  have hs4 := kb4.size
  clear hb4
  go_wp2_with (fail)
  refine (S1.out _ (by repeat (first | with_reducible refine Below.setCell ?_ (by first | (simp; done) | (simp; omega) | omega) _ | with_reducible refine Below.alloc ?_ (by first | (simp; done) | (simp; omega) | omega) _ | with_reducible refine Below.drew ?_ | with_reducible refine below_drewN ?_ _ | with_reducible exact Below.refl _ _ | with_reducible refine Below.trans ?_ (Below.mono kb4 (by first | (simp; done) | (simp; omega) | omega))))).mono ?_; rintro e w5 ⟨rfl, hb5⟩
  have kb5 : Below w.heap.size w w5 := (by repeat (first | with_reducible refine Below.setCell ?_ (by first | (simp; done) | (simp; omega) | omega) _ | with_reducible refine Below.alloc ?_ (by first | (simp; done) | (simp; omega) | omega) _ | with_reducible refine Below.drew ?_ | with_reducible refine below_drewN ?_ _ | with_reducible exact Below.refl _ _ | with_reducible refine Below.trans ?_ (Below.mono hb5 (by first | (simp; done) | (simp; omega) | omega)) | with_reducible refine Below.trans ?_ (Below.mono kb4 (by first | (simp; done) | (simp; omega) | omega))))
  have hs5 := kb5.size
  clear hb5
  go_wp2_with (fail)
  refine (S2.out _ (by repeat (first | with_reducible refine Below.setCell ?_ (by first | (simp; done) | (simp; omega) | omega) _ | with_reducible refine Below.alloc ?_ (by first | (simp; done) | (simp; omega) | omega) _ | with_reducible refine Below.drew ?_ | with_reducible refine below_drewN ?_ _ | with_reducible exact Below.refl _ _ | with_reducible refine Below.trans ?_ (Below.mono kb5 (by first | (simp; done) | (simp; omega) | omega))))).mono ?_; rintro e w6 ⟨rfl, hb6⟩
  have kb6 : Below w.heap.size w w6 := (by repeat (first | with_reducible refine Below.setCell ?_ (by first | (simp; done) | (simp; omega) | omega) _ | with_reducible refine Below.alloc ?_ (by first | (simp; done) | (simp; omega) | omega) _ | with_reducible refine Below.drew ?_ | with_reducible refine below_drewN ?_ _ | with_reducible exact Below.refl _ _ | with_reducible refine Below.trans ?_ (Below.mono hb6 (by first | (simp; done) | (simp; omega) | omega)) | with_reducible refine Below.trans ?_ (Below.mono kb5 (by first | (simp; done) | (simp; omega) | omega))))
  have hs6 := kb6.size
  clear hb6
  go_wp2_with (fail)
  refine (CC.out _ (by repeat (first | with_reducible refine Below.setCell ?_ (by first | (simp; done) | (simp; omega) | omega) _ | with_reducible refine Below.alloc ?_ (by first | (simp; done) | (simp; omega) | omega) _ | with_reducible refine Below.drew ?_ | with_reducible refine below_drewN ?_ _ | with_reducible exact Below.refl _ _ | with_reducible refine Below.trans ?_ (Below.mono kb6 (by first | (simp; done) | (simp; omega) | omega))))).mono ?_; rintro e w7 ⟨lv, rfl, hown, hb7⟩
  obtain ⟨A3, c3, rfl, hat3⟩ := hown.at_ HR.out.2
  have kb7 : Below w.heap.size w w7 := (by repeat (first | with_reducible refine Below.setCell ?_ (by first | (simp; done) | (simp; omega) | omega) _ | with_reducible refine Below.alloc ?_ (by first | (simp; done) | (simp; omega) | omega) _ | with_reducible refine Below.drew ?_ | with_reducible refine below_drewN ?_ _ | with_reducible exact Below.refl _ _ | with_reducible refine Below.trans ?_ (Below.mono hb7 (by first | (simp; done) | (simp; omega) | omega)) | with_reducible refine Below.trans ?_ (Below.mono kb6 (by first | (simp; done) | (simp; omega) | omega))))
  have hs7 := kb7.size
  have hlen := HR.out.len
  have s3 := fun W (hb : Below w7.heap.size w7 W) => ssame_any A n cp rs A3 rs.length c3 rs W ((HR.out.below (kb7.trans (hb.mono hs7))).more (kb7.trans (hb.mono hs7)).size) ((hat3.below hb).more hb.size) hm (by omega)
  rw [sameS_eq rfl] at s3
  have S3 := Lib.hid s3
  clear s3 hat3 hown hb7 hlen
  go_wp2_with (fail)
  refine (S3.out _ (by repeat (first | with_reducible refine Below.setCell ?_ (by first | (simp; done) | (simp; omega) | omega) _ | with_reducible refine Below.alloc ?_ (by first | (simp; done) | (simp; omega) | omega) _ | with_reducible refine Below.drew ?_ | with_reducible refine below_drewN ?_ _ | with_reducible exact Below.refl _ _))).mono ?_; rintro e w8 ⟨rfl, hb8⟩
  have kb8 : Below w.heap.size w w8 := (by repeat (first | with_reducible refine Below.setCell ?_ (by first | (simp; done) | (simp; omega) | omega) _ | with_reducible refine Below.alloc ?_ (by first | (simp; done) | (simp; omega) | omega) _ | with_reducible refine Below.drew ?_ | with_reducible refine below_drewN ?_ _ | with_reducible exact Below.refl _ _ | with_reducible refine Below.trans ?_ (Below.mono hb8 (by first | (simp; done) | (simp; omega) | omega)) | with_reducible refine Below.trans ?_ (Below.mono kb7 (by first | (simp; done) | (simp; omega) | omega))))
  have hs8 := kb8.size
  clear hb8
  go_wp2_with (fail)
  refine (awake_any _).mono ?_; rintro e w9 ⟨rfl, hb9⟩
  have kb9 : Below w.heap.size w w9 := (by repeat (first | with_reducible refine Below.setCell ?_ (by first | (simp; done) | (simp; omega) | omega) _ | with_reducible refine Below.alloc ?_ (by first | (simp; done) | (simp; omega) | omega) _ | with_reducible refine Below.drew ?_ | with_reducible refine below_drewN ?_ _ | with_reducible exact Below.refl _ _ | with_reducible refine Below.trans ?_ (Below.mono hb9 (by first | (simp; done) | (simp; omega) | omega)) | with_reducible refine Below.trans ?_ (Below.mono kb8 (by first | (simp; done) | (simp; omega) | omega))))
  have hs9 := kb9.size
  clear hb9
  go_wp2
  go_ret
  exact ⟨rfl, kb9⟩
theorem chansFits_lifted (os : Os) (started : os.Started) (H : Type) (enc : TypeId × Value → H) :
    ReturnsInHanded {} Try.checked os 6 .any (Rows.chansFitsSpec.pre6 enc Try.prog Try.f6 Rows.chansFitsRow.domain false) (Rows.chansFitsSpec.post enc Try.prog Try.f6 false true false false) := by
  refine returnsInHanded_of_change_sized (C := Try.checked) own started (by kernel_rfl) Try.func6
    (ChangeSpec.witness6 (enc := enc) (C := Try.checked) false ⟨#[], #[.int .i64 0, .slice none 0 0, .slice none 0 0, .int .i64 0], []⟩ 8 (by kernel_rfl) (by kernel_rfl) (by kernel_rfl) (by kernel_rfl)) ?_
  intro W base args ds gs before hval hW _ hsz _
  have hW' := hW
  obtain ⟨p, q, hA, hV, rfl, hfz, hnd⟩ := hW
  obtain ⟨rfl, rfl⟩ := trodVars_none hV
  rw [Try.params6] at hA hval
  obtain ⟨v0, vs0, d0, ds0, p0, q0, hargs, rfl, rfl, h0, r0⟩ := trodAll_cons hA
  obtain ⟨v1, vs1, d1, ds1, p1, q1, rfl, rfl, rfl, h1, r1⟩ := trodAll_cons r0
  obtain ⟨v2, vs2, d2, ds2, p2, q2, rfl, rfl, rfl, h2, r2⟩ := trodAll_cons r1
  obtain ⟨v3, vs3, d3, ds3, p3, q3, rfl, rfl, rfl, h3, r3⟩ := trodAll_cons r2
  obtain ⟨rfl, rfl, rfl⟩ := trodAll_nil r3
  obtain rfl : args = #[v0, v1, v2, v3] := by cases args; simp_all
  obtain ⟨id, rfl, _, _, _⟩ := open_int Try.underlying3 (hval 0 _ v0 rfl rfl) h0
  obtain ⟨A, n, cp, rs, rfl, _, hr, hds⟩ := open_states (hval 1 _ v1 rfl rfl) h1
  obtain ⟨A2, n2, cp2, ms, rfl, _, hr2, hds2⟩ := open_states (hval 2 _ v2 rfl rfl) h2
  obtain ⟨k, rfl, _, _, _⟩ := open_int Try.underlying3 (hval 3 _ v3 rfl rfl) h3
  refine (chansFits_any id A n cp rs A2 n2 cp2 ms k W hr (small_states hsz (j := 1) rfl rfl hds) hr2 (small_states hsz (j := 2) rfl rfl hds2)).mono fun e W' ⟨he, hg⟩ => ?_
  subst he
  exact ⟨_, rfl, law_post laidOut rfl (by kernel_rfl) rfl Try.underlying4 rfl hW' hg⟩

theorem chansFits_holds : Rows.ChansFitsSaid :=
  OpenClaim.holds_of_wide 6 Try.f6 rfl rfl rfl rfl rfl rfl rfl ⟨rfl, rfl, rfl, rfl, rfl⟩ rfl rfl rfl rfl rfl (by kernel_rfl) Try.func6 (by kernel_rfl)
    (of_decide_eq_true (by kernel_rfl)) (by unfold Func.isWrapper; first | (rw [if_pos (by decide +kernel)]; kernel_rfl) | (rw [if_neg (by decide +kernel)]; exact ⟨rfl, rfl⟩))
    (fun os started H enc _ => chansFits_lifted os started H enc)

end Go.Proofs.Ytfihkkamedghkaa
