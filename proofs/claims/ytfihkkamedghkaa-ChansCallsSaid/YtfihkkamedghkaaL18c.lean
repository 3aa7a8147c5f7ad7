/- Whatever the arguments: eddylaw18's ChansCalls returns true. No conditions. -/
import Derived.Test.YtfihkkamedghkaaStY
import Derived.Test.YtfihkkamedghkaaStS
import Derived.Test.YtfihkkamedghkaaStO
import Derived.Test.YtfihkkamedghkaaStP
import Derived.Test.YtfihkkamedghkaaLaw
import Derived.ChangeMaps5
import Derived.Deep.Cut
namespace Go.Proofs.Ytfihkkamedghkaa
open Go.ChangeShapes Go.WideShapes Go.ChangeAt Go.RowKit Go.Joins Go.ChangeMaps
set_option linter.unusedVariables false
set_option maxRecDepth 100000
set_option maxRecDepth 100000 in
set_option maxHeartbeats 8000000 in
theorem chansCalls_any (id : Int) (A : Option Addr) (n cp : Nat) (rs : List St) (nm : ByteArray) (k x : Int) (w : World) (hnz : nm.size ≤ maxLen) (hr : StsAt w w.heap.size A n rs) (hm : n * 136 ≤ 140737488351232) :
    Calls Try.prog 3 #[.int .i64 id, .slice A n cp, .string nm, .int .i64 k, .int .i64 x] w fun e w' => e = .returned (.bool true) ∧ Below w.heap.size w w' := by
  have HR := Lib.hid hr
  clear hr
  have f2 := fun W (hb : Below w.heap.size w W) => srfit_any id A n cp rs W ((HR.out.below hb).more hb.size) hm
  obtain ⟨q1, hq1⟩ : ∃ b, stsB id rs = b := ⟨_, rfl⟩
  rw [hq1] at f2
  have F2 := Lib.hid f2; have HQ1 := Lib.hid hq1
  clear f2 hq1
  go_enter Try.func3, Try.ntmps3
  go_wp2_with (fail)
  refine (F2.out _ (by repeat (first | with_reducible refine Below.setCell ?_ (by first | (simp; done) | (simp; omega) | omega) _ | with_reducible refine Below.alloc ?_ (by first | (simp; done) | (simp; omega) | omega) _ | with_reducible refine Below.drew ?_ | with_reducible refine below_drewN ?_ _ | with_reducible exact Below.refl _ _))).mono ?_; rintro e w1 ⟨rfl, hb1⟩
  have kw_w1 : Below w.heap.size w w1 := (by repeat (first | with_reducible refine Below.setCell ?_ (by first | (simp; done) | (simp; omega) | omega) _ | with_reducible refine Below.alloc ?_ (by first | (simp; done) | (simp; omega) | omega) _ | with_reducible refine Below.drew ?_ | with_reducible refine below_drewN ?_ _ | with_reducible exact Below.refl _ _ | with_reducible refine Below.trans ?_ (Below.mono hb1 (by first | (simp; done) | (simp; omega) | omega))))
  clear hb1
  cases q1 with
  | false =>
    have hs1 := kw_w1.size
    go_wp2_with (fail)
    refine (awake_any _).mono ?_; rintro x w2 ⟨rfl, hb2⟩
    go_wp2
    go_ret
    exact ⟨rfl, (by repeat (first | with_reducible refine Below.setCell ?_ (by first | (simp; done) | (simp; omega) | omega) _ | with_reducible refine Below.alloc ?_ (by first | (simp; done) | (simp; omega) | omega) _ | with_reducible refine Below.drew ?_ | with_reducible refine below_drewN ?_ _ | with_reducible exact Below.refl _ _ | with_reducible refine Below.trans ?_ (Below.mono hb2 (by first | (simp; done) | (simp; omega) | omega)) | with_reducible refine Below.trans ?_ (Below.mono kw_w1 (by first | (simp; done) | (simp; omega) | omega))))⟩
  | true =>
  have HL := Lib.hid HR.out.len
  have HF1 : Hid (stsB id (stCre rs id nm k x).1 = true) := Lib.hid (cre_fit HQ1.out)
  have HN1 : Hid (∀ y ∈ (stCre rs id nm k x).1, y.ch.name.size ≤ maxLen) := Lib.hid (cre_nms hnz HR.out.2)
  have p1 := fun (A : Option Addr) cp W (h : StsAt W W.heap.size A n rs) => screate_any A n cp rs id nm k x W hnz h (sts_fits HQ1.out) hm
  have q1 := fun (A : Option Addr) cp W (h : StsAt W W.heap.size A n rs) => srcreate_any A n cp rs id nm k x W hnz h (sts_fits HQ1.out) hm
  have PA1 := Lib.hid p1; have QA1 := Lib.hid q1
  clear p1 q1
  obtain ⟨L1, er1, hres1⟩ : ∃ a b, stCre rs id nm k x = (a, b) := ⟨_, _, rfl⟩
  rw [hres1] at HF1 HN1 PA1 QA1
  simp only [] at HF1 HN1 PA1 QA1
  clear hres1
  have en1 : (er1 != er1) = false := by simp
  have ee1 : (er1 == er1) = true := by simp
  have hm1 := sts_len HF1.out
  have fa1 := fun (A : Option Addr) cp W (h : StsAt W W.heap.size A L1.length L1) => srfit_any id A L1.length cp L1 W h (sts_len HF1.out)
  rw [HF1.out] at fa1
  have FA1 := Lib.hid fa1
  clear fa1
  have HF2 : Hid (stsB id (stDel rs id nm).1 = true) := Lib.hid (del_fit HQ1.out)
  have HN2 : Hid (∀ y ∈ (stDel rs id nm).1, y.ch.name.size ≤ maxLen) := Lib.hid (del_nms HR.out.2)
  have p2 := fun (A : Option Addr) cp W (h : StsAt W W.heap.size A n rs) => sdelete_any A n cp rs id nm W hnz h (sts_fits HQ1.out) hm
  have q2 := fun (A : Option Addr) cp W (h : StsAt W W.heap.size A n rs) => srdelete_any A n cp rs id nm W hnz h (sts_fits HQ1.out) hm
  have PA2 := Lib.hid p2; have QA2 := Lib.hid q2
  clear p2 q2
  obtain ⟨L2, er2, hres2⟩ : ∃ a b, stDel rs id nm = (a, b) := ⟨_, _, rfl⟩
  rw [hres2] at HF2 HN2 PA2 QA2
  simp only [] at HF2 HN2 PA2 QA2
  clear hres2
  have en2 : (er2 != er2) = false := by simp
  have ee2 : (er2 == er2) = true := by simp
  have hm2 := sts_len HF2.out
  have fa2 := fun (A : Option Addr) cp W (h : StsAt W W.heap.size A L2.length L2) => srfit_any id A L2.length cp L2 W h (sts_len HF2.out)
  rw [HF2.out] at fa2
  have FA2 := Lib.hid fa2
  clear fa2
  have HF3 : Hid (stsB id (setR id rs nm x).1 = true) := Lib.hid (set_fit HQ1.out)
  have HN3 : Hid (∀ y ∈ (setR id rs nm x).1, y.ch.name.size ≤ maxLen) := Lib.hid (set_nms HR.out.2)
  have p3 := fun (A : Option Addr) cp W (h : StsAt W W.heap.size A n rs) => sset_any A n cp rs id nm x W h hm (sts_kind HQ1.out) (sts_ext HQ1.out) (sts_id HQ1.out).1 (sts_id HQ1.out).2
  have q3 := fun (A : Option Addr) cp W (h : StsAt W W.heap.size A n rs) => srset_any A n cp rs id nm x W h hm (sts_kind HQ1.out) (sts_ext HQ1.out) (sts_id HQ1.out).1 (sts_id HQ1.out).2
  have PA3 := Lib.hid p3; have QA3 := Lib.hid q3
  clear p3 q3
  obtain ⟨L3, er3, hres3⟩ : ∃ a b, setR id rs nm x = (a, b) := ⟨_, _, rfl⟩
  rw [hres3] at HF3 HN3 PA3 QA3
  simp only [] at HF3 HN3 PA3 QA3
  clear hres3
  have en3 : (er3 != er3) = false := by simp
  have ee3 : (er3 == er3) = true := by simp
  have hm3 := sts_len HF3.out
  have fa3 := fun (A : Option Addr) cp W (h : StsAt W W.heap.size A L3.length L3) => srfit_any id A L3.length cp L3 W h (sts_len HF3.out)
  rw [HF3.out] at fa3
  have FA3 := Lib.hid fa3
  clear fa3
  have SM : Hid (∀ (ra : List St) (A1 : Option Addr) c1 n1 (A2 : Option Addr) c2 W (h1 : StsAt W W.heap.size A1 n1 ra) (h2 : StsAt W W.heap.size A2 n1 ra) (hm : n1 * 136 ≤ 140737488351232), Calls Try.prog 14 #[.slice A1 n1 c1, .slice A2 n1 c2] W fun x w' => x = .returned (.bool true) ∧ Below W.heap.size W w') := Lib.hid (fun ra A1 c1 n1 A2 c2 W h1 h2 hm => by have := srsame_any A1 n1 c1 ra A2 n1 c2 ra W h1 h2 hm hm; rwa [sameS_eq rfl] at this)
  go_wp2_with (fail)
  refine (srcopy_any A n cp rs _ ((HR.out.below kw_w1).more kw_w1.size) hm).mono ?_; rintro e w2 ⟨lv2, rfl, hown2, hb2⟩
  have kw_w2 : Below w.heap.size w w2 := kw_w1.trans (hb2.mono kw_w1.size)
  obtain ⟨A2, c2, rfl, hat2⟩ := hown2.at_ HR.out.2
  rw [HL.out] at hat2
  rw [HL.out]
  have T2 := Lib.hid hat2
  clear hat2 hown2
  have kw2_w2 : Below w2.heap.size w2 w2 := Below.refl _ _
  clear hb2 kw_w1
  go_wp2_with (fail)
  refine (PA1.out A2 c2 _ T2.out).mono ?_; rintro e w3 ⟨lv3, rfl, hown3, hb3⟩
  have kw_w3 : Below w.heap.size w w3 := kw_w2.trans (hb3.mono kw_w2.size)
  have kw2_w3 : Below w2.heap.size w2 w3 := kw2_w2.trans (hb3.mono kw2_w2.size)
  obtain ⟨A3, c3, rfl, hat3⟩ := hown3.at_ HN1.out
  have T3 := Lib.hid hat3
  clear hat3 hown3
  have kw3_w3 : Below w3.heap.size w3 w3 := Below.refl _ _
  clear hb3 kw_w2 kw2_w2
  go_wp2_with (fail)
  refine (QA1.out A cp _ ((HR.out.below kw_w3).more kw_w3.size)).mono ?_; rintro e w4 ⟨lv4, rfl, hown4, hb4⟩
  have kw_w4 : Below w.heap.size w w4 := kw_w3.trans (hb4.mono kw_w3.size)
  have kw2_w4 : Below w2.heap.size w2 w4 := kw2_w3.trans (hb4.mono kw2_w3.size)
  have kw3_w4 : Below w3.heap.size w3 w4 := kw3_w3.trans (hb4.mono kw3_w3.size)
  obtain ⟨A4, c4, rfl, hat4⟩ := hown4.at_ HN1.out
  have T4 := Lib.hid hat4
  clear hat4 hown4
  clear hb4 kw_w3 kw2_w3 kw3_w3
  go_wp2_with (fail)
  refine (SM.out L1 A3 c3 L1.length A4 c4 _ ((T3.out.below kw3_w4).more kw3_w4.size) T4.out hm1).mono ?_; rintro e w5 ⟨rfl, hb5⟩
  have kw_w5 : Below w.heap.size w w5 := kw_w4.trans (hb5.mono kw_w4.size)
  have kw2_w5 : Below w2.heap.size w2 w5 := kw2_w4.trans (hb5.mono kw2_w4.size)
  have kw3_w5 : Below w3.heap.size w3 w5 := kw3_w4.trans (hb5.mono kw3_w4.size)
  clear hb5 kw_w4 kw2_w4 kw3_w4
  go_wp2_with (fail)
  refine (FA1.out A3 c3 _ ((T3.out.below kw3_w5).more kw3_w5.size)).mono ?_; rintro e w6 ⟨rfl, hb6⟩
  have kw_w6 : Below w.heap.size w w6 := kw_w5.trans (hb6.mono kw_w5.size)
  have kw2_w6 : Below w2.heap.size w2 w6 := kw2_w5.trans (hb6.mono kw2_w5.size)
  have kw3_w6 : Below w3.heap.size w3 w6 := kw3_w5.trans (hb6.mono kw3_w5.size)
  clear hb6 kw_w5 kw2_w5 kw3_w5
  go_wp2_with (fail)
  refine (PA2.out A2 c2 _ ((T2.out.below kw2_w6).more kw2_w6.size)).mono ?_; rintro e w7 ⟨lv7, rfl, hown7, hb7⟩
  have kw_w7 : Below w.heap.size w w7 := kw_w6.trans (hb7.mono kw_w6.size)
  have kw2_w7 : Below w2.heap.size w2 w7 := kw2_w6.trans (hb7.mono kw2_w6.size)
  obtain ⟨A7, c7, rfl, hat7⟩ := hown7.at_ HN2.out
  have T7 := Lib.hid hat7
  clear hat7 hown7
  have kw7_w7 : Below w7.heap.size w7 w7 := Below.refl _ _
  clear hb7 kw_w6 kw2_w6
  go_wp2_with (fail)
  refine (QA2.out A cp _ ((HR.out.below kw_w7).more kw_w7.size)).mono ?_; rintro e w8 ⟨lv8, rfl, hown8, hb8⟩
  have kw_w8 : Below w.heap.size w w8 := kw_w7.trans (hb8.mono kw_w7.size)
  have kw2_w8 : Below w2.heap.size w2 w8 := kw2_w7.trans (hb8.mono kw2_w7.size)
  have kw7_w8 : Below w7.heap.size w7 w8 := kw7_w7.trans (hb8.mono kw7_w7.size)
  obtain ⟨A8, c8, rfl, hat8⟩ := hown8.at_ HN2.out
  have T8 := Lib.hid hat8
  clear hat8 hown8
  clear hb8 kw_w7 kw2_w7 kw7_w7
  go_wp2_with (fail)
  refine (SM.out L2 A7 c7 L2.length A8 c8 _ ((T7.out.below kw7_w8).more kw7_w8.size) T8.out hm2).mono ?_; rintro e w9 ⟨rfl, hb9⟩
  have kw_w9 : Below w.heap.size w w9 := kw_w8.trans (hb9.mono kw_w8.size)
  have kw2_w9 : Below w2.heap.size w2 w9 := kw2_w8.trans (hb9.mono kw2_w8.size)
  have kw7_w9 : Below w7.heap.size w7 w9 := kw7_w8.trans (hb9.mono kw7_w8.size)
  clear hb9 kw_w8 kw2_w8 kw7_w8
  go_wp2_with (fail)
  refine (FA2.out A7 c7 _ ((T7.out.below kw7_w9).more kw7_w9.size)).mono ?_; rintro e w10 ⟨rfl, hb10⟩
  have kw_w10 : Below w.heap.size w w10 := kw_w9.trans (hb10.mono kw_w9.size)
  have kw2_w10 : Below w2.heap.size w2 w10 := kw2_w9.trans (hb10.mono kw2_w9.size)
  have kw7_w10 : Below w7.heap.size w7 w10 := kw7_w9.trans (hb10.mono kw7_w9.size)
  clear hb10 kw_w9 kw2_w9 kw7_w9
  go_wp2_with (fail)
  refine (PA3.out A2 c2 _ ((T2.out.below kw2_w10).more kw2_w10.size)).mono ?_; rintro e w11 ⟨lv11, rfl, hown11, hb11⟩
  have kw_w11 : Below w.heap.size w w11 := kw_w10.trans (hb11.mono kw_w10.size)
  have kw2_w11 : Below w2.heap.size w2 w11 := kw2_w10.trans (hb11.mono kw2_w10.size)
  obtain ⟨A11, c11, rfl, hat11⟩ := hown11.at_n
  have T11 := Lib.hid hat11
  clear hat11 hown11
  have kw11_w11 : Below w11.heap.size w11 w11 := Below.refl _ _
  clear hb11 kw_w10 kw2_w10
  go_wp2_with (fail)
  refine (QA3.out A cp _ ((HR.out.below kw_w11).more kw_w11.size)).mono ?_; rintro e w12 ⟨lv12, rfl, hown12, hb12⟩
  have kw_w12 : Below w.heap.size w w12 := kw_w11.trans (hb12.mono kw_w11.size)
  have kw2_w12 : Below w2.heap.size w2 w12 := kw2_w11.trans (hb12.mono kw2_w11.size)
  have kw11_w12 : Below w11.heap.size w11 w12 := kw11_w11.trans (hb12.mono kw11_w11.size)
  obtain ⟨A12, c12, rfl, hat12⟩ := hown12.at_n
  have T12 := Lib.hid hat12
  clear hat12 hown12
  clear hb12 kw_w11 kw2_w11 kw11_w11
  go_wp2_with (fail)
  refine (SM.out L3 A11 c11 L3.length A12 c12 _ ((T11.out.below kw11_w12).more kw11_w12.size) T12.out hm3).mono ?_; rintro e w13 ⟨rfl, hb13⟩
  have kw_w13 : Below w.heap.size w w13 := kw_w12.trans (hb13.mono kw_w12.size)
  have kw2_w13 : Below w2.heap.size w2 w13 := kw2_w12.trans (hb13.mono kw2_w12.size)
  have kw11_w13 : Below w11.heap.size w11 w13 := kw11_w12.trans (hb13.mono kw11_w12.size)
  clear hb13 kw_w12 kw2_w12 kw11_w12
  go_wp2_with (fail)
  refine (FA3.out A11 c11 _ ((T11.out.below kw11_w13).more kw11_w13.size)).mono ?_; rintro e w14 ⟨rfl, hb14⟩
  have kw_w14 : Below w.heap.size w w14 := kw_w13.trans (hb14.mono kw_w13.size)
  have kw2_w14 : Below w2.heap.size w2 w14 := kw2_w13.trans (hb14.mono kw2_w13.size)
  have kw11_w14 : Below w11.heap.size w11 w14 := kw11_w13.trans (hb14.mono kw11_w13.size)
  clear hb14 kw_w13 kw2_w13 kw11_w13
  go_wp2_with (fail)
  refine (SM.out rs A2 c2 n A cp _ ((T2.out.below kw2_w14).more kw2_w14.size) ((HR.out.below kw_w14).more kw_w14.size) hm).mono ?_; rintro e w15 ⟨rfl, hb15⟩
  have kw_w15 : Below w.heap.size w w15 := kw_w14.trans (hb15.mono kw_w14.size)
  have kw2_w15 : Below w2.heap.size w2 w15 := kw2_w14.trans (hb15.mono kw2_w14.size)
  clear hb15 kw_w14 kw2_w14
  go_wp2_with (fail)
  refine (awake_any _).mono ?_; rintro e w16 ⟨rfl, hb16⟩
  have kw_w16 : Below w.heap.size w w16 := kw_w15.trans (hb16.mono kw_w15.size)
  have kw2_w16 : Below w2.heap.size w2 w16 := kw2_w15.trans (hb16.mono kw2_w15.size)
  clear hb16 kw_w15 kw2_w15
  go_wp2
  go_ret
  exact ⟨rfl, kw_w16⟩
theorem chansCalls_lifted (os : Os) (started : os.Started) (H : Type) (enc : TypeId × Value → H) :
    ReturnsInHanded {} Try.checked os 3 .any (Rows.chansCallsSpec.pre6 enc Try.prog Try.f3 Rows.chansCallsRow.domain false) (Rows.chansCallsSpec.post enc Try.prog Try.f3 false true false false) := by
  refine returnsInHanded_of_change_sized (C := Try.checked) own started (by kernel_rfl) Try.func3
    (ChangeSpec.witness6 (enc := enc) (C := Try.checked) false ⟨#[], #[.int .i64 0, .slice none 0 0, .string ⟨#[]⟩, .int .i64 0, .int .i64 0], []⟩ 8 (by kernel_rfl) (by kernel_rfl) (by kernel_rfl) (by kernel_rfl)) ?_
  intro W base args ds gs before hval hW _ hsz _
  have hW' := hW
  obtain ⟨p, q, hA, hV, rfl, hfz, hnd⟩ := hW
  obtain ⟨rfl, rfl⟩ := trodVars_none hV
  rw [Try.params3] at hA hval
  obtain ⟨v0, vs0, d0, ds0, p0, q0, hargs, rfl, rfl, h0, r0⟩ := trodAll_cons hA
  obtain ⟨v1, vs1, d1, ds1, p1, q1, rfl, rfl, rfl, h1, r1⟩ := trodAll_cons r0
  obtain ⟨v2, vs2, d2, ds2, p2, q2, rfl, rfl, rfl, h2, r2⟩ := trodAll_cons r1
  obtain ⟨v3, vs3, d3, ds3, p3, q3, rfl, rfl, rfl, h3, r3⟩ := trodAll_cons r2
  obtain ⟨v4, vs4, d4, ds4, p4, q4, rfl, rfl, rfl, h4, r4⟩ := trodAll_cons r3
  obtain ⟨rfl, rfl, rfl⟩ := trodAll_nil r4
  obtain rfl : args = #[v0, v1, v2, v3, v4] := by cases args; simp_all
  obtain ⟨id, rfl, _, _, _⟩ := open_int Try.underlying3 (hval 0 _ v0 rfl rfl) h0
  obtain ⟨A, n, cp, rs, rfl, _, hr, hds⟩ := open_states (hval 1 _ v1 rfl rfl) h1
  obtain ⟨nm, rfl, _, _, wx⟩ := open_string Try.underlying9 (hval 2 _ v2 rfl rfl) h2
  obtain ⟨k, rfl, _, _, _⟩ := open_int Try.underlying3 (hval 3 _ v3 rfl rfl) h3
  obtain ⟨x, rfl, _, _, _⟩ := open_int Try.underlying2 (hval 4 _ v4 rfl rfl) h4
  refine (chansCalls_any id A n cp rs nm k x W wx hr (small_states hsz (j := 1) rfl rfl hds)).mono fun e W' ⟨he, hg⟩ => ?_
  subst he
  exact ⟨_, rfl, law_post laidOut rfl (by kernel_rfl) rfl Try.underlying4 rfl hW' hg⟩

theorem chansCalls_holds : Rows.ChansCallsSaid :=
  OpenClaim.holds_of_wide 3 Try.f3 rfl rfl rfl rfl rfl rfl rfl ⟨rfl, rfl, rfl, rfl, rfl⟩ rfl rfl rfl rfl rfl (by kernel_rfl) Try.func3 (by kernel_rfl)
    (of_decide_eq_true (by kernel_rfl)) (by unfold Func.isWrapper; first | (rw [if_pos (by decide +kernel)]; kernel_rfl) | (rw [if_neg (by decide +kernel)]; exact ⟨rfl, rfl⟩))
    (fun os started H enc _ => chansCalls_lifted os started H enc)

end Go.Proofs.Ytfihkkamedghkaa
