/- Whatever the arguments: eddylaw18's ChansHears returns true. No conditions. -/
import Derived.Test.YtfihkkamedghkaaStY
import Derived.Test.YtfihkkamedghkaaStS
import Derived.Test.YtfihkkamedghkaaStO
import Derived.Test.YtfihkkamedghkaaStP
import Derived.Test.YtfihkkamedghkaaExtO
import Derived.Test.YtfihkkamedghkaaLaw
import Derived.ChangeMaps5
import Derived.Deep.Cut
namespace Go.Proofs.Ytfihkkamedghkaa
open Go.ChangeShapes Go.WideShapes Go.ChangeAt Go.RowKit Go.Joins Go.ChangeMaps
set_option linter.unusedVariables false
set_option maxRecDepth 100000
theorem KeptC.low {w W : World} {l : List (Addr × Value)} {F : List Addr} (h : KeptC w l F W) : Below w.heap.size w W := h.1
set_option maxRecDepth 100000 in
set_option maxHeartbeats 8000000 in
theorem chansHears_any (id : Int) (A : Option Addr) (n cp : Nat) (rs : List St) (nm : ByteArray) (dh : Bool) (dv dn da : Int) (uh : Bool) (uv un ua : Int) (w : World) (hr : StsAt w w.heap.size A n rs) (hm : n * 136 ≤ 140737488351232) :
    Calls Try.prog 8 #[.int .i64 id, .slice A n cp, .string nm, .agg #[.bool dh, .int .i64 dv, .int .i64 dn, .int .i64 da], .agg #[.bool uh, .int .i64 uv, .int .i64 un, .int .i64 ua]] w fun e w' => e = .returned (.bool true) ∧ Below w.heap.size w w' := by
  have HR := Lib.hid hr
  clear hr
  have f2 := fun W (hb : Below w.heap.size w W) => srfit_any id A n cp rs W ((HR.out.below hb).more hb.size) hm
  have fd := fun W => erfit_any dh dv dn da W
  have fu := fun W => erfit_any uh uv un ua W
  obtain ⟨q1, hq1⟩ : ∃ b, stsB id rs = b := ⟨_, rfl⟩
  obtain ⟨q2, hq2⟩ : ∃ b, efitB dh dv dn da = b := ⟨_, rfl⟩
  obtain ⟨q3, hq3⟩ : ∃ b, efitB uh uv un ua = b := ⟨_, rfl⟩
  rw [hq1] at f2
  rw [hq2] at fd
  rw [hq3] at fu
  have F2 := Lib.hid f2; have HQ1 := Lib.hid hq1; have FD := Lib.hid fd; have FU := Lib.hid fu; have HQ2 := Lib.hid hq2; have HQ3 := Lib.hid hq3
  clear f2 hq1 fd fu hq2 hq3
  go_enter Try.func8, Try.ntmps8
  go_wp2_with (fail)
  refine (F2.out _ (by repeat (first | with_reducible refine Below.setCell ?_ (by first | (simp; done) | (simp; omega) | omega) _ | with_reducible refine Below.alloc ?_ (by first | (simp; done) | (simp; omega) | omega) _ | with_reducible refine Below.drew ?_ | with_reducible refine below_drewN ?_ _ | with_reducible exact Below.refl _ _))).mono ?_; rintro e w1 ⟨rfl, hb1⟩
  have K_w1 : KeptC w [(⟨w.heap.size, 0, none⟩, .bool dh), (⟨w.heap.size, 1, none⟩, .int .i64 dv), (⟨w.heap.size, 2, none⟩, .int .i64 dn), (⟨w.heap.size, 3, none⟩, .int .i64 da), (⟨w.heap.size + 1, 0, none⟩, .bool uh), (⟨w.heap.size + 1, 1, none⟩, .int .i64 uv), (⟨w.heap.size + 1, 2, none⟩, .int .i64 un), (⟨w.heap.size + 1, 3, none⟩, .int .i64 ua)] [] w1 := KeptC.below (by (repeat' (first | refine KeptC.cons ?_ ?_ | refine KeptC.consF ?_ ?_ ?_ | refine KeptC.mk0 ?_)); all_goals (first | with_reducible assumption | (go_simp; done) | (simp; omega) | exact (by repeat (first | with_reducible refine Below.setCell ?_ (by first | (simp; done) | (simp; omega) | omega) _ | with_reducible refine Below.alloc ?_ (by first | (simp; done) | (simp; omega) | omega) _ | with_reducible refine Below.drew ?_ | with_reducible refine below_drewN ?_ _ | with_reducible exact Below.refl _ _)))) hb1
  clear hb1
  have kb1 := K_w1.low
  have hs1 := kb1.size
  cases q1 with
  | false =>
    go_wp2_with (fail)
    refine (awake_any _).mono ?_; rintro x w2 ⟨rfl, hb2⟩
    go_wp2
    go_ret
    exact ⟨rfl, (by repeat (first | with_reducible refine Below.setCell ?_ (by first | (simp; done) | (simp; omega) | omega) _ | with_reducible refine Below.alloc ?_ (by first | (simp; done) | (simp; omega) | omega) _ | with_reducible refine Below.drew ?_ | with_reducible refine below_drewN ?_ _ | with_reducible exact Below.refl _ _ | with_reducible refine Below.trans ?_ (Below.mono hb2 (by first | (simp; done) | (simp; omega) | omega)) | with_reducible refine Below.trans ?_ (Below.mono kb1 (by first | (simp; done) | (simp; omega) | omega))))⟩
  | true =>
  have K_w1' := K_w1; simp only [KeptC, List.forall_mem_cons] at K_w1'; go_split_ands
  go_wp2_with (fail)
  refine (FD.out _).mono ?_; rintro e w2 ⟨rfl, hb2⟩
  have K_w2 := K_w1.below hb2
  clear hb2
  have kb2 := K_w2.low
  have hs2 := kb2.size
  cases q2 with
  | false =>
    go_wp2_with (fail)
    refine (awake_any _).mono ?_; rintro x w3 ⟨rfl, hb3⟩
    go_wp2
    go_ret
    exact ⟨rfl, (by repeat (first | with_reducible refine Below.setCell ?_ (by first | (simp; done) | (simp; omega) | omega) _ | with_reducible refine Below.alloc ?_ (by first | (simp; done) | (simp; omega) | omega) _ | with_reducible refine Below.drew ?_ | with_reducible refine below_drewN ?_ _ | with_reducible exact Below.refl _ _ | with_reducible refine Below.trans ?_ (Below.mono hb3 (by first | (simp; done) | (simp; omega) | omega)) | with_reducible refine Below.trans ?_ (Below.mono kb2 (by first | (simp; done) | (simp; omega) | omega))))⟩
  | true =>
  have K_w2' := K_w2; simp only [KeptC, List.forall_mem_cons] at K_w2'; go_split_ands
  go_wp2_with (fail)
  refine (FU.out _).mono ?_; rintro e w3 ⟨rfl, hb3⟩
  have K_w3 := K_w2.below hb3
  clear hb3
  have kw_w3 := K_w3.low
  cases q3 with
  | false =>
    have kb3 := kw_w3
    have hs3 := kb3.size
    go_wp2_with (fail)
    refine (awake_any _).mono ?_; rintro x w4 ⟨rfl, hb4⟩
    go_wp2
    go_ret
    exact ⟨rfl, (by repeat (first | with_reducible refine Below.setCell ?_ (by first | (simp; done) | (simp; omega) | omega) _ | with_reducible refine Below.alloc ?_ (by first | (simp; done) | (simp; omega) | omega) _ | with_reducible refine Below.drew ?_ | with_reducible refine below_drewN ?_ _ | with_reducible exact Below.refl _ _ | with_reducible refine Below.trans ?_ (Below.mono hb4 (by first | (simp; done) | (simp; omega) | omega)) | with_reducible refine Below.trans ?_ (Below.mono kb3 (by first | (simp; done) | (simp; omega) | omega))))⟩
  | true =>
  have HL := Lib.hid HR.out.len
  have HF1 : Hid (stsB id (rs.map (tickX id)) = true) := Lib.hid (tick_fit HQ1.out)
  have HN1 : Hid (∀ y ∈ rs.map (tickX id), y.ch.name.size ≤ maxLen) := Lib.hid (tick_names HR.out.2)
  have p1 := fun (A : Option Addr) cp W (h : StsAt W W.heap.size A n rs) => stick_any A n cp rs id W h hm (sts_inp HQ1.out) (sts_id HQ1.out).1 (sts_id HQ1.out).2
  have q1 := fun (A : Option Addr) cp W (h : StsAt W W.heap.size A n rs) => srtick_any A n cp rs id W h hm (sts_inp HQ1.out) (sts_id HQ1.out).1 (sts_id HQ1.out).2
  have PA1 := Lib.hid p1; have QA1 := Lib.hid q1
  clear p1 q1
  obtain ⟨L1, hres1⟩ : ∃ a, rs.map (tickX id) = a := ⟨_, rfl⟩
  rw [hres1] at HF1 HN1 PA1 QA1
  clear hres1
  have hm1 := sts_len HF1.out
  have fa1 := fun (A : Option Addr) cp W (h : StsAt W W.heap.size A L1.length L1) => srfit_any id A L1.length cp L1 W h (sts_len HF1.out)
  rw [HF1.out] at fa1
  have FA1 := Lib.hid fa1
  clear fa1
  have HF2 : Hid (stsB id (hearR id rs nm ⟨dh, dv, dn, da⟩ ⟨uh, uv, un, ua⟩) = true) := Lib.hid (hear_fit HQ1.out HQ2.out HQ3.out)
  have HN2 : Hid (∀ y ∈ hearR id rs nm ⟨dh, dv, dn, da⟩ ⟨uh, uv, un, ua⟩, y.ch.name.size ≤ maxLen) := Lib.hid (hear_nms HR.out.2)
  have p2 := fun (A : Option Addr) cp W (h : StsAt W W.heap.size A n rs) => shear_any A n cp rs id nm dh dv dn da uh uv un ua W h hm (sts_ext HQ1.out) HQ2.out HQ3.out
  have q2 := fun (A : Option Addr) cp W (h : StsAt W W.heap.size A n rs) => srhear_any A n cp rs id nm dh dv dn da uh uv un ua W h hm (sts_ext HQ1.out) HQ2.out HQ3.out
  have PA2 := Lib.hid p2; have QA2 := Lib.hid q2
  clear p2 q2
  obtain ⟨L2, hres2⟩ : ∃ a, hearR id rs nm ⟨dh, dv, dn, da⟩ ⟨uh, uv, un, ua⟩ = a := ⟨_, rfl⟩
  rw [hres2] at HF2 HN2 PA2 QA2
  clear hres2
  have hm2 := sts_len HF2.out
  have fa2 := fun (A : Option Addr) cp W (h : StsAt W W.heap.size A L2.length L2) => srfit_any id A L2.length cp L2 W h (sts_len HF2.out)
  rw [HF2.out] at fa2
  have FA2 := Lib.hid fa2
  clear fa2
  have SM : Hid (∀ (ra : List St) (A1 : Option Addr) c1 n1 (A2 : Option Addr) c2 W (h1 : StsAt W W.heap.size A1 n1 ra) (h2 : StsAt W W.heap.size A2 n1 ra) (hm : n1 * 136 ≤ 140737488351232), Calls Try.prog 14 #[.slice A1 n1 c1, .slice A2 n1 c2] W fun x w' => x = .returned (.bool true) ∧ Below W.heap.size W w') := Lib.hid (fun ra A1 c1 n1 A2 c2 W h1 h2 hm => by have := srsame_any A1 n1 c1 ra A2 n1 c2 ra W h1 h2 hm hm; rwa [sameS_eq rfl] at this)
  go_wp2_with (fail)
  refine (srcopy_any A n cp rs _ ((HR.out.below kw_w3).more kw_w3.size) hm).mono ?_; rintro e w4 ⟨lv4, rfl, hown4, hb4⟩
  have kw_w4 : Below w.heap.size w w4 := kw_w3.trans (hb4.mono kw_w3.size)
  have K_w4 := K_w3.below hb4
  obtain ⟨A4, c4, rfl, hat4⟩ := hown4.at_ HR.out.2
  rw [HL.out] at hat4
  rw [HL.out]
  have T4 := Lib.hid hat4
  clear hat4 hown4
  have kw4_w4 : Below w4.heap.size w4 w4 := Below.refl _ _
  clear hb4 kw_w3
  go_wp2_with (fail)
  refine (PA1.out A4 c4 _ T4.out).mono ?_; rintro e w5 ⟨lv5, rfl, hown5, hb5⟩
  have kw_w5 : Below w.heap.size w w5 := kw_w4.trans (hb5.mono kw_w4.size)
  have kw4_w5 : Below w4.heap.size w4 w5 := kw4_w4.trans (hb5.mono kw4_w4.size)
  have K_w5 := K_w4.below hb5
  obtain ⟨A5, c5, rfl, hat5⟩ := hown5.at_n
  have T5 := Lib.hid hat5
  clear hat5 hown5
  have kw5_w5 : Below w5.heap.size w5 w5 := Below.refl _ _
  clear hb5 kw_w4 kw4_w4
  have hkw5 := K_w5; simp only [KeptC, List.forall_mem_cons] at hkw5; go_split_ands
  go_wp2_with (fail)
  refine (PA2.out A4 c4 _ ((T4.out.below kw4_w5).more kw4_w5.size)).mono ?_; rintro e w6 ⟨lv6, rfl, hown6, hb6⟩
  have kw_w6 : Below w.heap.size w w6 := kw_w5.trans (hb6.mono kw_w5.size)
  have kw4_w6 : Below w4.heap.size w4 w6 := kw4_w5.trans (hb6.mono kw4_w5.size)
  have kw5_w6 : Below w5.heap.size w5 w6 := kw5_w5.trans (hb6.mono kw5_w5.size)
  have K_w6 := K_w5.below hb6
  obtain ⟨A6, c6, rfl, hat6⟩ := hown6.at_n
  have T6 := Lib.hid hat6
  clear hat6 hown6
  have kw6_w6 : Below w6.heap.size w6 w6 := Below.refl _ _
  clear hb6 kw_w5 kw4_w5 kw5_w5
  have hkw6 := K_w6; simp only [KeptC, List.forall_mem_cons] at hkw6; go_split_ands
  go_wp2_with (fail)
  refine (QA1.out A cp _ ((HR.out.below kw_w6).more kw_w6.size)).mono ?_; rintro e w7 ⟨lv7, rfl, hown7, hb7⟩
  have kw_w7 : Below w.heap.size w w7 := kw_w6.trans (hb7.mono kw_w6.size)
  have kw4_w7 : Below w4.heap.size w4 w7 := kw4_w6.trans (hb7.mono kw4_w6.size)
  have kw5_w7 : Below w5.heap.size w5 w7 := kw5_w6.trans (hb7.mono kw5_w6.size)
  have kw6_w7 : Below w6.heap.size w6 w7 := kw6_w6.trans (hb7.mono kw6_w6.size)
  have K_w7 := K_w6.below hb7
  obtain ⟨A7, c7, rfl, hat7⟩ := hown7.at_n
  have T7 := Lib.hid hat7
  clear hat7 hown7
  have kw7_w7 : Below w7.heap.size w7 w7 := Below.refl _ _
  clear hb7 kw_w6 kw4_w6 kw5_w6 kw6_w6
  go_wp2_with (fail)
  refine (SM.out L1 A5 c5 L1.length A7 c7 _ ((T5.out.below kw5_w7).more kw5_w7.size) T7.out hm1).mono ?_; rintro e w8 ⟨rfl, hb8⟩
  have kw_w8 : Below w.heap.size w w8 := kw_w7.trans (hb8.mono kw_w7.size)
  have kw4_w8 : Below w4.heap.size w4 w8 := kw4_w7.trans (hb8.mono kw4_w7.size)
  have kw5_w8 : Below w5.heap.size w5 w8 := kw5_w7.trans (hb8.mono kw5_w7.size)
  have kw6_w8 : Below w6.heap.size w6 w8 := kw6_w7.trans (hb8.mono kw6_w7.size)
  have kw7_w8 : Below w7.heap.size w7 w8 := kw7_w7.trans (hb8.mono kw7_w7.size)
  have K_w8 := K_w7.below hb8
  clear hb8 kw_w7 kw4_w7 kw5_w7 kw6_w7 kw7_w7
  have hkw8 := K_w8; simp only [KeptC, List.forall_mem_cons] at hkw8; go_split_ands
  go_wp2_with (fail)
  refine (QA2.out A cp _ ((HR.out.below kw_w8).more kw_w8.size)).mono ?_; rintro e w9 ⟨lv9, rfl, hown9, hb9⟩
  have kw_w9 : Below w.heap.size w w9 := kw_w8.trans (hb9.mono kw_w8.size)
  have kw4_w9 : Below w4.heap.size w4 w9 := kw4_w8.trans (hb9.mono kw4_w8.size)
  have kw5_w9 : Below w5.heap.size w5 w9 := kw5_w8.trans (hb9.mono kw5_w8.size)
  have kw6_w9 : Below w6.heap.size w6 w9 := kw6_w8.trans (hb9.mono kw6_w8.size)
  have K_w9 := K_w8.below hb9
  obtain ⟨A9, c9, rfl, hat9⟩ := hown9.at_n
  have T9 := Lib.hid hat9
  clear hat9 hown9
  have kw9_w9 : Below w9.heap.size w9 w9 := Below.refl _ _
  clear hb9 kw_w8 kw4_w8 kw5_w8 kw6_w8
  go_wp2_with (fail)
  refine (SM.out L2 A6 c6 L2.length A9 c9 _ ((T6.out.below kw6_w9).more kw6_w9.size) T9.out hm2).mono ?_; rintro e w10 ⟨rfl, hb10⟩
  have kw_w10 : Below w.heap.size w w10 := kw_w9.trans (hb10.mono kw_w9.size)
  have kw4_w10 : Below w4.heap.size w4 w10 := kw4_w9.trans (hb10.mono kw4_w9.size)
  have kw5_w10 : Below w5.heap.size w5 w10 := kw5_w9.trans (hb10.mono kw5_w9.size)
  have kw6_w10 : Below w6.heap.size w6 w10 := kw6_w9.trans (hb10.mono kw6_w9.size)
  have kw9_w10 : Below w9.heap.size w9 w10 := kw9_w9.trans (hb10.mono kw9_w9.size)
  have K_w10 := K_w9.below hb10
  clear hb10 kw_w9 kw4_w9 kw5_w9 kw6_w9 kw9_w9
  go_wp2_with (fail)
  refine (FA1.out A5 c5 _ ((T5.out.below kw5_w10).more kw5_w10.size)).mono ?_; rintro e w11 ⟨rfl, hb11⟩
  have kw_w11 : Below w.heap.size w w11 := kw_w10.trans (hb11.mono kw_w10.size)
  have kw4_w11 : Below w4.heap.size w4 w11 := kw4_w10.trans (hb11.mono kw4_w10.size)
  have kw5_w11 : Below w5.heap.size w5 w11 := kw5_w10.trans (hb11.mono kw5_w10.size)
  have kw6_w11 : Below w6.heap.size w6 w11 := kw6_w10.trans (hb11.mono kw6_w10.size)
  have K_w11 := K_w10.below hb11
  clear hb11 kw_w10 kw4_w10 kw5_w10 kw6_w10
  go_wp2_with (fail)
  refine (FA2.out A6 c6 _ ((T6.out.below kw6_w11).more kw6_w11.size)).mono ?_; rintro e w12 ⟨rfl, hb12⟩
  have kw_w12 : Below w.heap.size w w12 := kw_w11.trans (hb12.mono kw_w11.size)
  have kw4_w12 : Below w4.heap.size w4 w12 := kw4_w11.trans (hb12.mono kw4_w11.size)
  have kw6_w12 : Below w6.heap.size w6 w12 := kw6_w11.trans (hb12.mono kw6_w11.size)
  have K_w12 := K_w11.below hb12
  clear hb12 kw_w11 kw4_w11 kw6_w11
  go_wp2_with (fail)
  refine (SM.out rs A4 c4 n A cp _ ((T4.out.below kw4_w12).more kw4_w12.size) ((HR.out.below kw_w12).more kw_w12.size) hm).mono ?_; rintro e w13 ⟨rfl, hb13⟩
  have kw_w13 : Below w.heap.size w w13 := kw_w12.trans (hb13.mono kw_w12.size)
  have kw4_w13 : Below w4.heap.size w4 w13 := kw4_w12.trans (hb13.mono kw4_w12.size)
  have K_w13 := K_w12.below hb13
  clear hb13 kw_w12 kw4_w12
  go_wp2_with (fail)
  refine (awake_any _).mono ?_; rintro e w14 ⟨rfl, hb14⟩
  have kw_w14 : Below w.heap.size w w14 := kw_w13.trans (hb14.mono kw_w13.size)
  have kw4_w14 : Below w4.heap.size w4 w14 := kw4_w13.trans (hb14.mono kw4_w13.size)
  have K_w14 := K_w13.below hb14
  clear hb14 kw_w13 kw4_w13
  go_wp2
  go_ret
  exact ⟨rfl, kw_w14⟩
theorem chansHears_lifted (os : Os) (started : os.Started) (H : Type) (enc : TypeId × Value → H) :
    ReturnsInHanded {} Try.checked os 8 .any (Rows.chansHearsSpec.pre6 enc Try.prog Try.f8 Rows.chansHearsRow.domain false) (Rows.chansHearsSpec.post enc Try.prog Try.f8 false true false false) := by
  refine returnsInHanded_of_change_sized (C := Try.checked) own started (by kernel_rfl) Try.func8
    (ChangeSpec.witness6 (enc := enc) (C := Try.checked) false ⟨#[], #[.int .i64 0, .slice none 0 0, .string ⟨#[]⟩, .agg #[.bool false, .int .i64 0, .int .i64 0, .int .i64 0], .agg #[.bool false, .int .i64 0, .int .i64 0, .int .i64 0]], []⟩ 8 (by kernel_rfl) (by kernel_rfl) (by kernel_rfl) (by kernel_rfl)) ?_
  intro W base args ds gs before hval hW _ hsz _
  have hW' := hW
  obtain ⟨p, q, hA, hV, rfl, hfz, hnd⟩ := hW
  obtain ⟨rfl, rfl⟩ := trodVars_none hV
  rw [Try.params8] at hA hval
  obtain ⟨v0, vs0, d0, ds0, p0, q0, hargs, rfl, rfl, h0, r0⟩ := trodAll_cons hA
  obtain ⟨v1, vs1, d1, ds1, p1, q1, rfl, rfl, rfl, h1, r1⟩ := trodAll_cons r0
  obtain ⟨v2, vs2, d2, ds2, p2, q2, rfl, rfl, rfl, h2, r2⟩ := trodAll_cons r1
  obtain ⟨v3, vs3, d3, ds3, p3, q3, rfl, rfl, rfl, h3, r3⟩ := trodAll_cons r2
  obtain ⟨v4, vs4, d4, ds4, p4, q4, rfl, rfl, rfl, h4, r4⟩ := trodAll_cons r3
  obtain ⟨rfl, rfl, rfl⟩ := trodAll_nil r4
  obtain rfl : args = #[v0, v1, v2, v3, v4] := by cases args; simp_all
  obtain ⟨id, rfl, _, _, _⟩ := open_int Try.underlying3 (hval 0 _ v0 rfl rfl) h0
  obtain ⟨A, n, cp, rs, rfl, _, hr, hds⟩ := open_states (hval 1 _ v1 rfl rfl) h1
  obtain ⟨nm, rfl, _, _, wx⟩ := open_string Try.underlying9 (hval 2 _ v2 rfl rfl) h2
  obtain ⟨dh, dv, dn, da, rfl, _, _, _⟩ := open_ext (hval 3 _ v3 rfl rfl) h3
  obtain ⟨uh, uv, un, ua, rfl, _, _, _⟩ := open_ext (hval 4 _ v4 rfl rfl) h4
  refine (chansHears_any id A n cp rs nm dh dv dn da uh uv un ua W hr (small_states hsz (j := 1) rfl rfl hds)).mono fun e W' ⟨he, hg⟩ => ?_
  subst he
  exact ⟨_, rfl, law_post laidOut rfl (by kernel_rfl) rfl Try.underlying4 rfl hW' hg⟩

theorem chansHears_holds : Rows.ChansHearsSaid :=
  OpenClaim.holds_of_wide 8 Try.f8 rfl rfl rfl rfl rfl rfl rfl ⟨rfl, rfl, rfl, rfl, rfl⟩ rfl rfl rfl rfl rfl (by kernel_rfl) Try.func8 (by kernel_rfl)
    (of_decide_eq_true (by kernel_rfl)) (by unfold Func.isWrapper; first | (rw [if_pos (by decide +kernel)]; kernel_rfl) | (rw [if_neg (by decide +kernel)]; exact ⟨rfl, rfl⟩))
    (fun os started H enc _ => chansHears_lifted os started H enc)

end Go.Proofs.Ytfihkkamedghkaa
