/- Whatever the arguments: eddylaw18's ChansLearns returns true. No conditions. -/
import Derived.Test.YtfihkkamedghkaaStY
import Derived.Test.YtfihkkamedghkaaStS
import Derived.Test.YtfihkkamedghkaaStO
import Derived.Test.YtfihkkamedghkaaStN
import Derived.Test.YtfihkkamedghkaaLaw
import Derived.ChangeMaps5
import Derived.Deep.Cut
namespace Go.Proofs.Ytfihkkamedghkaa
open Go.ChangeShapes Go.WideShapes Go.ChangeAt Go.RowKit Go.Joins Go.ChangeMaps
set_option linter.unusedVariables false
set_option maxRecDepth 100000
theorem sts_fits {id : Int} {ls : List St} (h : stsB id ls = true) : fitsB (ls.map St.ch) = true := (stsB_iff.1 h).2.2.1
theorem sts_len {id : Int} {ls : List St} (h : stsB id ls = true) : ls.length * 136 ≤ 140737488351232 := by
  have := (fit_of_fits (sts_fits h)).1
  rw [List.length_map] at this
  omega
theorem put_names {c : Ch} {ls : List St} (hc : c.name.size ≤ maxLen) (h : ∀ x ∈ ls, x.ch.name.size ≤ maxLen) : ∀ x ∈ stPut c ls, x.ch.name.size ≤ maxLen := by
  intro x hx
  rcases stPut_mem hx with rfl | hx
  · exact hc
  · exact h x hx
theorem lrn_fit {id : Int} {ls : List St} {c : Ch} (h : stsB id ls = true) (hc : chFit c.name c.ep c.who c.kd c.sc = true) : stsB id (stLrn ls c).1 = true := by
  by_cases hok : (learnR (ls.map St.ch) c).2 = 4 ∨ (learnR (ls.map St.ch) c).2 = 3
  · rw [lrn_ok hok]
    refine sts_put h ?_
    rw [← (learn_put (srt_of_fits (sts_fits h)) hok).1]
    exact learnR_fits c (sts_fits h) hc
  · rw [lrn_no hok]; exact h
theorem lrn_again {id : Int} {ls : List St} {c : Ch} (h : stsB id ls = true) : stLrn (stLrn ls c).1 c = ((stLrn ls c).1, false) := by
  have hs := srt_of_fits (sts_fits h)
  by_cases hok : (learnR (ls.map St.ch) c).2 = 4 ∨ (learnR (ls.map St.ch) c).2 = 3
  · rw [lrn_ok hok]
    refine lrn_no ?_
    rw [stPut_ch c hs]
    have hf : findL (putF c (ls.map St.ch)) c.name = some c := findL_self (putF_srt c hs) ((putF_mem c hs c).2 (.inl rfl))
    unfold learnR
    rw [hf]
    simp [stampB]
  · have e := lrn_no hok
    rw [e]
    exact e
theorem lrn_names {ls : List St} {c : Ch} (hc : c.name.size ≤ maxLen) (h : ∀ x ∈ ls, x.ch.name.size ≤ maxLen) : ∀ x ∈ (stLrn ls c).1, x.ch.name.size ≤ maxLen := by
  unfold stLrn
  split
  · exact put_names hc h
  · exact h
set_option maxRecDepth 100000 in
set_option maxHeartbeats 8000000 in
theorem chansLearns_any (id : Int) (A : Option Addr) (n cp : Nat) (rs : List St) (s : ByteArray) (e m : Int) (al : Bool) (k0 sc : Int) (w : World) (hs : s.size ≤ maxLen) (hr : StsAt w w.heap.size A n rs) (hm : n * 136 ≤ 140737488351232) :
    Calls Try.prog 5 #[.int .i64 id, .slice A n cp, .agg #[.string s, .int .i64 e, .int .i64 m, .bool al, .int .i64 k0, .int .i64 sc]] w fun x w' => x = .returned (.bool true) ∧ Below w.heap.size w w' := by
  have HR := Lib.hid hr
  clear hr
  have f2 := fun W (hb : Below w.heap.size w W) => srfit_any id A n cp rs W ((HR.out.below hb).more hb.size) hm
  have fc := fun W => rfit_any s e m al k0 sc hs W
  obtain ⟨q1, hq1⟩ : ∃ b, stsB id rs = b := ⟨_, rfl⟩
  obtain ⟨q2, hq2⟩ : ∃ b, chFit s e m k0 sc = b := ⟨_, rfl⟩
  rw [hq1] at f2
  rw [hq2] at fc
  have F2 := Lib.hid f2; have FC := Lib.hid fc; have HQ1 := Lib.hid hq1; have HQ2 := Lib.hid hq2
  clear f2 fc hq1 hq2
  go_enter Try.func5, Try.ntmps5
  go_wp2_with (fail)
  refine (F2.out _ (by repeat (first | with_reducible refine Below.setCell ?_ (by first | (simp; done) | (simp; omega) | omega) _ | with_reducible refine Below.alloc ?_ (by first | (simp; done) | (simp; omega) | omega) _ | with_reducible refine Below.drew ?_ | with_reducible refine below_drewN ?_ _ | with_reducible exact Below.refl _ _))).mono ?_; rintro x w1 ⟨rfl, hb1⟩
  have K_w1 : KeptC w [(⟨w.heap.size, 0, none⟩, .string s), (⟨w.heap.size, 1, none⟩, .int .i64 e), (⟨w.heap.size, 2, none⟩, .int .i64 m), (⟨w.heap.size, 3, none⟩, .bool al), (⟨w.heap.size, 4, none⟩, .int .i64 k0), (⟨w.heap.size, 5, none⟩, .int .i64 sc)] [] w1 := KeptC.below (by (repeat' (first | refine KeptC.cons ?_ ?_ | refine KeptC.consF ?_ ?_ ?_ | refine KeptC.mk0 ?_)); all_goals (first | with_reducible assumption | (go_simp; done) | (simp; omega) | exact (by repeat (first | with_reducible refine Below.setCell ?_ (by first | (simp; done) | (simp; omega) | omega) _ | with_reducible refine Below.alloc ?_ (by first | (simp; done) | (simp; omega) | omega) _ | with_reducible refine Below.drew ?_ | with_reducible refine below_drewN ?_ _ | with_reducible exact Below.refl _ _)))) hb1
  clear hb1
  cases q1 with
  | false =>
    have kb1 := K_w1.low
    have hs1 := kb1.size
    go_wp2_with (fail)
    refine (awake_any _).mono ?_; rintro x w2 ⟨rfl, hb2⟩
    go_wp2
    go_ret
    exact ⟨rfl, (by repeat (first | with_reducible refine Below.setCell ?_ (by first | (simp; done) | (simp; omega) | omega) _ | with_reducible refine Below.alloc ?_ (by first | (simp; done) | (simp; omega) | omega) _ | with_reducible refine Below.drew ?_ | with_reducible refine below_drewN ?_ _ | with_reducible exact Below.refl _ _ | with_reducible refine Below.trans ?_ (Below.mono hb2 (by first | (simp; done) | (simp; omega) | omega)) | with_reducible refine Below.trans ?_ (Below.mono kb1 (by first | (simp; done) | (simp; omega) | omega))))⟩
  | true =>
  have hk1 := K_w1; simp only [KeptC, List.forall_mem_cons] at hk1; go_split_ands
  go_wp2_with (fail)
  refine (FC.out _).mono ?_; rintro x w2 ⟨rfl, hb2⟩
  have K_w2 := K_w1.below hb2
  clear hb2
  cases q2 with
  | false =>
    have kb2 := K_w2.low
    have hs2 := kb2.size
    go_wp2_with (fail)
    refine (awake_any _).mono ?_; rintro x w3 ⟨rfl, hb3⟩
    go_wp2
    go_ret
    exact ⟨rfl, (by repeat (first | with_reducible refine Below.setCell ?_ (by first | (simp; done) | (simp; omega) | omega) _ | with_reducible refine Below.alloc ?_ (by first | (simp; done) | (simp; omega) | omega) _ | with_reducible refine Below.drew ?_ | with_reducible refine below_drewN ?_ _ | with_reducible exact Below.refl _ _ | with_reducible refine Below.trans ?_ (Below.mono hb3 (by first | (simp; done) | (simp; omega) | omega)) | with_reducible refine Below.trans ?_ (Below.mono kb2 (by first | (simp; done) | (simp; omega) | omega))))⟩
  | true =>
  have HFA : Hid (stsB id (stLrn rs ⟨s, e, m, al, k0, sc⟩).1 = true) := Lib.hid (lrn_fit HQ1.out HQ2.out)
  have HAG : Hid (stLrn (stLrn rs ⟨s, e, m, al, k0, sc⟩).1 ⟨s, e, m, al, k0, sc⟩ = ((stLrn rs ⟨s, e, m, al, k0, sc⟩).1, false)) := Lib.hid (lrn_again HQ1.out)
  have HNA : Hid (∀ x ∈ (stLrn rs ⟨s, e, m, al, k0, sc⟩).1, x.ch.name.size ≤ maxLen) := Lib.hid (lrn_names hs HR.out.2)
  have l1 := fun (A : Option Addr) cp W (h : StsAt W W.heap.size A n rs) => slearn_any A n cp rs s e m al k0 sc W hs h (sts_fits HQ1.out) hm
  have l2 := fun (A : Option Addr) cp W (h : StsAt W W.heap.size A n rs) => srlearn_any A n cp rs s e m al k0 sc W hs h (sts_fits HQ1.out) hm
  have L1 := Lib.hid l1; have L2 := Lib.hid l2
  clear l1 l2
  obtain ⟨LA, ob, hres⟩ : ∃ a b, stLrn rs ⟨s, e, m, al, k0, sc⟩ = (a, b) := ⟨_, _, rfl⟩
  rw [hres] at HFA HAG HNA L1 L2
  simp only [] at HFA HAG HNA L1 L2
  clear hres
  have hmA := sts_len HFA.out
  have l3 := fun (A : Option Addr) cp W (h : StsAt W W.heap.size A LA.length LA) => slearn_any A LA.length cp LA s e m al k0 sc W hs h (sts_fits HFA.out) hmA
  rw [HAG.out] at l3
  have L3 := Lib.hid l3
  clear l3
  have ekb : (ob != ob) = false := by cases ob <;> rfl
  have HL := Lib.hid HR.out.len
  have fa := fun (A : Option Addr) cp W (h : StsAt W W.heap.size A LA.length LA) => srfit_any id A LA.length cp LA W h hmA
  rw [HFA.out] at fa
  have FA := Lib.hid fa
  clear fa
  have sm := fun (ra : List St) (A1 : Option Addr) c1 n1 (A2 : Option Addr) c2 W (h1 : StsAt W W.heap.size A1 n1 ra) (h2 : StsAt W W.heap.size A2 n1 ra) (hm : n1 * 136 ≤ 140737488351232) => srsame_any A1 n1 c1 ra A2 n1 c2 ra W h1 h2 hm hm
  have SM : Hid (∀ (ra : List St) (A1 : Option Addr) c1 n1 (A2 : Option Addr) c2 W (h1 : StsAt W W.heap.size A1 n1 ra) (h2 : StsAt W W.heap.size A2 n1 ra) (hm : n1 * 136 ≤ 140737488351232), Calls Try.prog 14 #[.slice A1 n1 c1, .slice A2 n1 c2] W fun x w' => x = .returned (.bool true) ∧ Below W.heap.size W w') := Lib.hid (fun ra A1 c1 n1 A2 c2 W h1 h2 hm => by have := sm ra A1 c1 n1 A2 c2 W h1 h2 hm; rwa [sameS_eq rfl] at this)
  clear sm
  have kw_w2 : Below w.heap.size w w2 := K_w2.low
  go_wp2_with (fail)
  refine (srcopy_any A n cp rs _ ((HR.out.below kw_w2).more kw_w2.size) hm).mono ?_; rintro e w3 ⟨lv3, rfl, hown3, hb3⟩
  have kw_w3 : Below w.heap.size w w3 := kw_w2.trans (hb3.mono kw_w2.size)
  have K_w3 := K_w2.below hb3
  obtain ⟨A3, c3, rfl, hat3⟩ := hown3.at_ HR.out.2
  rw [HL.out] at hat3
  rw [HL.out]
  have T3 := Lib.hid hat3
  clear hat3 hown3
  have kw3_w3 : Below w3.heap.size w3 w3 := Below.refl _ _
  clear hb3 kw_w2
  have hkw3 := K_w3; simp only [KeptC, List.forall_mem_cons] at hkw3; go_split_ands
  go_wp2_with (fail)
  refine (L1.out A3 c3 _ T3.out).mono ?_; rintro e w4 ⟨lv4, rfl, hown4, hb4⟩
  have kw_w4 : Below w.heap.size w w4 := kw_w3.trans (hb4.mono kw_w3.size)
  have kw3_w4 : Below w3.heap.size w3 w4 := kw3_w3.trans (hb4.mono kw3_w3.size)
  have K_w4 := K_w3.below hb4
  obtain ⟨A4, c4, rfl, hat4⟩ := hown4.at_ HNA.out
  have T4 := Lib.hid hat4
  clear hat4 hown4
  have kw4_w4 : Below w4.heap.size w4 w4 := Below.refl _ _
  clear hb4 kw_w3 kw3_w3
  have hkw4 := K_w4; simp only [KeptC, List.forall_mem_cons] at hkw4; go_split_ands
  go_wp2_with (fail)
  refine (L2.out A cp _ ((HR.out.below kw_w4).more kw_w4.size)).mono ?_; rintro e w5 ⟨lv5, rfl, hown5, hb5⟩
  have kw_w5 : Below w.heap.size w w5 := kw_w4.trans (hb5.mono kw_w4.size)
  have kw3_w5 : Below w3.heap.size w3 w5 := kw3_w4.trans (hb5.mono kw3_w4.size)
  have kw4_w5 : Below w4.heap.size w4 w5 := kw4_w4.trans (hb5.mono kw4_w4.size)
  have K_w5 := K_w4.below hb5
  obtain ⟨A5, c5, rfl, hat5⟩ := hown5.at_ HNA.out
  have T5 := Lib.hid hat5
  clear hat5 hown5
  clear hb5 kw_w4 kw3_w4 kw4_w4
  go_wp2_with (fail)
  refine (SM.out LA A4 c4 LA.length A5 c5 _ ((T4.out.below kw4_w5).more kw4_w5.size) T5.out hmA).mono ?_; rintro e w6 ⟨rfl, hb6⟩
  have kw_w6 : Below w.heap.size w w6 := kw_w5.trans (hb6.mono kw_w5.size)
  have kw3_w6 : Below w3.heap.size w3 w6 := kw3_w5.trans (hb6.mono kw3_w5.size)
  have kw4_w6 : Below w4.heap.size w4 w6 := kw4_w5.trans (hb6.mono kw4_w5.size)
  have K_w6 := K_w5.below hb6
  clear hb6 kw_w5 kw3_w5 kw4_w5
  go_wp2_with (fail)
  refine (FA.out A4 c4 _ ((T4.out.below kw4_w6).more kw4_w6.size)).mono ?_; rintro e w7 ⟨rfl, hb7⟩
  have kw_w7 : Below w.heap.size w w7 := kw_w6.trans (hb7.mono kw_w6.size)
  have kw3_w7 : Below w3.heap.size w3 w7 := kw3_w6.trans (hb7.mono kw3_w6.size)
  have kw4_w7 : Below w4.heap.size w4 w7 := kw4_w6.trans (hb7.mono kw4_w6.size)
  have K_w7 := K_w6.below hb7
  clear hb7 kw_w6 kw3_w6 kw4_w6
  go_wp2_with (fail)
  refine (SM.out rs A3 c3 n A cp _ ((T3.out.below kw3_w7).more kw3_w7.size) ((HR.out.below kw_w7).more kw_w7.size) hm).mono ?_; rintro e w8 ⟨rfl, hb8⟩
  have kw_w8 : Below w.heap.size w w8 := kw_w7.trans (hb8.mono kw_w7.size)
  have kw3_w8 : Below w3.heap.size w3 w8 := kw3_w7.trans (hb8.mono kw3_w7.size)
  have kw4_w8 : Below w4.heap.size w4 w8 := kw4_w7.trans (hb8.mono kw4_w7.size)
  have K_w8 := K_w7.below hb8
  clear hb8 kw_w7 kw3_w7 kw4_w7
  have hkw8 := K_w8; simp only [KeptC, List.forall_mem_cons] at hkw8; go_split_ands
  go_wp2_with (fail)
  refine (L3.out A4 c4 _ ((T4.out.below kw4_w8).more kw4_w8.size)).mono ?_; rintro e w9 ⟨lv9, rfl, hown9, hb9⟩
  have kw_w9 : Below w.heap.size w w9 := kw_w8.trans (hb9.mono kw_w8.size)
  have kw3_w9 : Below w3.heap.size w3 w9 := kw3_w8.trans (hb9.mono kw3_w8.size)
  have kw4_w9 : Below w4.heap.size w4 w9 := kw4_w8.trans (hb9.mono kw4_w8.size)
  have K_w9 := K_w8.below hb9
  obtain ⟨A9, c9, rfl, hat9⟩ := hown9.at_ HNA.out
  have T9 := Lib.hid hat9
  clear hat9 hown9
  clear hb9 kw_w8 kw3_w8 kw4_w8
  go_wp2_with (fail)
  refine (SM.out LA A9 c9 LA.length A4 c4 _ T9.out ((T4.out.below kw4_w9).more kw4_w9.size) hmA).mono ?_; rintro e w10 ⟨rfl, hb10⟩
  have kw_w10 : Below w.heap.size w w10 := kw_w9.trans (hb10.mono kw_w9.size)
  have kw3_w10 : Below w3.heap.size w3 w10 := kw3_w9.trans (hb10.mono kw3_w9.size)
  have kw4_w10 : Below w4.heap.size w4 w10 := kw4_w9.trans (hb10.mono kw4_w9.size)
  have K_w10 := K_w9.below hb10
  clear hb10 kw_w9 kw3_w9 kw4_w9
  go_wp2_with (fail)
  refine (awake_any _).mono ?_; rintro e w11 ⟨rfl, hb11⟩
  have kw_w11 : Below w.heap.size w w11 := kw_w10.trans (hb11.mono kw_w10.size)
  have kw3_w11 : Below w3.heap.size w3 w11 := kw3_w10.trans (hb11.mono kw3_w10.size)
  have kw4_w11 : Below w4.heap.size w4 w11 := kw4_w10.trans (hb11.mono kw4_w10.size)
  have K_w11 := K_w10.below hb11
  clear hb11 kw_w10 kw3_w10 kw4_w10
  go_wp2
  go_ret
  exact ⟨rfl, kw_w11⟩
theorem chansLearns_lifted (os : Os) (started : os.Started) (H : Type) (enc : TypeId × Value → H) :
    ReturnsInHanded {} Try.checked os 5 .any (Rows.chansLearnsSpec.pre6 enc Try.prog Try.f5 Rows.chansLearnsRow.domain false) (Rows.chansLearnsSpec.post enc Try.prog Try.f5 false true false false) := by
  refine returnsInHanded_of_change_sized (C := Try.checked) own started (by kernel_rfl) Try.func5
    (ChangeSpec.witness6 (enc := enc) (C := Try.checked) false ⟨#[], #[.int .i64 0, .slice none 0 0, .agg #[.string ⟨#[]⟩, .int .i64 0, .int .i64 0, .bool false, .int .i64 0, .int .i64 0]], []⟩ 8 (by kernel_rfl) (by kernel_rfl) (by kernel_rfl) (by kernel_rfl)) ?_
  intro W base args ds gs before hval hW _ hsz _
  have hW' := hW
  obtain ⟨p, q, hA, hV, rfl, hfz, hnd⟩ := hW
  obtain ⟨rfl, rfl⟩ := trodVars_none hV
  rw [Try.params5] at hA hval
  obtain ⟨v0, vs0, d0, ds0, p0, q0, hargs, rfl, rfl, h0, r0⟩ := trodAll_cons hA
  obtain ⟨v1, vs1, d1, ds1, p1, q1, rfl, rfl, rfl, h1, r1⟩ := trodAll_cons r0
  obtain ⟨v2, vs2, d2, ds2, p2, q2, rfl, rfl, rfl, h2, r2⟩ := trodAll_cons r1
  obtain ⟨rfl, rfl, rfl⟩ := trodAll_nil r2
  obtain rfl : args = #[v0, v1, v2] := by cases args; simp_all
  obtain ⟨id, rfl, _, _, _⟩ := open_int Try.underlying3 (hval 0 _ v0 rfl rfl) h0
  obtain ⟨A, n, cp, rs, rfl, _, hr, hds⟩ := open_states (hval 1 _ v1 rfl rfl) h1
  obtain ⟨s, e, m, al, k0, sc, rfl, ws⟩ := open_chan (hval 2 _ v2 rfl rfl) h2
  refine (chansLearns_any id A n cp rs s e m al k0 sc W ws hr (small_states hsz (j := 1) rfl rfl hds)).mono fun e W' ⟨he, hg⟩ => ?_
  subst he
  exact ⟨_, rfl, law_post laidOut rfl (by kernel_rfl) rfl Try.underlying4 rfl hW' hg⟩

theorem chansLearns_holds : Rows.ChansLearnsSaid :=
  OpenClaim.holds_of_wide 5 Try.f5 rfl rfl rfl rfl rfl rfl rfl ⟨rfl, rfl, rfl, rfl, rfl⟩ rfl rfl rfl rfl rfl (by kernel_rfl) Try.func5 (by kernel_rfl)
    (of_decide_eq_true (by kernel_rfl)) (by unfold Func.isWrapper; first | (rw [if_pos (by decide +kernel)]; kernel_rfl) | (rw [if_neg (by decide +kernel)]; exact ⟨rfl, rfl⟩))
    (fun os started H enc _ => chansLearns_lifted os started H enc)

end Go.Proofs.Ytfihkkamedghkaa
