/- Learn of chans and of its reference: what each call computes, for fit states and every record. -/
import Derived.Test.YtfihkkamedghkaaStL
import Derived.Test.YtfihkkamedghkaaDirL
import Derived.Deep.Cut
namespace Go.Proofs.Ytfihkkamedghkaa
open Go.RowKit
set_option linter.unusedVariables false
theorem KeptC.low {w W : World} {l : List (Addr × Value)} {F : List Addr} (h : KeptC w l F W) : Below w.heap.size w W := h.1
theorem OwnC.at_n {w : World} {base n : Nat} {v : Value} {rs : List Ch} (h : OwnC w base v rs) (hs : ∀ x ∈ rs, x.name.size ≤ maxLen) (hl : rs.length = n) : ∃ A c, v = .slice A n c ∧ ChsAt w w.heap.size A n rs := by
  subst hl
  exact h.at_ hs
theorem lrn_ok {rs : List St} {c : Ch} (h : (learnR (rs.map St.ch) c).2 = 4 ∨ (learnR (rs.map St.ch) c).2 = 3) : stLrn rs c = (stPut c rs, true) := by unfold stLrn; rw [if_pos h]
theorem lrn_no {rs : List St} {c : Ch} (h : ¬ ((learnR (rs.map St.ch) c).2 = 4 ∨ (learnR (rs.map St.ch) c).2 = 3)) : stLrn rs c = (rs, false) := by unfold stLrn; rw [if_neg h]
theorem lay {P : Program} {c : Code} {Q : Exit → Act → World → Prop} {a : Act} {W : World} (C : World → Prop) (hC : C W) (h : ∀ W', C W' → c.wp P Q a W') : c.wp P Q a W := h W hC
set_option maxRecDepth 100000 in
set_option maxHeartbeats 8000000 in
theorem slearn_any (A : Option Addr) (n cp : Nat) (rs : List St) (s : ByteArray) (e m : Int) (al : Bool) (k0 sc : Int) (w : World) (hs : s.size ≤ maxLen) (hr : StsAt w w.heap.size A n rs) (hft : fitsB (rs.map St.ch) = true) (hm : n * 136 ≤ 140737488351232) :
    Calls Try.prog 27 #[.slice A n cp, .agg #[.string s, .int .i64 e, .int .i64 m, .bool al, .int .i64 k0, .int .i64 sc]] w fun x w' => ∃ lv, x = .returned (.tuple #[lv, .bool (stLrn rs ⟨s, e, m, al, k0, sc⟩).2]) ∧ OwnS w' w.heap.size lv (stLrn rs ⟨s, e, m, al, k0, sc⟩).1 ∧ Below w.heap.size w w' := by
  have HR := Lib.hid hr
  clear hr
  have hsr := srt_of_fits hft
  have hnm : ∀ x ∈ rs.map St.ch, x.name.size ≤ maxLen := by
    intro x hx
    obtain ⟨y, hy, rfl⟩ := List.mem_map.1 hx
    exact HR.out.2 y hy
  have HNM := Lib.hid hnm
  clear hnm
  obtain ⟨n1, hn1⟩ : ∃ n1, (rs.map St.ch).length = n1 := ⟨_, rfl⟩
  have hn1b : n1 * 56 ≤ 140737488351232 := by have := (fit_of_fits hft).1; omega
  have HN1 := Lib.hid hn1
  clear hn1
  have cr := fun W (hb : Below w.heap.size w W) => records_any A n cp rs W ((HR.out.below hb).more hb.size) hm
  have CR := Lib.hid cr
  have cc := fun W (hb : Below w.heap.size w W) => scopy_any A n cp rs W ((HR.out.below hb).more hb.size) hm
  have CC := Lib.hid cc
  have c2 := fun A1 c1 W (h : ChsAt W W.heap.size A1 n1 (rs.map St.ch)) => learn_any A1 n1 c1 (rs.map St.ch) s e m al k0 sc W h hn1b
  rw [learnT_eq ⟨s, e, m, al, k0, sc⟩ hsr] at c2
  clear cr cc hn1b
  by_cases hok : (learnR (rs.map St.ch) ⟨s, e, m, al, k0, sc⟩).2 = 4 ∨ (learnR (rs.map St.ch) ⟨s, e, m, al, k0, sc⟩).2 = 3
  · have HRES : Hid (stLrn rs ⟨s, e, m, al, k0, sc⟩ = (stPut ⟨s, e, m, al, k0, sc⟩ rs, true)) := Lib.hid (lrn_ok hok)
    obtain ⟨hput, hnew⟩ := learn_put hsr hok
    rcases hok with he | he
    · skip
      have h2 : (learnR (rs.map St.ch) ⟨s, e, m, al, k0, sc⟩).2 = 4 := he
      have HSZ : Hid (∀ x ∈ putF ⟨s, e, m, al, k0, sc⟩ (rs.map St.ch), x.name.size ≤ maxLen) := Lib.hid (putF_names hsr hs HR.out.2)
      have HEQ : Hid ((putF ⟨s, e, m, al, k0, sc⟩ (rs.map St.ch)).map (anewS rs s) = stPut ⟨s, e, m, al, k0, sc⟩ rs) := Lib.hid (anew_put hsr rfl)
      have hfew : (putF ⟨s, e, m, al, k0, sc⟩ (rs.map St.ch)).length ≤ 1000 := putF_few hft
      obtain ⟨n2, hn2⟩ : ∃ n2, (putF ⟨s, e, m, al, k0, sc⟩ (rs.map St.ch)).length = n2 := ⟨_, rfl⟩
      have HN2 := Lib.hid hn2
      rw [hn2] at hfew
      rw [hput, h2] at c2
      have C2 := Lib.hid c2
      have c3 := fun A2 c2 W (h : ChsAt W W.heap.size A2 n2 (putF ⟨s, e, m, al, k0, sc⟩ (rs.map St.ch))) (hb : Below w.heap.size w W) => anew_any A n cp rs A2 n2 c2 (putF ⟨s, e, m, al, k0, sc⟩ (rs.map St.ch)) s W ((HR.out.below hb).more hb.size) hm h hfew
      rw [HEQ.out] at c3
      have C3 := Lib.hid c3
      clear c2 c3 hn2 h2 hput hnew he hft hsr
      go_enter Try.func27, Try.ntmps27
      go_upto_region 1 with (fail)
      have K0 : KeptC w [(⟨w.heap.size, 0, none⟩, .string s), (⟨w.heap.size, 1, none⟩, .int .i64 e), (⟨w.heap.size, 2, none⟩, .int .i64 m), (⟨w.heap.size, 3, none⟩, .bool al), (⟨w.heap.size, 4, none⟩, .int .i64 k0), (⟨w.heap.size, 5, none⟩, .int .i64 sc)] [] (w.alloc (Obj.cells #[.string s, .int .i64 e, .int .i64 m, .bool al, .int .i64 k0, .int .i64 sc] 38)) := (by (repeat' (first | refine KeptC.cons ?_ ?_ | refine KeptC.consF ?_ ?_ ?_ | refine KeptC.mk0 ?_)); all_goals (first | with_reducible assumption | (go_simp; done) | (simp; omega) | exact (by repeat (first | with_reducible refine Below.setCell ?_ (by first | (simp; done) | (simp; omega) | omega) _ | with_reducible refine Below.alloc ?_ (by first | (simp; done) | (simp; omega) | omega) _ | with_reducible refine Below.drew ?_ | with_reducible refine below_drewN ?_ _ | with_reducible exact Below.refl _ _))))
      refine lay (KeptC w [(⟨w.heap.size, 0, none⟩, .string s), (⟨w.heap.size, 1, none⟩, .int .i64 e), (⟨w.heap.size, 2, none⟩, .int .i64 m), (⟨w.heap.size, 3, none⟩, .bool al), (⟨w.heap.size, 4, none⟩, .int .i64 k0), (⟨w.heap.size, 5, none⟩, .int .i64 sc)] []) K0 ?_
      intro wt hkt
      have hkt' := hkt
      simp only [KeptC, List.forall_mem_cons] at hkt'
      go_split_ands
      clear K0
      go_region_with (first | ((with_reducible refine (CR.out _ (by first | exact KeptC.low (by with_reducible assumption) | exact KeptC.low (KeptC.drewn (by with_reducible assumption)))).mono ?_); rintro e w9 ⟨lv1, rfl, hown1, hb9⟩; obtain ⟨A1, c1, rfl, hat1⟩ := hown1.at_n HNM.out HN1.out; have HAT1 := Lib.hid hat1; clear hat1 hown1; (first | have hk9 := KeptC.below (by with_reducible assumption) hb9 | have hk9 := KeptC.below (KeptC.drewn (by with_reducible assumption)) hb9); clear hb9; have hk9' := hk9; simp only [KeptC, List.forall_mem_cons] at hk9'; go_split_ands) | ((with_reducible refine (C2.out A1 c1 _ HAT1.out).mono ?_); rintro e w9 ⟨lv2, rfl, hown2, hb9⟩; obtain ⟨A2, c2, rfl, hat2⟩ := hown2.at_n HSZ.out HN2.out; have HAT2 := Lib.hid hat2; clear hat2 hown2; (first | have hk9 := KeptC.below (by with_reducible assumption) hb9 | have hk9 := KeptC.below (KeptC.drewn (by with_reducible assumption)) hb9); clear hb9; have hk9' := hk9; simp only [KeptC, List.forall_mem_cons] at hk9'; go_split_ands))
      all_goals (
        have kbx : Below w.heap.size w _ := (by first | exact KeptC.low (by with_reducible assumption) | exact KeptC.low (KeptC.drewn (by with_reducible assumption)))
        have hsx := kbx.size
        go_wp2_with (fail)
        refine (C3.out A2 c2 _ HAT2.out (by first | exact KeptC.low (by with_reducible assumption) | exact KeptC.low (KeptC.drewn (by with_reducible assumption)))).mono ?_
        rintro e w3 ⟨lv3, rfl, hown3, hb3⟩
        go_wp2
        refine bodyPost_ret (v := .tuple #[lv3, .bool true]) (by simp [results, Try.results27, go_sem, *]) rfl ⟨_, by rw [HRES.out], by rw [HRES.out]; exact OwnS.less hown3 hsx, (by repeat (first | with_reducible refine Below.setCell ?_ (by first | (simp; done) | (simp; omega) | omega) _ | with_reducible refine Below.alloc ?_ (by first | (simp; done) | (simp; omega) | omega) _ | with_reducible refine Below.drew ?_ | with_reducible refine below_drewN ?_ _ | with_reducible exact Below.refl _ _ | with_reducible refine Below.trans ?_ (Below.mono hb3 (by first | (simp; done) | (simp; omega) | omega)) | with_reducible refine Below.trans ?_ (Below.mono kbx (by first | (simp; done) | (simp; omega) | omega))))⟩)
    · skip
      have h2 : (learnR (rs.map St.ch) ⟨s, e, m, al, k0, sc⟩).2 = 3 := he
      have HSZ : Hid (∀ x ∈ putF ⟨s, e, m, al, k0, sc⟩ (rs.map St.ch), x.name.size ≤ maxLen) := Lib.hid (putF_names hsr hs HR.out.2)
      have HEQ : Hid ((putF ⟨s, e, m, al, k0, sc⟩ (rs.map St.ch)).map (anewS rs s) = stPut ⟨s, e, m, al, k0, sc⟩ rs) := Lib.hid (anew_put hsr rfl)
      have hfew : (putF ⟨s, e, m, al, k0, sc⟩ (rs.map St.ch)).length ≤ 1000 := putF_few hft
      obtain ⟨n2, hn2⟩ : ∃ n2, (putF ⟨s, e, m, al, k0, sc⟩ (rs.map St.ch)).length = n2 := ⟨_, rfl⟩
      have HN2 := Lib.hid hn2
      rw [hn2] at hfew
      rw [hput, h2] at c2
      have C2 := Lib.hid c2
      have c3 := fun A2 c2 W (h : ChsAt W W.heap.size A2 n2 (putF ⟨s, e, m, al, k0, sc⟩ (rs.map St.ch))) (hb : Below w.heap.size w W) => anew_any A n cp rs A2 n2 c2 (putF ⟨s, e, m, al, k0, sc⟩ (rs.map St.ch)) s W ((HR.out.below hb).more hb.size) hm h hfew
      rw [HEQ.out] at c3
      have C3 := Lib.hid c3
      clear c2 c3 hn2 h2 hput hnew he hft hsr
      go_enter Try.func27, Try.ntmps27
      go_upto_region 1 with (fail)
      have K0 : KeptC w [(⟨w.heap.size, 0, none⟩, .string s), (⟨w.heap.size, 1, none⟩, .int .i64 e), (⟨w.heap.size, 2, none⟩, .int .i64 m), (⟨w.heap.size, 3, none⟩, .bool al), (⟨w.heap.size, 4, none⟩, .int .i64 k0), (⟨w.heap.size, 5, none⟩, .int .i64 sc)] [] (w.alloc (Obj.cells #[.string s, .int .i64 e, .int .i64 m, .bool al, .int .i64 k0, .int .i64 sc] 38)) := (by (repeat' (first | refine KeptC.cons ?_ ?_ | refine KeptC.consF ?_ ?_ ?_ | refine KeptC.mk0 ?_)); all_goals (first | with_reducible assumption | (go_simp; done) | (simp; omega) | exact (by repeat (first | with_reducible refine Below.setCell ?_ (by first | (simp; done) | (simp; omega) | omega) _ | with_reducible refine Below.alloc ?_ (by first | (simp; done) | (simp; omega) | omega) _ | with_reducible refine Below.drew ?_ | with_reducible refine below_drewN ?_ _ | with_reducible exact Below.refl _ _))))
      refine lay (KeptC w [(⟨w.heap.size, 0, none⟩, .string s), (⟨w.heap.size, 1, none⟩, .int .i64 e), (⟨w.heap.size, 2, none⟩, .int .i64 m), (⟨w.heap.size, 3, none⟩, .bool al), (⟨w.heap.size, 4, none⟩, .int .i64 k0), (⟨w.heap.size, 5, none⟩, .int .i64 sc)] []) K0 ?_
      intro wt hkt
      have hkt' := hkt
      simp only [KeptC, List.forall_mem_cons] at hkt'
      go_split_ands
      clear K0
      go_region_with (first | ((with_reducible refine (CR.out _ (by first | exact KeptC.low (by with_reducible assumption) | exact KeptC.low (KeptC.drewn (by with_reducible assumption)))).mono ?_); rintro e w9 ⟨lv1, rfl, hown1, hb9⟩; obtain ⟨A1, c1, rfl, hat1⟩ := hown1.at_n HNM.out HN1.out; have HAT1 := Lib.hid hat1; clear hat1 hown1; (first | have hk9 := KeptC.below (by with_reducible assumption) hb9 | have hk9 := KeptC.below (KeptC.drewn (by with_reducible assumption)) hb9); clear hb9; have hk9' := hk9; simp only [KeptC, List.forall_mem_cons] at hk9'; go_split_ands) | ((with_reducible refine (C2.out A1 c1 _ HAT1.out).mono ?_); rintro e w9 ⟨lv2, rfl, hown2, hb9⟩; obtain ⟨A2, c2, rfl, hat2⟩ := hown2.at_n HSZ.out HN2.out; have HAT2 := Lib.hid hat2; clear hat2 hown2; (first | have hk9 := KeptC.below (by with_reducible assumption) hb9 | have hk9 := KeptC.below (KeptC.drewn (by with_reducible assumption)) hb9); clear hb9; have hk9' := hk9; simp only [KeptC, List.forall_mem_cons] at hk9'; go_split_ands))
      all_goals (
        have kbx : Below w.heap.size w _ := (by first | exact KeptC.low (by with_reducible assumption) | exact KeptC.low (KeptC.drewn (by with_reducible assumption)))
        have hsx := kbx.size
        go_wp2_with (fail)
        refine (C3.out A2 c2 _ HAT2.out (by first | exact KeptC.low (by with_reducible assumption) | exact KeptC.low (KeptC.drewn (by with_reducible assumption)))).mono ?_
        rintro e w3 ⟨lv3, rfl, hown3, hb3⟩
        go_wp2
        refine bodyPost_ret (v := .tuple #[lv3, .bool true]) (by simp [results, Try.results27, go_sem, *]) rfl ⟨_, by rw [HRES.out], by rw [HRES.out]; exact OwnS.less hown3 hsx, (by repeat (first | with_reducible refine Below.setCell ?_ (by first | (simp; done) | (simp; omega) | omega) _ | with_reducible refine Below.alloc ?_ (by first | (simp; done) | (simp; omega) | omega) _ | with_reducible refine Below.drew ?_ | with_reducible refine below_drewN ?_ _ | with_reducible exact Below.refl _ _ | with_reducible refine Below.trans ?_ (Below.mono hb3 (by first | (simp; done) | (simp; omega) | omega)) | with_reducible refine Below.trans ?_ (Below.mono kbx (by first | (simp; done) | (simp; omega) | omega))))⟩)
  · have HRES : Hid (stLrn rs ⟨s, e, m, al, k0, sc⟩ = (rs, false)) := Lib.hid (lrn_no hok)
    obtain ⟨wh, hwh⟩ : ∃ wh, (learnR (rs.map St.ch) ⟨s, e, m, al, k0, sc⟩).2 = wh := ⟨_, rfl⟩
    rw [hwh] at hok c2
    have h4 : (wh != 4) = true := by simpa using (show ¬ wh = 4 by omega)
    have h3 : (wh != 3) = true := by simpa using (show ¬ wh = 3 by omega)
    have C2 := Lib.hid c2
    clear c2 hok hwh hft hsr
    go_enter Try.func27, Try.ntmps27
    go_upto_region 1 with (fail)
    have K0 : KeptC w [(⟨w.heap.size, 0, none⟩, .string s), (⟨w.heap.size, 1, none⟩, .int .i64 e), (⟨w.heap.size, 2, none⟩, .int .i64 m), (⟨w.heap.size, 3, none⟩, .bool al), (⟨w.heap.size, 4, none⟩, .int .i64 k0), (⟨w.heap.size, 5, none⟩, .int .i64 sc)] [] (w.alloc (Obj.cells #[.string s, .int .i64 e, .int .i64 m, .bool al, .int .i64 k0, .int .i64 sc] 38)) := (by (repeat' (first | refine KeptC.cons ?_ ?_ | refine KeptC.consF ?_ ?_ ?_ | refine KeptC.mk0 ?_)); all_goals (first | with_reducible assumption | (go_simp; done) | (simp; omega) | exact (by repeat (first | with_reducible refine Below.setCell ?_ (by first | (simp; done) | (simp; omega) | omega) _ | with_reducible refine Below.alloc ?_ (by first | (simp; done) | (simp; omega) | omega) _ | with_reducible refine Below.drew ?_ | with_reducible refine below_drewN ?_ _ | with_reducible exact Below.refl _ _))))
    refine lay (KeptC w [(⟨w.heap.size, 0, none⟩, .string s), (⟨w.heap.size, 1, none⟩, .int .i64 e), (⟨w.heap.size, 2, none⟩, .int .i64 m), (⟨w.heap.size, 3, none⟩, .bool al), (⟨w.heap.size, 4, none⟩, .int .i64 k0), (⟨w.heap.size, 5, none⟩, .int .i64 sc)] []) K0 ?_
    intro wt hkt
    have hkt' := hkt
    simp only [KeptC, List.forall_mem_cons] at hkt'
    go_split_ands
    clear K0
    go_region_with (first | ((with_reducible refine (CR.out _ (by first | exact KeptC.low (by with_reducible assumption) | exact KeptC.low (KeptC.drewn (by with_reducible assumption)))).mono ?_); rintro e w9 ⟨lv1, rfl, hown1, hb9⟩; obtain ⟨A1, c1, rfl, hat1⟩ := hown1.at_n HNM.out HN1.out; have HAT1 := Lib.hid hat1; clear hat1 hown1; (first | have hk9 := KeptC.below (by with_reducible assumption) hb9 | have hk9 := KeptC.below (KeptC.drewn (by with_reducible assumption)) hb9); clear hb9; have hk9' := hk9; simp only [KeptC, List.forall_mem_cons] at hk9'; go_split_ands) | ((with_reducible refine (C2.out A1 c1 _ HAT1.out).mono ?_); rintro e w9 ⟨lv2, rfl, hown2, hb9⟩; obtain ⟨A2, c2, rfl⟩ := row_slice hown2; clear hown2; (first | have hk9 := KeptC.below (by with_reducible assumption) hb9 | have hk9 := KeptC.below (KeptC.drewn (by with_reducible assumption)) hb9); clear hb9; have hk9' := hk9; simp only [KeptC, List.forall_mem_cons] at hk9'; go_split_ands))
    all_goals (
      have kbx : Below w.heap.size w _ := (by first | exact KeptC.low (by with_reducible assumption) | exact KeptC.low (KeptC.drewn (by with_reducible assumption)))
      have hsx := kbx.size
      go_wp2_with (fail)
      refine (CC.out _ (by first | exact KeptC.low (by with_reducible assumption) | exact KeptC.low (KeptC.drewn (by with_reducible assumption)))).mono ?_
      rintro e w3 ⟨lv3, rfl, hown3, hb3⟩
      go_wp2
      refine bodyPost_ret (v := .tuple #[lv3, .bool false]) (by simp [results, Try.results27, go_sem, *]) rfl ⟨_, by rw [HRES.out], by rw [HRES.out]; exact OwnS.less hown3 hsx, (by repeat (first | with_reducible refine Below.setCell ?_ (by first | (simp; done) | (simp; omega) | omega) _ | with_reducible refine Below.alloc ?_ (by first | (simp; done) | (simp; omega) | omega) _ | with_reducible refine Below.drew ?_ | with_reducible refine below_drewN ?_ _ | with_reducible exact Below.refl _ _ | with_reducible refine Below.trans ?_ (Below.mono hb3 (by first | (simp; done) | (simp; omega) | omega)) | with_reducible refine Below.trans ?_ (Below.mono kbx (by first | (simp; done) | (simp; omega) | omega))))⟩)
set_option maxRecDepth 100000 in
set_option maxHeartbeats 8000000 in
theorem srlearn_any (A : Option Addr) (n cp : Nat) (rs : List St) (s : ByteArray) (e m : Int) (al : Bool) (k0 sc : Int) (w : World) (hs : s.size ≤ maxLen) (hr : StsAt w w.heap.size A n rs) (hft : fitsB (rs.map St.ch) = true) (hm : n * 136 ≤ 140737488351232) :
    Calls Try.prog 28 #[.slice A n cp, .agg #[.string s, .int .i64 e, .int .i64 m, .bool al, .int .i64 k0, .int .i64 sc]] w fun x w' => ∃ lv, x = .returned (.tuple #[lv, .bool (stLrn rs ⟨s, e, m, al, k0, sc⟩).2]) ∧ OwnS w' w.heap.size lv (stLrn rs ⟨s, e, m, al, k0, sc⟩).1 ∧ Below w.heap.size w w' := by
  have HR := Lib.hid hr
  clear hr
  have hsr := srt_of_fits hft
  have hnm : ∀ x ∈ rs.map St.ch, x.name.size ≤ maxLen := by
    intro x hx
    obtain ⟨y, hy, rfl⟩ := List.mem_map.1 hx
    exact HR.out.2 y hy
  have HNM := Lib.hid hnm
  clear hnm
  obtain ⟨n1, hn1⟩ : ∃ n1, (rs.map St.ch).length = n1 := ⟨_, rfl⟩
  have hn1b : n1 * 56 ≤ 140737488351232 := by have := (fit_of_fits hft).1; omega
  have HN1 := Lib.hid hn1
  clear hn1
  have cr := fun W (hb : Below w.heap.size w W) => rrecords_any A n cp rs W ((HR.out.below hb).more hb.size) hm
  have CR := Lib.hid cr
  have cc := fun W (hb : Below w.heap.size w W) => srcopy_any A n cp rs W ((HR.out.below hb).more hb.size) hm
  have CC := Lib.hid cc
  have c2 := fun A1 c1 W (h : ChsAt W W.heap.size A1 n1 (rs.map St.ch)) => rlearn_any A1 n1 c1 (rs.map St.ch) s e m al k0 sc W h hn1b
  
  clear cr cc hn1b
  by_cases hok : (learnR (rs.map St.ch) ⟨s, e, m, al, k0, sc⟩).2 = 4 ∨ (learnR (rs.map St.ch) ⟨s, e, m, al, k0, sc⟩).2 = 3
  · have HRES : Hid (stLrn rs ⟨s, e, m, al, k0, sc⟩ = (stPut ⟨s, e, m, al, k0, sc⟩ rs, true)) := Lib.hid (lrn_ok hok)
    obtain ⟨hput, hnew⟩ := learn_put hsr hok
    rcases hok with he | he
    · skip
      have h2 : (learnR (rs.map St.ch) ⟨s, e, m, al, k0, sc⟩).2 = 4 := he
      have HSZ : Hid (∀ x ∈ putF ⟨s, e, m, al, k0, sc⟩ (rs.map St.ch), x.name.size ≤ maxLen) := Lib.hid (putF_names hsr hs HR.out.2)
      have HEQ : Hid ((putF ⟨s, e, m, al, k0, sc⟩ (rs.map St.ch)).map (begunS rs) = stPut ⟨s, e, m, al, k0, sc⟩ rs) := Lib.hid (begun_put hsr hnew)
      have hfew : (putF ⟨s, e, m, al, k0, sc⟩ (rs.map St.ch)).length ≤ 1000 := putF_few hft
      obtain ⟨n2, hn2⟩ : ∃ n2, (putF ⟨s, e, m, al, k0, sc⟩ (rs.map St.ch)).length = n2 := ⟨_, rfl⟩
      have HN2 := Lib.hid hn2
      rw [hn2] at hfew
      rw [hput, h2] at c2
      have C2 := Lib.hid c2
      have c3 := fun A2 c2 W (h : ChsAt W W.heap.size A2 n2 (putF ⟨s, e, m, al, k0, sc⟩ (rs.map St.ch))) (hb : Below w.heap.size w W) => begun_any A n cp rs A2 n2 c2 (putF ⟨s, e, m, al, k0, sc⟩ (rs.map St.ch)) W ((HR.out.below hb).more hb.size) hm h hfew
      rw [HEQ.out] at c3
      have C3 := Lib.hid c3
      clear c2 c3 hn2 h2 hput hnew he hft hsr
      go_enter Try.func28, Try.ntmps28
      go_upto_region 1 with (fail)
      have K0 : KeptC w [(⟨w.heap.size, 0, none⟩, .string s), (⟨w.heap.size, 1, none⟩, .int .i64 e), (⟨w.heap.size, 2, none⟩, .int .i64 m), (⟨w.heap.size, 3, none⟩, .bool al), (⟨w.heap.size, 4, none⟩, .int .i64 k0), (⟨w.heap.size, 5, none⟩, .int .i64 sc)] [] (w.alloc (Obj.cells #[.string s, .int .i64 e, .int .i64 m, .bool al, .int .i64 k0, .int .i64 sc] 38)) := (by (repeat' (first | refine KeptC.cons ?_ ?_ | refine KeptC.consF ?_ ?_ ?_ | refine KeptC.mk0 ?_)); all_goals (first | with_reducible assumption | (go_simp; done) | (simp; omega) | exact (by repeat (first | with_reducible refine Below.setCell ?_ (by first | (simp; done) | (simp; omega) | omega) _ | with_reducible refine Below.alloc ?_ (by first | (simp; done) | (simp; omega) | omega) _ | with_reducible refine Below.drew ?_ | with_reducible refine below_drewN ?_ _ | with_reducible exact Below.refl _ _))))
      refine lay (KeptC w [(⟨w.heap.size, 0, none⟩, .string s), (⟨w.heap.size, 1, none⟩, .int .i64 e), (⟨w.heap.size, 2, none⟩, .int .i64 m), (⟨w.heap.size, 3, none⟩, .bool al), (⟨w.heap.size, 4, none⟩, .int .i64 k0), (⟨w.heap.size, 5, none⟩, .int .i64 sc)] []) K0 ?_
      intro wt hkt
      have hkt' := hkt
      simp only [KeptC, List.forall_mem_cons] at hkt'
      go_split_ands
      clear K0
      go_region_with (first | ((with_reducible refine (CR.out _ (by first | exact KeptC.low (by with_reducible assumption) | exact KeptC.low (KeptC.drewn (by with_reducible assumption)))).mono ?_); rintro e w9 ⟨lv1, rfl, hown1, hb9⟩; obtain ⟨A1, c1, rfl, hat1⟩ := hown1.at_n HNM.out HN1.out; have HAT1 := Lib.hid hat1; clear hat1 hown1; (first | have hk9 := KeptC.below (by with_reducible assumption) hb9 | have hk9 := KeptC.below (KeptC.drewn (by with_reducible assumption)) hb9); clear hb9; have hk9' := hk9; simp only [KeptC, List.forall_mem_cons] at hk9'; go_split_ands) | ((with_reducible refine (C2.out A1 c1 _ HAT1.out).mono ?_); rintro e w9 ⟨lv2, rfl, hown2, hb9⟩; obtain ⟨A2, c2, rfl, hat2⟩ := hown2.at_n HSZ.out HN2.out; have HAT2 := Lib.hid hat2; clear hat2 hown2; (first | have hk9 := KeptC.below (by with_reducible assumption) hb9 | have hk9 := KeptC.below (KeptC.drewn (by with_reducible assumption)) hb9); clear hb9; have hk9' := hk9; simp only [KeptC, List.forall_mem_cons] at hk9'; go_split_ands))
      all_goals (
        have kbx : Below w.heap.size w _ := (by first | exact KeptC.low (by with_reducible assumption) | exact KeptC.low (KeptC.drewn (by with_reducible assumption)))
        have hsx := kbx.size
        go_wp2_with (fail)
        refine (C3.out A2 c2 _ HAT2.out (by first | exact KeptC.low (by with_reducible assumption) | exact KeptC.low (KeptC.drewn (by with_reducible assumption)))).mono ?_
        rintro e w3 ⟨lv3, rfl, hown3, hb3⟩
        go_wp2
        refine bodyPost_ret (v := .tuple #[lv3, .bool true]) (by simp [results, Try.results28, go_sem, *]) rfl ⟨_, by rw [HRES.out], by rw [HRES.out]; exact OwnS.less hown3 hsx, (by repeat (first | with_reducible refine Below.setCell ?_ (by first | (simp; done) | (simp; omega) | omega) _ | with_reducible refine Below.alloc ?_ (by first | (simp; done) | (simp; omega) | omega) _ | with_reducible refine Below.drew ?_ | with_reducible refine below_drewN ?_ _ | with_reducible exact Below.refl _ _ | with_reducible refine Below.trans ?_ (Below.mono hb3 (by first | (simp; done) | (simp; omega) | omega)) | with_reducible refine Below.trans ?_ (Below.mono kbx (by first | (simp; done) | (simp; omega) | omega))))⟩)
    · skip
      have h2 : (learnR (rs.map St.ch) ⟨s, e, m, al, k0, sc⟩).2 = 3 := he
      have HSZ : Hid (∀ x ∈ putF ⟨s, e, m, al, k0, sc⟩ (rs.map St.ch), x.name.size ≤ maxLen) := Lib.hid (putF_names hsr hs HR.out.2)
      have HEQ : Hid ((putF ⟨s, e, m, al, k0, sc⟩ (rs.map St.ch)).map (begunS rs) = stPut ⟨s, e, m, al, k0, sc⟩ rs) := Lib.hid (begun_put hsr hnew)
      have hfew : (putF ⟨s, e, m, al, k0, sc⟩ (rs.map St.ch)).length ≤ 1000 := putF_few hft
      obtain ⟨n2, hn2⟩ : ∃ n2, (putF ⟨s, e, m, al, k0, sc⟩ (rs.map St.ch)).length = n2 := ⟨_, rfl⟩
      have HN2 := Lib.hid hn2
      rw [hn2] at hfew
      rw [hput, h2] at c2
      have C2 := Lib.hid c2
      have c3 := fun A2 c2 W (h : ChsAt W W.heap.size A2 n2 (putF ⟨s, e, m, al, k0, sc⟩ (rs.map St.ch))) (hb : Below w.heap.size w W) => begun_any A n cp rs A2 n2 c2 (putF ⟨s, e, m, al, k0, sc⟩ (rs.map St.ch)) W ((HR.out.below hb).more hb.size) hm h hfew
      rw [HEQ.out] at c3
      have C3 := Lib.hid c3
      clear c2 c3 hn2 h2 hput hnew he hft hsr
      go_enter Try.func28, Try.ntmps28
      go_upto_region 1 with (fail)
      have K0 : KeptC w [(⟨w.heap.size, 0, none⟩, .string s), (⟨w.heap.size, 1, none⟩, .int .i64 e), (⟨w.heap.size, 2, none⟩, .int .i64 m), (⟨w.heap.size, 3, none⟩, .bool al), (⟨w.heap.size, 4, none⟩, .int .i64 k0), (⟨w.heap.size, 5, none⟩, .int .i64 sc)] [] (w.alloc (Obj.cells #[.string s, .int .i64 e, .int .i64 m, .bool al, .int .i64 k0, .int .i64 sc] 38)) := (by (repeat' (first | refine KeptC.cons ?_ ?_ | refine KeptC.consF ?_ ?_ ?_ | refine KeptC.mk0 ?_)); all_goals (first | with_reducible assumption | (go_simp; done) | (simp; omega) | exact (by repeat (first | with_reducible refine Below.setCell ?_ (by first | (simp; done) | (simp; omega) | omega) _ | with_reducible refine Below.alloc ?_ (by first | (simp; done) | (simp; omega) | omega) _ | with_reducible refine Below.drew ?_ | with_reducible refine below_drewN ?_ _ | with_reducible exact Below.refl _ _))))
      refine lay (KeptC w [(⟨w.heap.size, 0, none⟩, .string s), (⟨w.heap.size, 1, none⟩, .int .i64 e), (⟨w.heap.size, 2, none⟩, .int .i64 m), (⟨w.heap.size, 3, none⟩, .bool al), (⟨w.heap.size, 4, none⟩, .int .i64 k0), (⟨w.heap.size, 5, none⟩, .int .i64 sc)] []) K0 ?_
      intro wt hkt
      have hkt' := hkt
      simp only [KeptC, List.forall_mem_cons] at hkt'
      go_split_ands
      clear K0
      go_region_with (first | ((with_reducible refine (CR.out _ (by first | exact KeptC.low (by with_reducible assumption) | exact KeptC.low (KeptC.drewn (by with_reducible assumption)))).mono ?_); rintro e w9 ⟨lv1, rfl, hown1, hb9⟩; obtain ⟨A1, c1, rfl, hat1⟩ := hown1.at_n HNM.out HN1.out; have HAT1 := Lib.hid hat1; clear hat1 hown1; (first | have hk9 := KeptC.below (by with_reducible assumption) hb9 | have hk9 := KeptC.below (KeptC.drewn (by with_reducible assumption)) hb9); clear hb9; have hk9' := hk9; simp only [KeptC, List.forall_mem_cons] at hk9'; go_split_ands) | ((with_reducible refine (C2.out A1 c1 _ HAT1.out).mono ?_); rintro e w9 ⟨lv2, rfl, hown2, hb9⟩; obtain ⟨A2, c2, rfl, hat2⟩ := hown2.at_n HSZ.out HN2.out; have HAT2 := Lib.hid hat2; clear hat2 hown2; (first | have hk9 := KeptC.below (by with_reducible assumption) hb9 | have hk9 := KeptC.below (KeptC.drewn (by with_reducible assumption)) hb9); clear hb9; have hk9' := hk9; simp only [KeptC, List.forall_mem_cons] at hk9'; go_split_ands))
      all_goals (
        have kbx : Below w.heap.size w _ := (by first | exact KeptC.low (by with_reducible assumption) | exact KeptC.low (KeptC.drewn (by with_reducible assumption)))
        have hsx := kbx.size
        go_wp2_with (fail)
        refine (C3.out A2 c2 _ HAT2.out (by first | exact KeptC.low (by with_reducible assumption) | exact KeptC.low (KeptC.drewn (by with_reducible assumption)))).mono ?_
        rintro e w3 ⟨lv3, rfl, hown3, hb3⟩
        go_wp2
        refine bodyPost_ret (v := .tuple #[lv3, .bool true]) (by simp [results, Try.results28, go_sem, *]) rfl ⟨_, by rw [HRES.out], by rw [HRES.out]; exact OwnS.less hown3 hsx, (by repeat (first | with_reducible refine Below.setCell ?_ (by first | (simp; done) | (simp; omega) | omega) _ | with_reducible refine Below.alloc ?_ (by first | (simp; done) | (simp; omega) | omega) _ | with_reducible refine Below.drew ?_ | with_reducible refine below_drewN ?_ _ | with_reducible exact Below.refl _ _ | with_reducible refine Below.trans ?_ (Below.mono hb3 (by first | (simp; done) | (simp; omega) | omega)) | with_reducible refine Below.trans ?_ (Below.mono kbx (by first | (simp; done) | (simp; omega) | omega))))⟩)
  · have HRES : Hid (stLrn rs ⟨s, e, m, al, k0, sc⟩ = (rs, false)) := Lib.hid (lrn_no hok)
    obtain ⟨wh, hwh⟩ : ∃ wh, (learnR (rs.map St.ch) ⟨s, e, m, al, k0, sc⟩).2 = wh := ⟨_, rfl⟩
    rw [hwh] at hok c2
    have h4 : (wh != 4) = true := by simpa using (show ¬ wh = 4 by omega)
    have h3 : (wh != 3) = true := by simpa using (show ¬ wh = 3 by omega)
    have C2 := Lib.hid c2
    clear c2 hok hwh hft hsr
    go_enter Try.func28, Try.ntmps28
    go_upto_region 1 with (fail)
    have K0 : KeptC w [(⟨w.heap.size, 0, none⟩, .string s), (⟨w.heap.size, 1, none⟩, .int .i64 e), (⟨w.heap.size, 2, none⟩, .int .i64 m), (⟨w.heap.size, 3, none⟩, .bool al), (⟨w.heap.size, 4, none⟩, .int .i64 k0), (⟨w.heap.size, 5, none⟩, .int .i64 sc)] [] (w.alloc (Obj.cells #[.string s, .int .i64 e, .int .i64 m, .bool al, .int .i64 k0, .int .i64 sc] 38)) := (by (repeat' (first | refine KeptC.cons ?_ ?_ | refine KeptC.consF ?_ ?_ ?_ | refine KeptC.mk0 ?_)); all_goals (first | with_reducible assumption | (go_simp; done) | (simp; omega) | exact (by repeat (first | with_reducible refine Below.setCell ?_ (by first | (simp; done) | (simp; omega) | omega) _ | with_reducible refine Below.alloc ?_ (by first | (simp; done) | (simp; omega) | omega) _ | with_reducible refine Below.drew ?_ | with_reducible refine below_drewN ?_ _ | with_reducible exact Below.refl _ _))))
    refine lay (KeptC w [(⟨w.heap.size, 0, none⟩, .string s), (⟨w.heap.size, 1, none⟩, .int .i64 e), (⟨w.heap.size, 2, none⟩, .int .i64 m), (⟨w.heap.size, 3, none⟩, .bool al), (⟨w.heap.size, 4, none⟩, .int .i64 k0), (⟨w.heap.size, 5, none⟩, .int .i64 sc)] []) K0 ?_
    intro wt hkt
    have hkt' := hkt
    simp only [KeptC, List.forall_mem_cons] at hkt'
    go_split_ands
    clear K0
    go_region_with (first | ((with_reducible refine (CR.out _ (by first | exact KeptC.low (by with_reducible assumption) | exact KeptC.low (KeptC.drewn (by with_reducible assumption)))).mono ?_); rintro e w9 ⟨lv1, rfl, hown1, hb9⟩; obtain ⟨A1, c1, rfl, hat1⟩ := hown1.at_n HNM.out HN1.out; have HAT1 := Lib.hid hat1; clear hat1 hown1; (first | have hk9 := KeptC.below (by with_reducible assumption) hb9 | have hk9 := KeptC.below (KeptC.drewn (by with_reducible assumption)) hb9); clear hb9; have hk9' := hk9; simp only [KeptC, List.forall_mem_cons] at hk9'; go_split_ands) | ((with_reducible refine (C2.out A1 c1 _ HAT1.out).mono ?_); rintro e w9 ⟨lv2, rfl, hown2, hb9⟩; obtain ⟨A2, c2, rfl⟩ := row_slice hown2; clear hown2; (first | have hk9 := KeptC.below (by with_reducible assumption) hb9 | have hk9 := KeptC.below (KeptC.drewn (by with_reducible assumption)) hb9); clear hb9; have hk9' := hk9; simp only [KeptC, List.forall_mem_cons] at hk9'; go_split_ands))
    all_goals (
      have kbx : Below w.heap.size w _ := (by first | exact KeptC.low (by with_reducible assumption) | exact KeptC.low (KeptC.drewn (by with_reducible assumption)))
      have hsx := kbx.size
      go_wp2_with (fail)
      refine (CC.out _ (by first | exact KeptC.low (by with_reducible assumption) | exact KeptC.low (KeptC.drewn (by with_reducible assumption)))).mono ?_
      rintro e w3 ⟨lv3, rfl, hown3, hb3⟩
      go_wp2
      refine bodyPost_ret (v := .tuple #[lv3, .bool false]) (by simp [results, Try.results28, go_sem, *]) rfl ⟨_, by rw [HRES.out], by rw [HRES.out]; exact OwnS.less hown3 hsx, (by repeat (first | with_reducible refine Below.setCell ?_ (by first | (simp; done) | (simp; omega) | omega) _ | with_reducible refine Below.alloc ?_ (by first | (simp; done) | (simp; omega) | omega) _ | with_reducible refine Below.drew ?_ | with_reducible refine below_drewN ?_ _ | with_reducible exact Below.refl _ _ | with_reducible refine Below.trans ?_ (Below.mono hb3 (by first | (simp; done) | (simp; omega) | omega)) | with_reducible refine Below.trans ?_ (Below.mono kbx (by first | (simp; done) | (simp; omega) | omega))))⟩)
end Go.Proofs.Ytfihkkamedghkaa
