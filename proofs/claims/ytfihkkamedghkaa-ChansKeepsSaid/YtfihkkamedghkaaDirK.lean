/- Create and Delete of dir: what each call computes, for every fit list. -/
import Derived.Test.YtfihkkamedghkaaDirA
namespace Go.Proofs.Ytfihkkamedghkaa
open Go.RowKit
set_option linter.unusedVariables false
theorem row_low {W : World} {base : Nat} {e : TypeId} {size : Nat} {v : Value} {n : Nat} {xs : List Value} (h : W.ownsRow base e size v n xs) {B : Nat} {W' : World} (hb : Below B W W') (hB : W.heap.size ≤ B) : W'.ownsRow base e size v n xs := by
  refine ⟨h.1, ?_⟩
  rcases h.2 with hn | ⟨g, cap, cur, hv, hb', hgb, rest⟩
  · exact .inl hn
  · exact .inr ⟨g, cap, cur, hv, hb', (hb.block g (Nat.lt_of_lt_of_le (Array.getElem?_eq_some_iff.1 hgb).1 hB)).trans hgb, rest⟩
theorem keptC_low {w0 : World} {l : List (Addr × Value)} {F : List Addr} {W W' : World} {B : Nat} (h : KeptC w0 l F W) (hb : Below B W W') (h0 : w0.heap.size ≤ B) (hl : ∀ x ∈ l, x.1.block < B) (hF : ∀ a ∈ F, a.block < B) : KeptC w0 l F W' :=
  ⟨h.1.trans (hb.mono h0), fun x hx => (hb.cell (hl x hx)).trans (h.2.1 x hx), fun a ha => ⟨Nat.lt_of_lt_of_le (h.2.2 a ha).1 hb.size, (hb.frozen (hF a ha)).trans (h.2.2 a ha).2⟩⟩
/-- The error of Create. -/
def creE (ls : List Ch) (nm : ByteArray) (k sc : Int) : Int :=
  if nameB nm.data.toList = false then 45 else if kindB k = false then 46 else if scB k sc = false then 47 else match findL ls nm with
    | some o => if o.al = true then 42 else if o.ep = 1099511627776 then 33 else 0
    | none => if 8 ≤ ls.length then 48 else 0
def creC (ls : List Ch) (m : Int) (nm : ByteArray) (k sc : Int) : Ch := ⟨nm, ((findL ls nm).getD Ch0).ep + 1, m, true, k, sc⟩
def creL (ls : List Ch) (m : Int) (nm : ByteArray) (k sc : Int) : List Ch := if creE ls nm k sc = 0 then putF (creC ls m nm k sc) ls else ls
def delE (ls : List Ch) (nm : ByteArray) : Int := match findL ls nm with
  | some o => if o.al = false then 44 else if o.ep = 1099511627776 then 33 else 0
  | none => 44
def delC (o : Ch) (m : Int) : Ch := ⟨o.name, o.ep + 1, m, false, o.kd, o.sc⟩
def delL (ls : List Ch) (m : Int) (nm : ByteArray) : List Ch := match findL ls nm with
  | some o => if delE ls nm = 0 then putF (delC o m) ls else ls
  | none => ls
theorem creE_name {ls : List Ch} {nm : ByteArray} {k sc : Int} (h : nameB nm.data.toList = false) : creE ls nm k sc = 45 := by simp [creE, h]
theorem creE_kind {ls : List Ch} {nm : ByteArray} {k sc : Int} (h : nameB nm.data.toList = true) (h2 : kindB k = false) : creE ls nm k sc = 46 := by simp [creE, h, h2]
theorem creE_sc {ls : List Ch} {nm : ByteArray} {k sc : Int} (h : nameB nm.data.toList = true) (h2 : kindB k = true) (h3 : scB k sc = false) : creE ls nm k sc = 47 := by simp [creE, h, h2, h3]
theorem creE_have {ls : List Ch} {nm : ByteArray} {k sc : Int} {o : Ch} (h : nameB nm.data.toList = true) (h2 : kindB k = true) (h3 : scB k sc = true) (hf : findL ls nm = some o) (ha : o.al = true) : creE ls nm k sc = 42 := by simp [creE, h, h2, h3, hf, ha]
theorem creE_last {ls : List Ch} {nm : ByteArray} {k sc : Int} {o : Ch} (h : nameB nm.data.toList = true) (h2 : kindB k = true) (h3 : scB k sc = true) (hf : findL ls nm = some o) (ha : o.al = false) (he : o.ep = 1099511627776) : creE ls nm k sc = 33 := by simp [creE, h, h2, h3, hf, ha, he]
theorem creE_ok {ls : List Ch} {nm : ByteArray} {k sc : Int} {o : Ch} (h : nameB nm.data.toList = true) (h2 : kindB k = true) (h3 : scB k sc = true) (hf : findL ls nm = some o) (ha : o.al = false) (he : o.ep ≠ 1099511627776) : creE ls nm k sc = 0 := by simp [creE, h, h2, h3, hf, ha, he]
theorem creE_full {ls : List Ch} {nm : ByteArray} {k sc : Int} (h : nameB nm.data.toList = true) (h2 : kindB k = true) (h3 : scB k sc = true) (hf : findL ls nm = none) (ha : 8 ≤ ls.length) : creE ls nm k sc = 48 := by simp [creE, h, h2, h3, hf, ha]
theorem creE_new {ls : List Ch} {nm : ByteArray} {k sc : Int} (h : nameB nm.data.toList = true) (h2 : kindB k = true) (h3 : scB k sc = true) (hf : findL ls nm = none) (ha : ¬ 8 ≤ ls.length) : creE ls nm k sc = 0 := by simp [creE, h, h2, h3, hf, ha]
theorem creL_no {ls : List Ch} {m : Int} {nm : ByteArray} {k sc : Int} {e : Int} (h : creE ls nm k sc = e) (he : e ≠ 0) : creL ls m nm k sc = ls := by unfold creL; rw [h, if_neg he]
theorem creL_ok {ls : List Ch} {m : Int} {nm : ByteArray} {k sc : Int} (h : creE ls nm k sc = 0) : creL ls m nm k sc = putF (creC ls m nm k sc) ls := by unfold creL; rw [h, if_pos rfl]
theorem fits_ep {ls : List Ch} (h : fitsB ls = true) {nm : ByteArray} {o : Ch} (hf : findL ls nm = some o) : 1 ≤ o.ep ∧ o.ep ≤ 1099511627776 := by
  have := (fit_of_fits h).2 o (findL_some hf).1
  unfold chFit at this
  simp only [Bool.and_eq_true, decide_eq_true_eq] at this
  exact this.1.2.1
theorem learn_over {ls : List Ch} (h : fitsB ls = true) {c o : Ch} (hf : findL ls c.name = some o) (he : c.ep = o.ep + 1) : (learnT ls c).1 = putF c ls := by
  rw [learnT_eq c (srt_of_fits h)]
  unfold learnR
  rw [hf]
  simp only []
  rw [if_pos (by simp [stampB]; omega)]
theorem learn_new {ls : List Ch} (h : fitsB ls = true) {c : Ch} (hf : findL ls c.name = none) (h8 : ¬ 8 ≤ ls.length) : (learnT ls c).1 = putF c ls := by
  rw [learnT_eq c (srt_of_fits h)]
  unfold learnR
  rw [hf]
  simp only []
  rw [if_neg h8]
set_option maxRecDepth 100000 in
set_option maxHeartbeats 8000000 in
theorem create_name (A : Option Addr) (n cp : Nat) (ls : List Ch) (m : Int) (nm : ByteArray) (k sc : Int) (w : World) (hr : ChsAt w w.heap.size A n ls) (hft : fitsB ls = true) (hn : nameB nm.data.toList = false) :
    Calls Try.prog 41 #[.slice A n cp, .int .i64 m, .string nm, .int .i64 k, .int .i64 sc] w fun x w' => ∃ lv, x = .returned (.tuple #[lv, .int .i64 (creE ls nm k sc)]) ∧ OwnC w' w.heap.size lv (creL ls m nm k sc) ∧ Below w.heap.size w w' := by
  have hm : n * 56 ≤ 140737488351232 := by have := (fit_of_fits hft).1; have := hr.1; omega
  have HR := Lib.hid hr
  have HFT := Lib.hid hft
  clear hr hft
  have hF := find_any A n cp ls nm w HR.out hm
  go_enter Try.func41, Try.ntmps41
  go_wp2_with (fail)
  refine (hF).mono ?_; rintro e w1 ⟨rfl, hb1⟩; obtain ⟨hc1, hf1⟩ := bcell hb1; have hz1 := hb1.size; (try simp at hz1)
  clear hF
  have hN : ∀ W, Calls Try.prog 67 #[.string nm] W fun x w' => x = .returned (.bool false) ∧ Below W.heap.size W w' := fun W => by rw [← hn]; exact name_any nm W
  go_wp2_with (fail)
  refine (hN _).mono ?_; rintro e w2 ⟨rfl, hb2⟩; obtain ⟨hc2, hf2⟩ := bcell hb2; have hz2 := hb2.size; (try simp at hz2); have hz2_0 : w1.heap.size < w2.heap.size := (by omega); have hz2_0_1 : w1.heap.size < w2.heap.size + 1 := (by omega); have hz2_0_2 : w1.heap.size < w2.heap.size + 1 + 1 := (by omega); have hz2_0_3 : w1.heap.size < w2.heap.size + 1 + 1 + 1 := (by omega)
  go_wp2_with (fail)
  refine (clone_any A n cp ls _ ((HR.out.below (by repeat (first | with_reducible refine Below.setCell ?_ (by first | (simp; done) | (simp; omega) | omega) _ | with_reducible refine Below.alloc ?_ (by first | (simp; done) | (simp; omega) | omega) _ | with_reducible refine Below.drew ?_ | with_reducible refine below_drewN ?_ _ | with_reducible exact Below.refl _ _ | with_reducible refine Below.trans ?_ (Below.mono hb1 (by first | (simp; done) | (simp; omega) | omega)) | with_reducible refine Below.trans ?_ (Below.mono hb2 (by first | (simp; done) | (simp; omega) | omega))))).more (by first | (simp; done) | (simp; omega) | omega)) hm).mono ?_; rintro x w9 ⟨lv, rfl, hown9, hb9⟩
  have hz9 := hb9.size; (try simp at hz9)
  go_wp2
  refine bodyPost_ret (v := .tuple #[lv, .int .i64 45]) (by simp [results, Try.results41, go_sem, *]) rfl ⟨lv, by rw [creE_name hn], ?_, (by repeat (first | with_reducible refine Below.setCell ?_ (by first | (simp; done) | (simp; omega) | omega) _ | with_reducible refine Below.alloc ?_ (by first | (simp; done) | (simp; omega) | omega) _ | with_reducible refine Below.drew ?_ | with_reducible refine below_drewN ?_ _ | with_reducible exact Below.refl _ _ | with_reducible refine Below.trans ?_ (Below.mono hb1 (by first | (simp; done) | (simp; omega) | omega)) | with_reducible refine Below.trans ?_ (Below.mono hb2 (by first | (simp; done) | (simp; omega) | omega)) | with_reducible refine Below.trans ?_ (Below.mono hb9 (by first | (simp; done) | (simp; omega) | omega))))⟩
  rw [creL_no (creE_name hn) (by decide)]
  exact hown9.less (by first | (simp; done) | (simp; omega) | omega)
set_option maxRecDepth 100000 in
set_option maxHeartbeats 8000000 in
theorem create_kind (A : Option Addr) (n cp : Nat) (ls : List Ch) (m : Int) (nm : ByteArray) (k sc : Int) (w : World) (hr : ChsAt w w.heap.size A n ls) (hft : fitsB ls = true) (hn : nameB nm.data.toList = true) (hk : kindB k = false) :
    Calls Try.prog 41 #[.slice A n cp, .int .i64 m, .string nm, .int .i64 k, .int .i64 sc] w fun x w' => ∃ lv, x = .returned (.tuple #[lv, .int .i64 (creE ls nm k sc)]) ∧ OwnC w' w.heap.size lv (creL ls m nm k sc) ∧ Below w.heap.size w w' := by
  have hm : n * 56 ≤ 140737488351232 := by have := (fit_of_fits hft).1; have := hr.1; omega
  have HR := Lib.hid hr
  have HFT := Lib.hid hft
  clear hr hft
  have hF := find_any A n cp ls nm w HR.out hm
  go_enter Try.func41, Try.ntmps41
  go_wp2_with (fail)
  refine (hF).mono ?_; rintro e w1 ⟨rfl, hb1⟩; obtain ⟨hc1, hf1⟩ := bcell hb1; have hz1 := hb1.size; (try simp at hz1)
  clear hF
  have hN : ∀ W, Calls Try.prog 67 #[.string nm] W fun x w' => x = .returned (.bool true) ∧ Below W.heap.size W w' := fun W => by rw [← hn]; exact name_any nm W
  go_wp2_with (fail)
  refine (hN _).mono ?_; rintro e w2 ⟨rfl, hb2⟩; obtain ⟨hc2, hf2⟩ := bcell hb2; have hz2 := hb2.size; (try simp at hz2); have hz2_0 : w1.heap.size < w2.heap.size := (by omega); have hz2_0_1 : w1.heap.size < w2.heap.size + 1 := (by omega); have hz2_0_2 : w1.heap.size < w2.heap.size + 1 + 1 := (by omega); have hz2_0_3 : w1.heap.size < w2.heap.size + 1 + 1 + 1 := (by omega)
  go_wp2_with (fail)
  have hK : ∀ W, Calls Try.prog 68 #[.int .i64 k] W fun x w' => x = .returned (.bool false) ∧ Below W.heap.size W w' := fun W => by rw [← hk]; exact kind_any k W
  refine (hK _).mono ?_; rintro e w3 ⟨rfl, hb3⟩; obtain ⟨hc3, hf3⟩ := bcell hb3; have hz3 := hb3.size; (try simp at hz3); have hz3_0 : w1.heap.size < w3.heap.size := (by omega); have hz3_0_1 : w1.heap.size < w3.heap.size + 1 := (by omega); have hz3_0_2 : w1.heap.size < w3.heap.size + 1 + 1 := (by omega); have hz3_0_3 : w1.heap.size < w3.heap.size + 1 + 1 + 1 := (by omega)
  go_wp2_with (fail)
  refine (clone_any A n cp ls _ ((HR.out.below (by repeat (first | with_reducible refine Below.setCell ?_ (by first | (simp; done) | (simp; omega) | omega) _ | with_reducible refine Below.alloc ?_ (by first | (simp; done) | (simp; omega) | omega) _ | with_reducible refine Below.drew ?_ | with_reducible refine below_drewN ?_ _ | with_reducible exact Below.refl _ _ | with_reducible refine Below.trans ?_ (Below.mono hb1 (by first | (simp; done) | (simp; omega) | omega)) | with_reducible refine Below.trans ?_ (Below.mono hb2 (by first | (simp; done) | (simp; omega) | omega)) | with_reducible refine Below.trans ?_ (Below.mono hb3 (by first | (simp; done) | (simp; omega) | omega))))).more (by first | (simp; done) | (simp; omega) | omega)) hm).mono ?_; rintro x w9 ⟨lv, rfl, hown9, hb9⟩
  have hz9 := hb9.size; (try simp at hz9)
  go_wp2
  refine bodyPost_ret (v := .tuple #[lv, .int .i64 46]) (by simp [results, Try.results41, go_sem, *]) rfl ⟨lv, by rw [creE_kind hn hk], ?_, (by repeat (first | with_reducible refine Below.setCell ?_ (by first | (simp; done) | (simp; omega) | omega) _ | with_reducible refine Below.alloc ?_ (by first | (simp; done) | (simp; omega) | omega) _ | with_reducible refine Below.drew ?_ | with_reducible refine below_drewN ?_ _ | with_reducible exact Below.refl _ _ | with_reducible refine Below.trans ?_ (Below.mono hb1 (by first | (simp; done) | (simp; omega) | omega)) | with_reducible refine Below.trans ?_ (Below.mono hb2 (by first | (simp; done) | (simp; omega) | omega)) | with_reducible refine Below.trans ?_ (Below.mono hb3 (by first | (simp; done) | (simp; omega) | omega)) | with_reducible refine Below.trans ?_ (Below.mono hb9 (by first | (simp; done) | (simp; omega) | omega))))⟩
  rw [creL_no (creE_kind hn hk) (by decide)]
  exact hown9.less (by first | (simp; done) | (simp; omega) | omega)
set_option maxRecDepth 100000 in
set_option maxHeartbeats 8000000 in
theorem create_sc (A : Option Addr) (n cp : Nat) (ls : List Ch) (m : Int) (nm : ByteArray) (k sc : Int) (w : World) (hr : ChsAt w w.heap.size A n ls) (hft : fitsB ls = true) (hn : nameB nm.data.toList = true) (hk : kindB k = true) (hs : scB k sc = false) :
    Calls Try.prog 41 #[.slice A n cp, .int .i64 m, .string nm, .int .i64 k, .int .i64 sc] w fun x w' => ∃ lv, x = .returned (.tuple #[lv, .int .i64 (creE ls nm k sc)]) ∧ OwnC w' w.heap.size lv (creL ls m nm k sc) ∧ Below w.heap.size w w' := by
  have hm : n * 56 ≤ 140737488351232 := by have := (fit_of_fits hft).1; have := hr.1; omega
  have HR := Lib.hid hr
  have HFT := Lib.hid hft
  clear hr hft
  have hF := find_any A n cp ls nm w HR.out hm
  go_enter Try.func41, Try.ntmps41
  go_wp2_with (fail)
  refine (hF).mono ?_; rintro e w1 ⟨rfl, hb1⟩; obtain ⟨hc1, hf1⟩ := bcell hb1; have hz1 := hb1.size; (try simp at hz1)
  clear hF
  have hN : ∀ W, Calls Try.prog 67 #[.string nm] W fun x w' => x = .returned (.bool true) ∧ Below W.heap.size W w' := fun W => by rw [← hn]; exact name_any nm W
  go_wp2_with (fail)
  refine (hN _).mono ?_; rintro e w2 ⟨rfl, hb2⟩; obtain ⟨hc2, hf2⟩ := bcell hb2; have hz2 := hb2.size; (try simp at hz2); have hz2_0 : w1.heap.size < w2.heap.size := (by omega); have hz2_0_1 : w1.heap.size < w2.heap.size + 1 := (by omega); have hz2_0_2 : w1.heap.size < w2.heap.size + 1 + 1 := (by omega); have hz2_0_3 : w1.heap.size < w2.heap.size + 1 + 1 + 1 := (by omega)
  go_wp2_with (fail)
  have hK : ∀ W, Calls Try.prog 68 #[.int .i64 k] W fun x w' => x = .returned (.bool true) ∧ Below W.heap.size W w' := fun W => by rw [← hk]; exact kind_any k W
  refine (hK _).mono ?_; rintro e w3 ⟨rfl, hb3⟩; obtain ⟨hc3, hf3⟩ := bcell hb3; have hz3 := hb3.size; (try simp at hz3); have hz3_0 : w1.heap.size < w3.heap.size := (by omega); have hz3_0_1 : w1.heap.size < w3.heap.size + 1 := (by omega); have hz3_0_2 : w1.heap.size < w3.heap.size + 1 + 1 := (by omega); have hz3_0_3 : w1.heap.size < w3.heap.size + 1 + 1 + 1 := (by omega)
  go_wp2_with (fail)
  have hS : ∀ W, Calls Try.prog 69 #[.int .i64 k, .int .i64 sc] W fun x w' => x = .returned (.bool false) ∧ Below W.heap.size W w' := fun W => by rw [← hs]; exact scaled_any k sc W
  refine (hS _).mono ?_; rintro e w4 ⟨rfl, hb4⟩; obtain ⟨hc4, hf4⟩ := bcell hb4; have hz4 := hb4.size; (try simp at hz4); have hz4_0 : w1.heap.size < w4.heap.size := (by omega); have hz4_0_1 : w1.heap.size < w4.heap.size + 1 := (by omega); have hz4_0_2 : w1.heap.size < w4.heap.size + 1 + 1 := (by omega); have hz4_0_3 : w1.heap.size < w4.heap.size + 1 + 1 + 1 := (by omega)
  go_wp2_with (fail)
  refine (clone_any A n cp ls _ ((HR.out.below (by repeat (first | with_reducible refine Below.setCell ?_ (by first | (simp; done) | (simp; omega) | omega) _ | with_reducible refine Below.alloc ?_ (by first | (simp; done) | (simp; omega) | omega) _ | with_reducible refine Below.drew ?_ | with_reducible refine below_drewN ?_ _ | with_reducible exact Below.refl _ _ | with_reducible refine Below.trans ?_ (Below.mono hb1 (by first | (simp; done) | (simp; omega) | omega)) | with_reducible refine Below.trans ?_ (Below.mono hb2 (by first | (simp; done) | (simp; omega) | omega)) | with_reducible refine Below.trans ?_ (Below.mono hb3 (by first | (simp; done) | (simp; omega) | omega)) | with_reducible refine Below.trans ?_ (Below.mono hb4 (by first | (simp; done) | (simp; omega) | omega))))).more (by first | (simp; done) | (simp; omega) | omega)) hm).mono ?_; rintro x w9 ⟨lv, rfl, hown9, hb9⟩
  have hz9 := hb9.size; (try simp at hz9)
  go_wp2
  refine bodyPost_ret (v := .tuple #[lv, .int .i64 47]) (by simp [results, Try.results41, go_sem, *]) rfl ⟨lv, by rw [creE_sc hn hk hs], ?_, (by repeat (first | with_reducible refine Below.setCell ?_ (by first | (simp; done) | (simp; omega) | omega) _ | with_reducible refine Below.alloc ?_ (by first | (simp; done) | (simp; omega) | omega) _ | with_reducible refine Below.drew ?_ | with_reducible refine below_drewN ?_ _ | with_reducible exact Below.refl _ _ | with_reducible refine Below.trans ?_ (Below.mono hb1 (by first | (simp; done) | (simp; omega) | omega)) | with_reducible refine Below.trans ?_ (Below.mono hb2 (by first | (simp; done) | (simp; omega) | omega)) | with_reducible refine Below.trans ?_ (Below.mono hb3 (by first | (simp; done) | (simp; omega) | omega)) | with_reducible refine Below.trans ?_ (Below.mono hb4 (by first | (simp; done) | (simp; omega) | omega)) | with_reducible refine Below.trans ?_ (Below.mono hb9 (by first | (simp; done) | (simp; omega) | omega))))⟩
  rw [creL_no (creE_sc hn hk hs) (by decide)]
  exact hown9.less (by first | (simp; done) | (simp; omega) | omega)
set_option maxRecDepth 100000 in
set_option maxHeartbeats 8000000 in
theorem create_have (A : Option Addr) (n cp : Nat) (ls : List Ch) (m : Int) (nm : ByteArray) (k sc : Int) (w : World) (hr : ChsAt w w.heap.size A n ls) (hft : fitsB ls = true) (o : Ch) (hd : findL ls nm = some o) (ha : o.al = true) (hn : nameB nm.data.toList = true) (hk : kindB k = true) (hs : scB k sc = true) :
    Calls Try.prog 41 #[.slice A n cp, .int .i64 m, .string nm, .int .i64 k, .int .i64 sc] w fun x w' => ∃ lv, x = .returned (.tuple #[lv, .int .i64 (creE ls nm k sc)]) ∧ OwnC w' w.heap.size lv (creL ls m nm k sc) ∧ Below w.heap.size w w' := by
  have hm : n * 56 ≤ 140737488351232 := by have := (fit_of_fits hft).1; have := hr.1; omega
  have HR := Lib.hid hr
  have HFT := Lib.hid hft
  clear hr hft
  have HD := Lib.hid hd
  clear hd
  obtain ⟨os, oe, om, oa, ok, oc⟩ := o
  simp only [] at ha
  subst ha
  have hF := find_any A n cp ls nm w HR.out hm
  rw [HD.out] at hF
  simp only [Option.getD_some, Option.isSome_some] at hF
  go_enter Try.func41, Try.ntmps41
  go_wp2_with (fail)
  refine (hF).mono ?_; rintro e w1 ⟨rfl, hb1⟩; obtain ⟨hc1, hf1⟩ := bcell hb1; have hz1 := hb1.size; (try simp at hz1)
  clear hF
  have hN : ∀ W, Calls Try.prog 67 #[.string nm] W fun x w' => x = .returned (.bool true) ∧ Below W.heap.size W w' := fun W => by rw [← hn]; exact name_any nm W
  go_wp2_with (fail)
  refine (hN _).mono ?_; rintro e w2 ⟨rfl, hb2⟩; obtain ⟨hc2, hf2⟩ := bcell hb2; have hz2 := hb2.size; (try simp at hz2); have hz2_0 : w1.heap.size < w2.heap.size := (by omega); have hz2_0_1 : w1.heap.size < w2.heap.size + 1 := (by omega); have hz2_0_2 : w1.heap.size < w2.heap.size + 1 + 1 := (by omega); have hz2_0_3 : w1.heap.size < w2.heap.size + 1 + 1 + 1 := (by omega)
  go_wp2_with (fail)
  have hK : ∀ W, Calls Try.prog 68 #[.int .i64 k] W fun x w' => x = .returned (.bool true) ∧ Below W.heap.size W w' := fun W => by rw [← hk]; exact kind_any k W
  refine (hK _).mono ?_; rintro e w3 ⟨rfl, hb3⟩; obtain ⟨hc3, hf3⟩ := bcell hb3; have hz3 := hb3.size; (try simp at hz3); have hz3_0 : w1.heap.size < w3.heap.size := (by omega); have hz3_0_1 : w1.heap.size < w3.heap.size + 1 := (by omega); have hz3_0_2 : w1.heap.size < w3.heap.size + 1 + 1 := (by omega); have hz3_0_3 : w1.heap.size < w3.heap.size + 1 + 1 + 1 := (by omega)
  go_wp2_with (fail)
  have hS : ∀ W, Calls Try.prog 69 #[.int .i64 k, .int .i64 sc] W fun x w' => x = .returned (.bool true) ∧ Below W.heap.size W w' := fun W => by rw [← hs]; exact scaled_any k sc W
  refine (hS _).mono ?_; rintro e w4 ⟨rfl, hb4⟩; obtain ⟨hc4, hf4⟩ := bcell hb4; have hz4 := hb4.size; (try simp at hz4); have hz4_0 : w1.heap.size < w4.heap.size := (by omega); have hz4_0_1 : w1.heap.size < w4.heap.size + 1 := (by omega); have hz4_0_2 : w1.heap.size < w4.heap.size + 1 + 1 := (by omega); have hz4_0_3 : w1.heap.size < w4.heap.size + 1 + 1 + 1 := (by omega)
  go_wp2_with (fail)
  refine (clone_any A n cp ls _ ((HR.out.below (by repeat (first | with_reducible refine Below.setCell ?_ (by first | (simp; done) | (simp; omega) | omega) _ | with_reducible refine Below.alloc ?_ (by first | (simp; done) | (simp; omega) | omega) _ | with_reducible refine Below.drew ?_ | with_reducible refine below_drewN ?_ _ | with_reducible exact Below.refl _ _ | with_reducible refine Below.trans ?_ (Below.mono hb1 (by first | (simp; done) | (simp; omega) | omega)) | with_reducible refine Below.trans ?_ (Below.mono hb2 (by first | (simp; done) | (simp; omega) | omega)) | with_reducible refine Below.trans ?_ (Below.mono hb3 (by first | (simp; done) | (simp; omega) | omega)) | with_reducible refine Below.trans ?_ (Below.mono hb4 (by first | (simp; done) | (simp; omega) | omega))))).more (by first | (simp; done) | (simp; omega) | omega)) hm).mono ?_; rintro x w9 ⟨lv, rfl, hown9, hb9⟩
  have hz9 := hb9.size; (try simp at hz9)
  go_wp2
  refine bodyPost_ret (v := .tuple #[lv, .int .i64 42]) (by simp [results, Try.results41, go_sem, *]) rfl ⟨lv, by rw [creE_have hn hk hs HD.out rfl], ?_, (by repeat (first | with_reducible refine Below.setCell ?_ (by first | (simp; done) | (simp; omega) | omega) _ | with_reducible refine Below.alloc ?_ (by first | (simp; done) | (simp; omega) | omega) _ | with_reducible refine Below.drew ?_ | with_reducible refine below_drewN ?_ _ | with_reducible exact Below.refl _ _ | with_reducible refine Below.trans ?_ (Below.mono hb1 (by first | (simp; done) | (simp; omega) | omega)) | with_reducible refine Below.trans ?_ (Below.mono hb2 (by first | (simp; done) | (simp; omega) | omega)) | with_reducible refine Below.trans ?_ (Below.mono hb3 (by first | (simp; done) | (simp; omega) | omega)) | with_reducible refine Below.trans ?_ (Below.mono hb4 (by first | (simp; done) | (simp; omega) | omega)) | with_reducible refine Below.trans ?_ (Below.mono hb9 (by first | (simp; done) | (simp; omega) | omega))))⟩
  rw [creL_no (creE_have hn hk hs HD.out rfl) (by decide)]
  exact hown9.less (by first | (simp; done) | (simp; omega) | omega)
set_option maxRecDepth 100000 in
set_option maxHeartbeats 8000000 in
theorem create_last (A : Option Addr) (n cp : Nat) (ls : List Ch) (m : Int) (nm : ByteArray) (k sc : Int) (w : World) (hr : ChsAt w w.heap.size A n ls) (hft : fitsB ls = true) (o : Ch) (hd : findL ls nm = some o) (ha : o.al = false) (he : o.ep = 1099511627776) (hn : nameB nm.data.toList = true) (hk : kindB k = true) (hs : scB k sc = true) :
    Calls Try.prog 41 #[.slice A n cp, .int .i64 m, .string nm, .int .i64 k, .int .i64 sc] w fun x w' => ∃ lv, x = .returned (.tuple #[lv, .int .i64 (creE ls nm k sc)]) ∧ OwnC w' w.heap.size lv (creL ls m nm k sc) ∧ Below w.heap.size w w' := by
  have hm : n * 56 ≤ 140737488351232 := by have := (fit_of_fits hft).1; have := hr.1; omega
  have HR := Lib.hid hr
  have HFT := Lib.hid hft
  clear hr hft
  have HD := Lib.hid hd
  clear hd
  obtain ⟨os, oe, om, oa, ok, oc⟩ := o
  simp only [] at ha
  subst ha
  simp only [] at he
  subst he
  have hF := find_any A n cp ls nm w HR.out hm
  rw [HD.out] at hF
  simp only [Option.getD_some, Option.isSome_some] at hF
  go_enter Try.func41, Try.ntmps41
  go_wp2_with (fail)
  refine (hF).mono ?_; rintro e w1 ⟨rfl, hb1⟩; obtain ⟨hc1, hf1⟩ := bcell hb1; have hz1 := hb1.size; (try simp at hz1)
  clear hF
  have hN : ∀ W, Calls Try.prog 67 #[.string nm] W fun x w' => x = .returned (.bool true) ∧ Below W.heap.size W w' := fun W => by rw [← hn]; exact name_any nm W
  go_wp2_with (fail)
  refine (hN _).mono ?_; rintro e w2 ⟨rfl, hb2⟩; obtain ⟨hc2, hf2⟩ := bcell hb2; have hz2 := hb2.size; (try simp at hz2); have hz2_0 : w1.heap.size < w2.heap.size := (by omega); have hz2_0_1 : w1.heap.size < w2.heap.size + 1 := (by omega); have hz2_0_2 : w1.heap.size < w2.heap.size + 1 + 1 := (by omega); have hz2_0_3 : w1.heap.size < w2.heap.size + 1 + 1 + 1 := (by omega)
  go_wp2_with (fail)
  have hK : ∀ W, Calls Try.prog 68 #[.int .i64 k] W fun x w' => x = .returned (.bool true) ∧ Below W.heap.size W w' := fun W => by rw [← hk]; exact kind_any k W
  refine (hK _).mono ?_; rintro e w3 ⟨rfl, hb3⟩; obtain ⟨hc3, hf3⟩ := bcell hb3; have hz3 := hb3.size; (try simp at hz3); have hz3_0 : w1.heap.size < w3.heap.size := (by omega); have hz3_0_1 : w1.heap.size < w3.heap.size + 1 := (by omega); have hz3_0_2 : w1.heap.size < w3.heap.size + 1 + 1 := (by omega); have hz3_0_3 : w1.heap.size < w3.heap.size + 1 + 1 + 1 := (by omega)
  go_wp2_with (fail)
  have hS : ∀ W, Calls Try.prog 69 #[.int .i64 k, .int .i64 sc] W fun x w' => x = .returned (.bool true) ∧ Below W.heap.size W w' := fun W => by rw [← hs]; exact scaled_any k sc W
  refine (hS _).mono ?_; rintro e w4 ⟨rfl, hb4⟩; obtain ⟨hc4, hf4⟩ := bcell hb4; have hz4 := hb4.size; (try simp at hz4); have hz4_0 : w1.heap.size < w4.heap.size := (by omega); have hz4_0_1 : w1.heap.size < w4.heap.size + 1 := (by omega); have hz4_0_2 : w1.heap.size < w4.heap.size + 1 + 1 := (by omega); have hz4_0_3 : w1.heap.size < w4.heap.size + 1 + 1 + 1 := (by omega)
  go_wp2_with (fail)
  refine (clone_any A n cp ls _ ((HR.out.below (by repeat (first | with_reducible refine Below.setCell ?_ (by first | (simp; done) | (simp; omega) | omega) _ | with_reducible refine Below.alloc ?_ (by first | (simp; done) | (simp; omega) | omega) _ | with_reducible refine Below.drew ?_ | with_reducible refine below_drewN ?_ _ | with_reducible exact Below.refl _ _ | with_reducible refine Below.trans ?_ (Below.mono hb1 (by first | (simp; done) | (simp; omega) | omega)) | with_reducible refine Below.trans ?_ (Below.mono hb2 (by first | (simp; done) | (simp; omega) | omega)) | with_reducible refine Below.trans ?_ (Below.mono hb3 (by first | (simp; done) | (simp; omega) | omega)) | with_reducible refine Below.trans ?_ (Below.mono hb4 (by first | (simp; done) | (simp; omega) | omega))))).more (by first | (simp; done) | (simp; omega) | omega)) hm).mono ?_; rintro x w9 ⟨lv, rfl, hown9, hb9⟩
  have hz9 := hb9.size; (try simp at hz9)
  go_wp2
  refine bodyPost_ret (v := .tuple #[lv, .int .i64 33]) (by simp [results, Try.results41, go_sem, *]) rfl ⟨lv, by rw [creE_last hn hk hs HD.out rfl rfl], ?_, (by repeat (first | with_reducible refine Below.setCell ?_ (by first | (simp; done) | (simp; omega) | omega) _ | with_reducible refine Below.alloc ?_ (by first | (simp; done) | (simp; omega) | omega) _ | with_reducible refine Below.drew ?_ | with_reducible refine below_drewN ?_ _ | with_reducible exact Below.refl _ _ | with_reducible refine Below.trans ?_ (Below.mono hb1 (by first | (simp; done) | (simp; omega) | omega)) | with_reducible refine Below.trans ?_ (Below.mono hb2 (by first | (simp; done) | (simp; omega) | omega)) | with_reducible refine Below.trans ?_ (Below.mono hb3 (by first | (simp; done) | (simp; omega) | omega)) | with_reducible refine Below.trans ?_ (Below.mono hb4 (by first | (simp; done) | (simp; omega) | omega)) | with_reducible refine Below.trans ?_ (Below.mono hb9 (by first | (simp; done) | (simp; omega) | omega))))⟩
  rw [creL_no (creE_last hn hk hs HD.out rfl rfl) (by decide)]
  exact hown9.less (by first | (simp; done) | (simp; omega) | omega)
set_option maxRecDepth 100000 in
set_option maxHeartbeats 8000000 in
theorem create_over (A : Option Addr) (n cp : Nat) (ls : List Ch) (m : Int) (nm : ByteArray) (k sc : Int) (w : World) (hr : ChsAt w w.heap.size A n ls) (hft : fitsB ls = true) (o : Ch) (hd : findL ls nm = some o) (ha : o.al = false) (he : o.ep ≠ 1099511627776) (hn : nameB nm.data.toList = true) (hk : kindB k = true) (hs : scB k sc = true) :
    Calls Try.prog 41 #[.slice A n cp, .int .i64 m, .string nm, .int .i64 k, .int .i64 sc] w fun x w' => ∃ lv, x = .returned (.tuple #[lv, .int .i64 (creE ls nm k sc)]) ∧ OwnC w' w.heap.size lv (creL ls m nm k sc) ∧ Below w.heap.size w w' := by
  have hm : n * 56 ≤ 140737488351232 := by have := (fit_of_fits hft).1; have := hr.1; omega
  have HR := Lib.hid hr
  have HFT := Lib.hid hft
  clear hr hft
  have HD := Lib.hid hd
  clear hd
  obtain ⟨os, oe, om, oa, ok, oc⟩ := o
  simp only [] at ha
  subst ha
  simp only [] at he
  have hep := fits_ep HFT.out HD.out
  simp only [] at hep
  obtain ⟨hep0, hep1⟩ := hep
  have heb : (oe == 1099511627776) = false := by simpa using he
  have hF := find_any A n cp ls nm w HR.out hm
  rw [HD.out] at hF
  simp only [Option.getD_some, Option.isSome_some] at hF
  go_enter Try.func41, Try.ntmps41
  go_wp2_with (fail)
  refine (hF).mono ?_; rintro e w1 ⟨rfl, hb1⟩; obtain ⟨hc1, hf1⟩ := bcell hb1; have hz1 := hb1.size; (try simp at hz1)
  clear hF
  have hN : ∀ W, Calls Try.prog 67 #[.string nm] W fun x w' => x = .returned (.bool true) ∧ Below W.heap.size W w' := fun W => by rw [← hn]; exact name_any nm W
  go_wp2_with (fail)
  refine (hN _).mono ?_; rintro e w2 ⟨rfl, hb2⟩; obtain ⟨hc2, hf2⟩ := bcell hb2; have hz2 := hb2.size; (try simp at hz2); have hz2_0 : w1.heap.size < w2.heap.size := (by omega); have hz2_0_1 : w1.heap.size < w2.heap.size + 1 := (by omega); have hz2_0_2 : w1.heap.size < w2.heap.size + 1 + 1 := (by omega); have hz2_0_3 : w1.heap.size < w2.heap.size + 1 + 1 + 1 := (by omega)
  go_wp2_with (fail)
  have hK : ∀ W, Calls Try.prog 68 #[.int .i64 k] W fun x w' => x = .returned (.bool true) ∧ Below W.heap.size W w' := fun W => by rw [← hk]; exact kind_any k W
  refine (hK _).mono ?_; rintro e w3 ⟨rfl, hb3⟩; obtain ⟨hc3, hf3⟩ := bcell hb3; have hz3 := hb3.size; (try simp at hz3); have hz3_0 : w1.heap.size < w3.heap.size := (by omega); have hz3_0_1 : w1.heap.size < w3.heap.size + 1 := (by omega); have hz3_0_2 : w1.heap.size < w3.heap.size + 1 + 1 := (by omega); have hz3_0_3 : w1.heap.size < w3.heap.size + 1 + 1 + 1 := (by omega)
  go_wp2_with (fail)
  have hS : ∀ W, Calls Try.prog 69 #[.int .i64 k, .int .i64 sc] W fun x w' => x = .returned (.bool true) ∧ Below W.heap.size W w' := fun W => by rw [← hs]; exact scaled_any k sc W
  refine (hS _).mono ?_; rintro e w4 ⟨rfl, hb4⟩; obtain ⟨hc4, hf4⟩ := bcell hb4; have hz4 := hb4.size; (try simp at hz4); have hz4_0 : w1.heap.size < w4.heap.size := (by omega); have hz4_0_1 : w1.heap.size < w4.heap.size + 1 := (by omega); have hz4_0_2 : w1.heap.size < w4.heap.size + 1 + 1 := (by omega); have hz4_0_3 : w1.heap.size < w4.heap.size + 1 + 1 + 1 := (by omega)
  go_wp2_with (fail)
  refine (learn_any A n cp ls nm (oe + 1) m true k sc _ ((HR.out.below (by repeat (first | with_reducible refine Below.setCell ?_ (by first | (simp; done) | (simp; omega) | omega) _ | with_reducible refine Below.alloc ?_ (by first | (simp; done) | (simp; omega) | omega) _ | with_reducible refine Below.drew ?_ | with_reducible refine below_drewN ?_ _ | with_reducible exact Below.refl _ _ | with_reducible refine Below.trans ?_ (Below.mono hb1 (by first | (simp; done) | (simp; omega) | omega)) | with_reducible refine Below.trans ?_ (Below.mono hb2 (by first | (simp; done) | (simp; omega) | omega)) | with_reducible refine Below.trans ?_ (Below.mono hb3 (by first | (simp; done) | (simp; omega) | omega)) | with_reducible refine Below.trans ?_ (Below.mono hb4 (by first | (simp; done) | (simp; omega) | omega))))).more (by first | (simp; done) | (simp; omega) | omega)) hm).mono ?_; rintro x w9 ⟨lv, rfl, hown9, hb9⟩
  have hz9 := hb9.size; (try simp at hz9)
  go_wp2
  refine bodyPost_ret (v := .tuple #[lv, .int .i64 0]) (by simp [results, Try.results41, go_sem, *]) rfl ⟨lv, by rw [creE_ok hn hk hs HD.out rfl he], ?_, (by repeat (first | with_reducible refine Below.setCell ?_ (by first | (simp; done) | (simp; omega) | omega) _ | with_reducible refine Below.alloc ?_ (by first | (simp; done) | (simp; omega) | omega) _ | with_reducible refine Below.drew ?_ | with_reducible refine below_drewN ?_ _ | with_reducible exact Below.refl _ _ | with_reducible refine Below.trans ?_ (Below.mono hb1 (by first | (simp; done) | (simp; omega) | omega)) | with_reducible refine Below.trans ?_ (Below.mono hb2 (by first | (simp; done) | (simp; omega) | omega)) | with_reducible refine Below.trans ?_ (Below.mono hb3 (by first | (simp; done) | (simp; omega) | omega)) | with_reducible refine Below.trans ?_ (Below.mono hb4 (by first | (simp; done) | (simp; omega) | omega)) | with_reducible refine Below.trans ?_ (Below.mono hb9 (by first | (simp; done) | (simp; omega) | omega))))⟩
  rw [creL_ok (creE_ok hn hk hs HD.out rfl he)]
  have hown := hown9.less (base' := w.heap.size) (by first | (simp; done) | (simp; omega) | omega)
  rw [learn_over (c := ⟨nm, oe + 1, m, true, k, sc⟩) HFT.out HD.out rfl] at hown
  have e : creC ls m nm k sc = ⟨nm, oe + 1, m, true, k, sc⟩ := by unfold creC; rw [HD.out]; rfl
  rw [e]
  exact hown
set_option maxRecDepth 100000 in
set_option maxHeartbeats 8000000 in
theorem create_full (A : Option Addr) (n cp : Nat) (ls : List Ch) (m : Int) (nm : ByteArray) (k sc : Int) (w : World) (hr : ChsAt w w.heap.size A n ls) (hft : fitsB ls = true) (hd : findL ls nm = none) (h8 : 8 ≤ ls.length) (hn : nameB nm.data.toList = true) (hk : kindB k = true) (hs : scB k sc = true) :
    Calls Try.prog 41 #[.slice A n cp, .int .i64 m, .string nm, .int .i64 k, .int .i64 sc] w fun x w' => ∃ lv, x = .returned (.tuple #[lv, .int .i64 (creE ls nm k sc)]) ∧ OwnC w' w.heap.size lv (creL ls m nm k sc) ∧ Below w.heap.size w w' := by
  have hm : n * 56 ≤ 140737488351232 := by have := (fit_of_fits hft).1; have := hr.1; omega
  have HR := Lib.hid hr
  have HFT := Lib.hid hft
  clear hr hft
  have HD := Lib.hid hd
  clear hd
  have hF := find_any A n cp ls nm w HR.out hm
  rw [HD.out] at hF
  simp only [Option.getD_none, Option.isSome_none] at hF
  have h8n : 8 ≤ n := by have := HR.out.1; omega
  go_enter Try.func41, Try.ntmps41
  go_wp2_with (fail)
  refine (hF).mono ?_; rintro e w1 ⟨rfl, hb1⟩; obtain ⟨hc1, hf1⟩ := bcell hb1; have hz1 := hb1.size; (try simp at hz1)
  clear hF
  have hN : ∀ W, Calls Try.prog 67 #[.string nm] W fun x w' => x = .returned (.bool true) ∧ Below W.heap.size W w' := fun W => by rw [← hn]; exact name_any nm W
  go_wp2_with (fail)
  refine (hN _).mono ?_; rintro e w2 ⟨rfl, hb2⟩; obtain ⟨hc2, hf2⟩ := bcell hb2; have hz2 := hb2.size; (try simp at hz2); have hz2_0 : w1.heap.size < w2.heap.size := (by omega); have hz2_0_1 : w1.heap.size < w2.heap.size + 1 := (by omega); have hz2_0_2 : w1.heap.size < w2.heap.size + 1 + 1 := (by omega); have hz2_0_3 : w1.heap.size < w2.heap.size + 1 + 1 + 1 := (by omega)
  go_wp2_with (fail)
  have hK : ∀ W, Calls Try.prog 68 #[.int .i64 k] W fun x w' => x = .returned (.bool true) ∧ Below W.heap.size W w' := fun W => by rw [← hk]; exact kind_any k W
  refine (hK _).mono ?_; rintro e w3 ⟨rfl, hb3⟩; obtain ⟨hc3, hf3⟩ := bcell hb3; have hz3 := hb3.size; (try simp at hz3); have hz3_0 : w1.heap.size < w3.heap.size := (by omega); have hz3_0_1 : w1.heap.size < w3.heap.size + 1 := (by omega); have hz3_0_2 : w1.heap.size < w3.heap.size + 1 + 1 := (by omega); have hz3_0_3 : w1.heap.size < w3.heap.size + 1 + 1 + 1 := (by omega)
  go_wp2_with (fail)
  have hS : ∀ W, Calls Try.prog 69 #[.int .i64 k, .int .i64 sc] W fun x w' => x = .returned (.bool true) ∧ Below W.heap.size W w' := fun W => by rw [← hs]; exact scaled_any k sc W
  refine (hS _).mono ?_; rintro e w4 ⟨rfl, hb4⟩; obtain ⟨hc4, hf4⟩ := bcell hb4; have hz4 := hb4.size; (try simp at hz4); have hz4_0 : w1.heap.size < w4.heap.size := (by omega); have hz4_0_1 : w1.heap.size < w4.heap.size + 1 := (by omega); have hz4_0_2 : w1.heap.size < w4.heap.size + 1 + 1 := (by omega); have hz4_0_3 : w1.heap.size < w4.heap.size + 1 + 1 + 1 := (by omega)
  go_wp2_with (fail)
  refine (clone_any A n cp ls _ ((HR.out.below (by repeat (first | with_reducible refine Below.setCell ?_ (by first | (simp; done) | (simp; omega) | omega) _ | with_reducible refine Below.alloc ?_ (by first | (simp; done) | (simp; omega) | omega) _ | with_reducible refine Below.drew ?_ | with_reducible refine below_drewN ?_ _ | with_reducible exact Below.refl _ _ | with_reducible refine Below.trans ?_ (Below.mono hb1 (by first | (simp; done) | (simp; omega) | omega)) | with_reducible refine Below.trans ?_ (Below.mono hb2 (by first | (simp; done) | (simp; omega) | omega)) | with_reducible refine Below.trans ?_ (Below.mono hb3 (by first | (simp; done) | (simp; omega) | omega)) | with_reducible refine Below.trans ?_ (Below.mono hb4 (by first | (simp; done) | (simp; omega) | omega))))).more (by first | (simp; done) | (simp; omega) | omega)) hm).mono ?_; rintro x w9 ⟨lv, rfl, hown9, hb9⟩
  have hz9 := hb9.size; (try simp at hz9)
  go_wp2
  refine bodyPost_ret (v := .tuple #[lv, .int .i64 48]) (by simp [results, Try.results41, go_sem, *]) rfl ⟨lv, by rw [creE_full hn hk hs HD.out h8], ?_, (by repeat (first | with_reducible refine Below.setCell ?_ (by first | (simp; done) | (simp; omega) | omega) _ | with_reducible refine Below.alloc ?_ (by first | (simp; done) | (simp; omega) | omega) _ | with_reducible refine Below.drew ?_ | with_reducible refine below_drewN ?_ _ | with_reducible exact Below.refl _ _ | with_reducible refine Below.trans ?_ (Below.mono hb1 (by first | (simp; done) | (simp; omega) | omega)) | with_reducible refine Below.trans ?_ (Below.mono hb2 (by first | (simp; done) | (simp; omega) | omega)) | with_reducible refine Below.trans ?_ (Below.mono hb3 (by first | (simp; done) | (simp; omega) | omega)) | with_reducible refine Below.trans ?_ (Below.mono hb4 (by first | (simp; done) | (simp; omega) | omega)) | with_reducible refine Below.trans ?_ (Below.mono hb9 (by first | (simp; done) | (simp; omega) | omega))))⟩
  rw [creL_no (creE_full hn hk hs HD.out h8) (by decide)]
  exact hown9.less (by first | (simp; done) | (simp; omega) | omega)
set_option maxRecDepth 100000 in
set_option maxHeartbeats 8000000 in
theorem create_new (A : Option Addr) (n cp : Nat) (ls : List Ch) (m : Int) (nm : ByteArray) (k sc : Int) (w : World) (hr : ChsAt w w.heap.size A n ls) (hft : fitsB ls = true) (hd : findL ls nm = none) (h8 : ¬ 8 ≤ ls.length) (hn : nameB nm.data.toList = true) (hk : kindB k = true) (hs : scB k sc = true) :
    Calls Try.prog 41 #[.slice A n cp, .int .i64 m, .string nm, .int .i64 k, .int .i64 sc] w fun x w' => ∃ lv, x = .returned (.tuple #[lv, .int .i64 (creE ls nm k sc)]) ∧ OwnC w' w.heap.size lv (creL ls m nm k sc) ∧ Below w.heap.size w w' := by
  have hm : n * 56 ≤ 140737488351232 := by have := (fit_of_fits hft).1; have := hr.1; omega
  have HR := Lib.hid hr
  have HFT := Lib.hid hft
  clear hr hft
  have HD := Lib.hid hd
  clear hd
  have hF := find_any A n cp ls nm w HR.out hm
  rw [HD.out] at hF
  simp only [Option.getD_none, Option.isSome_none] at hF
  have h8n : n < 8 := by have := HR.out.1; omega
  go_enter Try.func41, Try.ntmps41
  go_wp2_with (fail)
  refine (hF).mono ?_; rintro e w1 ⟨rfl, hb1⟩; obtain ⟨hc1, hf1⟩ := bcell hb1; have hz1 := hb1.size; (try simp at hz1)
  clear hF
  have hN : ∀ W, Calls Try.prog 67 #[.string nm] W fun x w' => x = .returned (.bool true) ∧ Below W.heap.size W w' := fun W => by rw [← hn]; exact name_any nm W
  go_wp2_with (fail)
  refine (hN _).mono ?_; rintro e w2 ⟨rfl, hb2⟩; obtain ⟨hc2, hf2⟩ := bcell hb2; have hz2 := hb2.size; (try simp at hz2); have hz2_0 : w1.heap.size < w2.heap.size := (by omega); have hz2_0_1 : w1.heap.size < w2.heap.size + 1 := (by omega); have hz2_0_2 : w1.heap.size < w2.heap.size + 1 + 1 := (by omega); have hz2_0_3 : w1.heap.size < w2.heap.size + 1 + 1 + 1 := (by omega)
  go_wp2_with (fail)
  have hK : ∀ W, Calls Try.prog 68 #[.int .i64 k] W fun x w' => x = .returned (.bool true) ∧ Below W.heap.size W w' := fun W => by rw [← hk]; exact kind_any k W
  refine (hK _).mono ?_; rintro e w3 ⟨rfl, hb3⟩; obtain ⟨hc3, hf3⟩ := bcell hb3; have hz3 := hb3.size; (try simp at hz3); have hz3_0 : w1.heap.size < w3.heap.size := (by omega); have hz3_0_1 : w1.heap.size < w3.heap.size + 1 := (by omega); have hz3_0_2 : w1.heap.size < w3.heap.size + 1 + 1 := (by omega); have hz3_0_3 : w1.heap.size < w3.heap.size + 1 + 1 + 1 := (by omega)
  go_wp2_with (fail)
  have hS : ∀ W, Calls Try.prog 69 #[.int .i64 k, .int .i64 sc] W fun x w' => x = .returned (.bool true) ∧ Below W.heap.size W w' := fun W => by rw [← hs]; exact scaled_any k sc W
  refine (hS _).mono ?_; rintro e w4 ⟨rfl, hb4⟩; obtain ⟨hc4, hf4⟩ := bcell hb4; have hz4 := hb4.size; (try simp at hz4); have hz4_0 : w1.heap.size < w4.heap.size := (by omega); have hz4_0_1 : w1.heap.size < w4.heap.size + 1 := (by omega); have hz4_0_2 : w1.heap.size < w4.heap.size + 1 + 1 := (by omega); have hz4_0_3 : w1.heap.size < w4.heap.size + 1 + 1 + 1 := (by omega)
  go_wp2_with (fail)
  refine (learn_any A n cp ls nm 1 m true k sc _ ((HR.out.below (by repeat (first | with_reducible refine Below.setCell ?_ (by first | (simp; done) | (simp; omega) | omega) _ | with_reducible refine Below.alloc ?_ (by first | (simp; done) | (simp; omega) | omega) _ | with_reducible refine Below.drew ?_ | with_reducible refine below_drewN ?_ _ | with_reducible exact Below.refl _ _ | with_reducible refine Below.trans ?_ (Below.mono hb1 (by first | (simp; done) | (simp; omega) | omega)) | with_reducible refine Below.trans ?_ (Below.mono hb2 (by first | (simp; done) | (simp; omega) | omega)) | with_reducible refine Below.trans ?_ (Below.mono hb3 (by first | (simp; done) | (simp; omega) | omega)) | with_reducible refine Below.trans ?_ (Below.mono hb4 (by first | (simp; done) | (simp; omega) | omega))))).more (by first | (simp; done) | (simp; omega) | omega)) hm).mono ?_; rintro x w9 ⟨lv, rfl, hown9, hb9⟩
  have hz9 := hb9.size; (try simp at hz9)
  go_wp2
  refine bodyPost_ret (v := .tuple #[lv, .int .i64 0]) (by simp [results, Try.results41, go_sem, *]) rfl ⟨lv, by rw [creE_new hn hk hs HD.out h8], ?_, (by repeat (first | with_reducible refine Below.setCell ?_ (by first | (simp; done) | (simp; omega) | omega) _ | with_reducible refine Below.alloc ?_ (by first | (simp; done) | (simp; omega) | omega) _ | with_reducible refine Below.drew ?_ | with_reducible refine below_drewN ?_ _ | with_reducible exact Below.refl _ _ | with_reducible refine Below.trans ?_ (Below.mono hb1 (by first | (simp; done) | (simp; omega) | omega)) | with_reducible refine Below.trans ?_ (Below.mono hb2 (by first | (simp; done) | (simp; omega) | omega)) | with_reducible refine Below.trans ?_ (Below.mono hb3 (by first | (simp; done) | (simp; omega) | omega)) | with_reducible refine Below.trans ?_ (Below.mono hb4 (by first | (simp; done) | (simp; omega) | omega)) | with_reducible refine Below.trans ?_ (Below.mono hb9 (by first | (simp; done) | (simp; omega) | omega))))⟩
  rw [creL_ok (creE_new hn hk hs HD.out h8)]
  have hown := hown9.less (base' := w.heap.size) (by first | (simp; done) | (simp; omega) | omega)
  rw [learn_new (c := ⟨nm, 1, m, true, k, sc⟩) HFT.out HD.out h8] at hown
  have e : creC ls m nm k sc = ⟨nm, 1, m, true, k, sc⟩ := by unfold creC; rw [HD.out]; rfl
  rw [e]
  exact hown
theorem create_any (A : Option Addr) (n cp : Nat) (ls : List Ch) (m : Int) (nm : ByteArray) (k sc : Int) (w : World) (hr : ChsAt w w.heap.size A n ls) (hft : fitsB ls = true) :
    Calls Try.prog 41 #[.slice A n cp, .int .i64 m, .string nm, .int .i64 k, .int .i64 sc] w fun x w' => ∃ lv, x = .returned (.tuple #[lv, .int .i64 (creE ls nm k sc)]) ∧ OwnC w' w.heap.size lv (creL ls m nm k sc) ∧ Below w.heap.size w w' := by
  cases hn : nameB nm.data.toList with
  | false => exact create_name A n cp ls m nm k sc w hr hft hn
  | true =>
    cases hk : kindB k with
    | false => exact create_kind A n cp ls m nm k sc w hr hft hn hk
    | true =>
      cases hs : scB k sc with
      | false => exact create_sc A n cp ls m nm k sc w hr hft hn hk hs
      | true =>
        cases hd : findL ls nm with
        | none =>
          by_cases h8 : 8 ≤ ls.length
          · exact create_full A n cp ls m nm k sc w hr hft hd h8 hn hk hs
          · exact create_new A n cp ls m nm k sc w hr hft hd h8 hn hk hs
        | some o =>
          cases ha : o.al with
          | true => exact create_have A n cp ls m nm k sc w hr hft o hd ha hn hk hs
          | false =>
            by_cases he : o.ep = 1099511627776
            · exact create_last A n cp ls m nm k sc w hr hft o hd ha he hn hk hs
            · exact create_over A n cp ls m nm k sc w hr hft o hd ha he hn hk hs
theorem delE_none {ls : List Ch} {nm : ByteArray} (hf : findL ls nm = none) : delE ls nm = 44 := by simp [delE, hf]
theorem delE_dead {ls : List Ch} {nm : ByteArray} {o : Ch} (hf : findL ls nm = some o) (ha : o.al = false) : delE ls nm = 44 := by simp [delE, hf, ha]
theorem delE_last {ls : List Ch} {nm : ByteArray} {o : Ch} (hf : findL ls nm = some o) (ha : o.al = true) (he : o.ep = 1099511627776) : delE ls nm = 33 := by simp [delE, hf, ha, he]
theorem delE_ok {ls : List Ch} {nm : ByteArray} {o : Ch} (hf : findL ls nm = some o) (ha : o.al = true) (he : o.ep ≠ 1099511627776) : delE ls nm = 0 := by simp [delE, hf, ha, he]
theorem delL_no {ls : List Ch} {m : Int} {nm : ByteArray} {e : Int} (h : delE ls nm = e) (he : e ≠ 0) : delL ls m nm = ls := by
  unfold delL
  cases findL ls nm with
  | none => rfl
  | some o => simp only []; rw [h, if_neg he]
theorem delL_ok {ls : List Ch} {m : Int} {nm : ByteArray} {o : Ch} (hf : findL ls nm = some o) (h : delE ls nm = 0) : delL ls m nm = putF (delC o m) ls := by unfold delL; rw [hf]; simp only []; rw [h, if_pos rfl]
set_option maxRecDepth 100000 in
set_option maxHeartbeats 8000000 in
theorem delete_none (A : Option Addr) (n cp : Nat) (ls : List Ch) (m : Int) (nm : ByteArray) (w : World) (hr : ChsAt w w.heap.size A n ls) (hft : fitsB ls = true) (hd : findL ls nm = none) :
    Calls Try.prog 45 #[.slice A n cp, .int .i64 m, .string nm] w fun x w' => ∃ lv, x = .returned (.tuple #[lv, .int .i64 (delE ls nm)]) ∧ OwnC w' w.heap.size lv (delL ls m nm) ∧ Below w.heap.size w w' := by
  have hm : n * 56 ≤ 140737488351232 := by have := (fit_of_fits hft).1; have := hr.1; omega
  have HR := Lib.hid hr
  have HFT := Lib.hid hft
  clear hr hft
  have HD := Lib.hid hd
  clear hd
  have hF := find_any A n cp ls nm w HR.out hm
  rw [HD.out] at hF
  simp only [Option.getD_none, Option.isSome_none] at hF
  go_enter Try.func45, Try.ntmps45
  go_wp2_with (fail)
  refine (hF).mono ?_; rintro e w1 ⟨rfl, hb1⟩; obtain ⟨hc1, hf1⟩ := bcell hb1; have hz1 := hb1.size; (try simp at hz1)
  clear hF
  go_wp2_with (fail)
  refine (clone_any A n cp ls _ ((HR.out.below (by repeat (first | with_reducible refine Below.setCell ?_ (by first | (simp; done) | (simp; omega) | omega) _ | with_reducible refine Below.alloc ?_ (by first | (simp; done) | (simp; omega) | omega) _ | with_reducible refine Below.drew ?_ | with_reducible refine below_drewN ?_ _ | with_reducible exact Below.refl _ _ | with_reducible refine Below.trans ?_ (Below.mono hb1 (by first | (simp; done) | (simp; omega) | omega))))).more (by first | (simp; done) | (simp; omega) | omega)) hm).mono ?_; rintro x w9 ⟨lv, rfl, hown9, hb9⟩
  have hz9 := hb9.size; (try simp at hz9)
  go_wp2
  refine bodyPost_ret (v := .tuple #[lv, .int .i64 44]) (by simp [results, Try.results45, go_sem, *]) rfl ⟨lv, by rw [delE_none HD.out], ?_, (by repeat (first | with_reducible refine Below.setCell ?_ (by first | (simp; done) | (simp; omega) | omega) _ | with_reducible refine Below.alloc ?_ (by first | (simp; done) | (simp; omega) | omega) _ | with_reducible refine Below.drew ?_ | with_reducible refine below_drewN ?_ _ | with_reducible exact Below.refl _ _ | with_reducible refine Below.trans ?_ (Below.mono hb1 (by first | (simp; done) | (simp; omega) | omega)) | with_reducible refine Below.trans ?_ (Below.mono hb9 (by first | (simp; done) | (simp; omega) | omega))))⟩
  rw [delL_no (delE_none HD.out) (by decide)]
  exact hown9.less (by first | (simp; done) | (simp; omega) | omega)
set_option maxRecDepth 100000 in
set_option maxHeartbeats 8000000 in
theorem delete_dead (A : Option Addr) (n cp : Nat) (ls : List Ch) (m : Int) (nm : ByteArray) (w : World) (hr : ChsAt w w.heap.size A n ls) (hft : fitsB ls = true) (o : Ch) (hd : findL ls nm = some o) (ha : o.al = false) :
    Calls Try.prog 45 #[.slice A n cp, .int .i64 m, .string nm] w fun x w' => ∃ lv, x = .returned (.tuple #[lv, .int .i64 (delE ls nm)]) ∧ OwnC w' w.heap.size lv (delL ls m nm) ∧ Below w.heap.size w w' := by
  have hm : n * 56 ≤ 140737488351232 := by have := (fit_of_fits hft).1; have := hr.1; omega
  have HR := Lib.hid hr
  have HFT := Lib.hid hft
  clear hr hft
  have HD := Lib.hid hd
  clear hd
  obtain ⟨os, oe, om, oa, ok, oc⟩ := o
  simp only [] at ha
  subst ha
  have hF := find_any A n cp ls nm w HR.out hm
  rw [HD.out] at hF
  simp only [Option.getD_some, Option.isSome_some] at hF
  go_enter Try.func45, Try.ntmps45
  go_wp2_with (fail)
  refine (hF).mono ?_; rintro e w1 ⟨rfl, hb1⟩; obtain ⟨hc1, hf1⟩ := bcell hb1; have hz1 := hb1.size; (try simp at hz1)
  clear hF
  go_wp2_with (fail)
  refine (clone_any A n cp ls _ ((HR.out.below (by repeat (first | with_reducible refine Below.setCell ?_ (by first | (simp; done) | (simp; omega) | omega) _ | with_reducible refine Below.alloc ?_ (by first | (simp; done) | (simp; omega) | omega) _ | with_reducible refine Below.drew ?_ | with_reducible refine below_drewN ?_ _ | with_reducible exact Below.refl _ _ | with_reducible refine Below.trans ?_ (Below.mono hb1 (by first | (simp; done) | (simp; omega) | omega))))).more (by first | (simp; done) | (simp; omega) | omega)) hm).mono ?_; rintro x w9 ⟨lv, rfl, hown9, hb9⟩
  have hz9 := hb9.size; (try simp at hz9)
  go_wp2
  refine bodyPost_ret (v := .tuple #[lv, .int .i64 44]) (by simp [results, Try.results45, go_sem, *]) rfl ⟨lv, by rw [delE_dead HD.out rfl], ?_, (by repeat (first | with_reducible refine Below.setCell ?_ (by first | (simp; done) | (simp; omega) | omega) _ | with_reducible refine Below.alloc ?_ (by first | (simp; done) | (simp; omega) | omega) _ | with_reducible refine Below.drew ?_ | with_reducible refine below_drewN ?_ _ | with_reducible exact Below.refl _ _ | with_reducible refine Below.trans ?_ (Below.mono hb1 (by first | (simp; done) | (simp; omega) | omega)) | with_reducible refine Below.trans ?_ (Below.mono hb9 (by first | (simp; done) | (simp; omega) | omega))))⟩
  rw [delL_no (delE_dead HD.out rfl) (by decide)]
  exact hown9.less (by first | (simp; done) | (simp; omega) | omega)
set_option maxRecDepth 100000 in
set_option maxHeartbeats 8000000 in
theorem delete_last (A : Option Addr) (n cp : Nat) (ls : List Ch) (m : Int) (nm : ByteArray) (w : World) (hr : ChsAt w w.heap.size A n ls) (hft : fitsB ls = true) (o : Ch) (hd : findL ls nm = some o) (ha : o.al = true) (he : o.ep = 1099511627776) :
    Calls Try.prog 45 #[.slice A n cp, .int .i64 m, .string nm] w fun x w' => ∃ lv, x = .returned (.tuple #[lv, .int .i64 (delE ls nm)]) ∧ OwnC w' w.heap.size lv (delL ls m nm) ∧ Below w.heap.size w w' := by
  have hm : n * 56 ≤ 140737488351232 := by have := (fit_of_fits hft).1; have := hr.1; omega
  have HR := Lib.hid hr
  have HFT := Lib.hid hft
  clear hr hft
  have HD := Lib.hid hd
  clear hd
  obtain ⟨os, oe, om, oa, ok, oc⟩ := o
  simp only [] at ha
  subst ha
  simp only [] at he
  subst he
  have hF := find_any A n cp ls nm w HR.out hm
  rw [HD.out] at hF
  simp only [Option.getD_some, Option.isSome_some] at hF
  go_enter Try.func45, Try.ntmps45
  go_wp2_with (fail)
  refine (hF).mono ?_; rintro e w1 ⟨rfl, hb1⟩; obtain ⟨hc1, hf1⟩ := bcell hb1; have hz1 := hb1.size; (try simp at hz1)
  clear hF
  go_wp2_with (fail)
  refine (clone_any A n cp ls _ ((HR.out.below (by repeat (first | with_reducible refine Below.setCell ?_ (by first | (simp; done) | (simp; omega) | omega) _ | with_reducible refine Below.alloc ?_ (by first | (simp; done) | (simp; omega) | omega) _ | with_reducible refine Below.drew ?_ | with_reducible refine below_drewN ?_ _ | with_reducible exact Below.refl _ _ | with_reducible refine Below.trans ?_ (Below.mono hb1 (by first | (simp; done) | (simp; omega) | omega))))).more (by first | (simp; done) | (simp; omega) | omega)) hm).mono ?_; rintro x w9 ⟨lv, rfl, hown9, hb9⟩
  have hz9 := hb9.size; (try simp at hz9)
  go_wp2
  refine bodyPost_ret (v := .tuple #[lv, .int .i64 33]) (by simp [results, Try.results45, go_sem, *]) rfl ⟨lv, by rw [delE_last HD.out rfl rfl], ?_, (by repeat (first | with_reducible refine Below.setCell ?_ (by first | (simp; done) | (simp; omega) | omega) _ | with_reducible refine Below.alloc ?_ (by first | (simp; done) | (simp; omega) | omega) _ | with_reducible refine Below.drew ?_ | with_reducible refine below_drewN ?_ _ | with_reducible exact Below.refl _ _ | with_reducible refine Below.trans ?_ (Below.mono hb1 (by first | (simp; done) | (simp; omega) | omega)) | with_reducible refine Below.trans ?_ (Below.mono hb9 (by first | (simp; done) | (simp; omega) | omega))))⟩
  rw [delL_no (delE_last HD.out rfl rfl) (by decide)]
  exact hown9.less (by first | (simp; done) | (simp; omega) | omega)
set_option maxRecDepth 100000 in
set_option maxHeartbeats 8000000 in
theorem delete_ok (A : Option Addr) (n cp : Nat) (ls : List Ch) (m : Int) (nm : ByteArray) (w : World) (hr : ChsAt w w.heap.size A n ls) (hft : fitsB ls = true) (o : Ch) (hd : findL ls nm = some o) (ha : o.al = true) (he : o.ep ≠ 1099511627776) :
    Calls Try.prog 45 #[.slice A n cp, .int .i64 m, .string nm] w fun x w' => ∃ lv, x = .returned (.tuple #[lv, .int .i64 (delE ls nm)]) ∧ OwnC w' w.heap.size lv (delL ls m nm) ∧ Below w.heap.size w w' := by
  have hm : n * 56 ≤ 140737488351232 := by have := (fit_of_fits hft).1; have := hr.1; omega
  have HR := Lib.hid hr
  have HFT := Lib.hid hft
  clear hr hft
  have HD := Lib.hid hd
  clear hd
  obtain ⟨os, oe, om, oa, ok, oc⟩ := o
  simp only [] at ha
  subst ha
  simp only [] at he
  have hep := fits_ep HFT.out HD.out
  simp only [] at hep
  obtain ⟨hep0, hep1⟩ := hep
  have heb : (oe == 1099511627776) = false := by simpa using he
  have hF := find_any A n cp ls nm w HR.out hm
  rw [HD.out] at hF
  simp only [Option.getD_some, Option.isSome_some] at hF
  go_enter Try.func45, Try.ntmps45
  go_wp2_with (fail)
  refine (hF).mono ?_; rintro e w1 ⟨rfl, hb1⟩; obtain ⟨hc1, hf1⟩ := bcell hb1; have hz1 := hb1.size; (try simp at hz1)
  clear hF
  go_wp2_with (fail)
  refine (learn_any A n cp ls os (oe + 1) m false ok oc _ ((HR.out.below (by repeat (first | with_reducible refine Below.setCell ?_ (by first | (simp; done) | (simp; omega) | omega) _ | with_reducible refine Below.alloc ?_ (by first | (simp; done) | (simp; omega) | omega) _ | with_reducible refine Below.drew ?_ | with_reducible refine below_drewN ?_ _ | with_reducible exact Below.refl _ _ | with_reducible refine Below.trans ?_ (Below.mono hb1 (by first | (simp; done) | (simp; omega) | omega))))).more (by first | (simp; done) | (simp; omega) | omega)) hm).mono ?_; rintro x w9 ⟨lv, rfl, hown9, hb9⟩
  have hz9 := hb9.size; (try simp at hz9)
  go_wp2
  refine bodyPost_ret (v := .tuple #[lv, .int .i64 0]) (by simp [results, Try.results45, go_sem, *]) rfl ⟨lv, by rw [delE_ok HD.out rfl he], ?_, (by repeat (first | with_reducible refine Below.setCell ?_ (by first | (simp; done) | (simp; omega) | omega) _ | with_reducible refine Below.alloc ?_ (by first | (simp; done) | (simp; omega) | omega) _ | with_reducible refine Below.drew ?_ | with_reducible refine below_drewN ?_ _ | with_reducible exact Below.refl _ _ | with_reducible refine Below.trans ?_ (Below.mono hb1 (by first | (simp; done) | (simp; omega) | omega)) | with_reducible refine Below.trans ?_ (Below.mono hb9 (by first | (simp; done) | (simp; omega) | omega))))⟩
  rw [delL_ok HD.out (delE_ok HD.out rfl he)]
  have hown := hown9.less (base' := w.heap.size) (by first | (simp; done) | (simp; omega) | omega)
  have hfo : findL ls os = some ⟨os, oe, om, true, ok, oc⟩ := findL_mem (srt_of_fits HFT.out) (findL_some HD.out).1 (eqN_iff.2 rfl)
  rw [learn_over (c := ⟨os, oe + 1, m, false, ok, oc⟩) HFT.out hfo rfl] at hown
  exact hown
theorem delete_any (A : Option Addr) (n cp : Nat) (ls : List Ch) (m : Int) (nm : ByteArray) (w : World) (hr : ChsAt w w.heap.size A n ls) (hft : fitsB ls = true) :
    Calls Try.prog 45 #[.slice A n cp, .int .i64 m, .string nm] w fun x w' => ∃ lv, x = .returned (.tuple #[lv, .int .i64 (delE ls nm)]) ∧ OwnC w' w.heap.size lv (delL ls m nm) ∧ Below w.heap.size w w' := by
  cases hd : findL ls nm with
  | none => exact delete_none A n cp ls m nm w hr hft hd
  | some o =>
    cases ha : o.al with
    | false => exact delete_dead A n cp ls m nm w hr hft o hd ha
    | true =>
      by_cases he : o.ep = 1099511627776
      · exact delete_last A n cp ls m nm w hr hft o hd ha he
      · exact delete_ok A n cp ls m nm w hr hft o hd ha he
theorem chFit_parts {c : Ch} (h : chFit c.name c.ep c.who c.kd c.sc = true) : nameB c.name.data.toList = true ∧ 1 ≤ c.ep ∧ c.ep ≤ 1099511627776 ∧ 0 ≤ c.who ∧ c.who < 16 ∧ kindB c.kd = true ∧ scB c.kd c.sc = true := by
  unfold chFit at h
  simp only [Bool.and_eq_true, decide_eq_true_eq] at h
  exact ⟨h.1.1, h.1.2.1.1, h.1.2.1.2, h.1.2.2.1, h.1.2.2.2, h.2.1, h.2.2⟩
theorem chFit_of {c : Ch} (h1 : nameB c.name.data.toList = true) (h2 : 1 ≤ c.ep) (h3 : c.ep ≤ 1099511627776) (h4 : 0 ≤ c.who) (h5 : c.who < 16) (h6 : kindB c.kd = true) (h7 : scB c.kd c.sc = true) : chFit c.name c.ep c.who c.kd c.sc = true := by
  unfold chFit
  rw [h1, decide_eq_true h2, decide_eq_true h3, decide_eq_true h4, decide_eq_true h5, h6, h7]
  rfl
theorem put_fits {ls : List Ch} {c : Ch} (h : fitsB ls = true) (hc : chFit c.name c.ep c.who c.kd c.sc = true) (hl : findL ls c.name = none → ¬ 8 ≤ ls.length) : fitsB (putF c ls) = true := by
  have hs := srt_of_fits h
  obtain ⟨h8, hf⟩ := fit_of_fits h
  refine fits_of ?_ (putF_srt c hs) fun x hx => ?_
  · cases hd : findL ls c.name with
    | none => have := hl hd; have := putF_len_le c hs; omega
    | some o => have := putF_len_there c hs hd; omega
  · rcases (putF_mem c hs x).1 hx with rfl | ⟨hx, _⟩
    · exact hc
    · exact hf x hx
theorem creE_cases {ls : List Ch} {nm : ByteArray} {k sc : Int} (h : creE ls nm k sc = 0) : nameB nm.data.toList = true ∧ kindB k = true ∧ scB k sc = true ∧ (findL ls nm = none → ¬ 8 ≤ ls.length) ∧ ∀ o, findL ls nm = some o → o.al = false ∧ o.ep ≠ 1099511627776 := by
  cases hn : nameB nm.data.toList with
  | false => rw [creE_name hn] at h; cases h
  | true =>
    cases hk : kindB k with
    | false => rw [creE_kind hn hk] at h; cases h
    | true =>
      cases hs : scB k sc with
      | false => rw [creE_sc hn hk hs] at h; cases h
      | true =>
        refine ⟨rfl, rfl, rfl, fun hd h8 => ?_, fun o hd => ⟨?_, fun he => ?_⟩⟩
        · rw [creE_full hn hk hs hd h8] at h; cases h
        · cases ha : o.al with
          | false => rfl
          | true => rw [creE_have hn hk hs hd ha] at h; cases h
        · cases ha : o.al with
          | false => rw [creE_last hn hk hs hd ha he] at h; cases h
          | true => rw [creE_have hn hk hs hd ha] at h; cases h
theorem creC_fit {ls : List Ch} {m : Int} {nm : ByteArray} {k sc : Int} (hf : fitsB ls = true) (h : creE ls nm k sc = 0) (hm0 : 0 ≤ m) (hm1 : m < 16) : chFit (creC ls m nm k sc).name (creC ls m nm k sc).ep (creC ls m nm k sc).who (creC ls m nm k sc).kd (creC ls m nm k sc).sc = true := by
  obtain ⟨h1, h2, h3, h4, h5⟩ := creE_cases h
  refine chFit_of h1 ?_ ?_ hm0 hm1 h2 h3
  · show 1 ≤ ((findL ls nm).getD Ch0).ep + 1
    cases hd : findL ls nm with
    | none => decide
    | some o => have := fits_ep hf hd; simp only [Option.getD_some]; omega
  · show ((findL ls nm).getD Ch0).ep + 1 ≤ 1099511627776
    cases hd : findL ls nm with
    | none => decide
    | some o => have := fits_ep hf hd; have := (h5 o hd).2; simp only [Option.getD_some]; omega
theorem creL_fits {ls : List Ch} {m : Int} {nm : ByteArray} {k sc : Int} (hf : fitsB ls = true) (hm0 : 0 ≤ m) (hm1 : m < 16) : fitsB (creL ls m nm k sc) = true := by
  unfold creL
  by_cases h : creE ls nm k sc = 0
  · rw [if_pos h]
    exact put_fits hf (creC_fit hf h hm0 hm1) (creE_cases h).2.2.2.1
  · rw [if_neg h]
    exact hf
theorem delE_cases {ls : List Ch} {nm : ByteArray} (h : delE ls nm = 0) : ∃ o, findL ls nm = some o ∧ o.al = true ∧ o.ep ≠ 1099511627776 := by
  cases hd : findL ls nm with
  | none => rw [delE_none hd] at h; cases h
  | some o =>
    refine ⟨o, rfl, ?_, fun he => ?_⟩
    · cases ha : o.al with
      | true => rfl
      | false => rw [delE_dead hd ha] at h; cases h
    · cases ha : o.al with
      | true => rw [delE_last hd ha he] at h; cases h
      | false => rw [delE_dead hd ha] at h; cases h
theorem findL_fit {ls : List Ch} {nm : ByteArray} {o : Ch} (hf : fitsB ls = true) (h : findL ls nm = some o) : chFit o.name o.ep o.who o.kd o.sc = true := (fit_of_fits hf).2 o (findL_some h).1
theorem delC_fit {ls : List Ch} {nm : ByteArray} {m : Int} {o : Ch} (hf : fitsB ls = true) (hd : findL ls nm = some o) (he : o.ep ≠ 1099511627776) (hm0 : 0 ≤ m) (hm1 : m < 16) : chFit (delC o m).name (delC o m).ep (delC o m).who (delC o m).kd (delC o m).sc = true := by
  obtain ⟨h1, h2, h3, h4, h5, h6, h7⟩ := chFit_parts (findL_fit hf hd)
  exact chFit_of h1 (show 1 ≤ o.ep + 1 by omega) (show o.ep + 1 ≤ _ by omega) hm0 hm1 h6 h7
theorem delL_fits {ls : List Ch} {m : Int} {nm : ByteArray} (hf : fitsB ls = true) (hm0 : 0 ≤ m) (hm1 : m < 16) : fitsB (delL ls m nm) = true := by
  by_cases h : delE ls nm = 0
  · obtain ⟨o, hd, ha, he⟩ := delE_cases h
    rw [delL_ok hd h]
    refine put_fits hf (delC_fit hf hd he hm0 hm1) fun hn => ?_
    have : findL ls o.name = some o := findL_mem (srt_of_fits hf) (findL_some hd).1 (eqN_iff.2 rfl)
    rw [show (delC o m).name = o.name from rfl, this] at hn; cases hn
  · rw [delL_no rfl h]; exact hf
theorem fit_len {ls : List Ch} (h : fitsB ls = true) : ∀ c ∈ ls, c.name.size ≤ maxLen := fun c hc => by
  have h1 := (chFit_parts ((fit_of_fits h).2 c hc)).1
  unfold nameB at h1
  simp only [Bool.and_eq_true, decide_eq_true_eq] at h1
  have h2 : c.name.size = c.name.data.toList.length := rfl
  simp only [maxLen]
  omega
theorem OwnC.fit {w : World} {base : Nat} {v : Value} {rs : List Ch} (h : OwnC w base v rs) (hf : fitsB rs = true) : ∃ A c, v = .slice A rs.length c ∧ ChsAt w w.heap.size A rs.length rs := h.at_ (fit_len hf)
end Go.Proofs.Ytfihkkamedghkaa
