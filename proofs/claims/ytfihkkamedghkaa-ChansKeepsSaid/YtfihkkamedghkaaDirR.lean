/- Learn, Create and Delete of dir's reference: what each call computes, for every fit list. -/
import Derived.Test.YtfihkkamedghkaaDirW
namespace Go.Proofs.Ytfihkkamedghkaa
open Go.RowKit
set_option linter.unusedVariables false
theorem kind_in {k : Int} (h : kindB k = true) : ¬ k < 1 ∧ ¬ 4 < k := by rcases kind_cases k with ⟨h1, _⟩ | ⟨_, h1, h2⟩; rw [h] at h1; cases h1; exact ⟨h1, h2⟩
theorem kind_out {k : Int} (h : kindB k = false) : k < 1 ∨ (¬ k < 1 ∧ 4 < k) := by rcases kind_cases k with ⟨_, h1⟩ | ⟨h1, _⟩; exact h1; rw [h] at h1; cases h1
set_option maxRecDepth 100000 in
set_option maxHeartbeats 8000000 in
theorem rcreate_name (A : Option Addr) (n cp : Nat) (ls : List Ch) (m : Int) (nm : ByteArray) (k sc : Int) (w : World) (hnz : nm.size ≤ maxLen) (hr : ChsAt w w.heap.size A n ls) (hft : fitsB ls = true) (hn : nameB nm.data.toList = false) :
    Calls Try.prog 43 #[.slice A n cp, .int .i64 m, .string nm, .int .i64 k, .int .i64 sc] w fun x w' => ∃ lv, x = .returned (.tuple #[lv, .int .i64 (creE ls nm k sc)]) ∧ OwnC w' w.heap.size lv (creL ls m nm k sc) ∧ Below w.heap.size w w' := by
  have hm : n * 56 ≤ 140737488351232 := by have := (fit_of_fits hft).1; have := hr.1; omega
  have HR := Lib.hid hr
  have HFT := Lib.hid hft
  clear hr hft
  have hF := rfind_any A n cp ls nm w HR.out hm
  go_enter Try.func43, Try.ntmps43
  go_wp2_with (fail)
  refine (hF).mono ?_; rintro e w1 ⟨rfl, hb1⟩; obtain ⟨hc1, hf1⟩ := bcell hb1; have hz1 := hb1.size; (try simp at hz1)
  clear hF
  have hN : ∀ W, Calls Try.prog 53 #[.string nm] W fun x w' => x = .returned (.bool false) ∧ Below W.heap.size W w' := fun W => by rw [← hn]; exact rname_any nm hnz W
  go_wp2_with (fail)
  refine (hN _).mono ?_; rintro e w2 ⟨rfl, hb2⟩; obtain ⟨hc2, hf2⟩ := bcell hb2; have hz2 := hb2.size; (try simp at hz2); have hz2_0 : w1.heap.size < w2.heap.size := (by omega); have hz2_0_1 : w1.heap.size < w2.heap.size + 1 := (by omega); have hz2_0_2 : w1.heap.size < w2.heap.size + 1 + 1 := (by omega); have hz2_0_3 : w1.heap.size < w2.heap.size + 1 + 1 + 1 := (by omega)
  go_wp2_with (fail)
  refine (rcopied_any A n cp ls _ ((HR.out.below (by repeat (first | with_reducible refine Below.setCell ?_ (by first | (simp; done) | (simp; omega) | omega) _ | with_reducible refine Below.alloc ?_ (by first | (simp; done) | (simp; omega) | omega) _ | with_reducible refine Below.drew ?_ | with_reducible refine below_drewN ?_ _ | with_reducible exact Below.refl _ _ | with_reducible refine Below.trans ?_ (Below.mono hb1 (by first | (simp; done) | (simp; omega) | omega)) | with_reducible refine Below.trans ?_ (Below.mono hb2 (by first | (simp; done) | (simp; omega) | omega))))).more (by first | (simp; done) | (simp; omega) | omega)) hm).mono ?_; rintro x w9 ⟨lv, rfl, hown9, hb9⟩
  have hz9 := hb9.size; (try simp at hz9)
  go_wp2
  refine bodyPost_ret (v := .tuple #[lv, .int .i64 45]) (by simp [results, Try.results43, go_sem, *]) rfl ⟨lv, by rw [creE_name hn], ?_, (by repeat (first | with_reducible refine Below.setCell ?_ (by first | (simp; done) | (simp; omega) | omega) _ | with_reducible refine Below.alloc ?_ (by first | (simp; done) | (simp; omega) | omega) _ | with_reducible refine Below.drew ?_ | with_reducible refine below_drewN ?_ _ | with_reducible exact Below.refl _ _ | with_reducible refine Below.trans ?_ (Below.mono hb1 (by first | (simp; done) | (simp; omega) | omega)) | with_reducible refine Below.trans ?_ (Below.mono hb2 (by first | (simp; done) | (simp; omega) | omega)) | with_reducible refine Below.trans ?_ (Below.mono hb9 (by first | (simp; done) | (simp; omega) | omega))))⟩
  rw [creL_no (creE_name hn) (by decide)]
  exact hown9.less (by first | (simp; done) | (simp; omega) | omega)
set_option maxRecDepth 100000 in
set_option maxHeartbeats 8000000 in
theorem rcreate_kind1 (A : Option Addr) (n cp : Nat) (ls : List Ch) (m : Int) (nm : ByteArray) (k sc : Int) (w : World) (hnz : nm.size ≤ maxLen) (hr : ChsAt w w.heap.size A n ls) (hft : fitsB ls = true) (hn : nameB nm.data.toList = true) (hk : kindB k = false) (hk1 : k < 1) :
    Calls Try.prog 43 #[.slice A n cp, .int .i64 m, .string nm, .int .i64 k, .int .i64 sc] w fun x w' => ∃ lv, x = .returned (.tuple #[lv, .int .i64 (creE ls nm k sc)]) ∧ OwnC w' w.heap.size lv (creL ls m nm k sc) ∧ Below w.heap.size w w' := by
  have hm : n * 56 ≤ 140737488351232 := by have := (fit_of_fits hft).1; have := hr.1; omega
  have HR := Lib.hid hr
  have HFT := Lib.hid hft
  clear hr hft
  have hF := rfind_any A n cp ls nm w HR.out hm
  go_enter Try.func43, Try.ntmps43
  go_wp2_with (fail)
  refine (hF).mono ?_; rintro e w1 ⟨rfl, hb1⟩; obtain ⟨hc1, hf1⟩ := bcell hb1; have hz1 := hb1.size; (try simp at hz1)
  clear hF
  have hN : ∀ W, Calls Try.prog 53 #[.string nm] W fun x w' => x = .returned (.bool true) ∧ Below W.heap.size W w' := fun W => by rw [← hn]; exact rname_any nm hnz W
  go_wp2_with (fail)
  refine (hN _).mono ?_; rintro e w2 ⟨rfl, hb2⟩; obtain ⟨hc2, hf2⟩ := bcell hb2; have hz2 := hb2.size; (try simp at hz2); have hz2_0 : w1.heap.size < w2.heap.size := (by omega); have hz2_0_1 : w1.heap.size < w2.heap.size + 1 := (by omega); have hz2_0_2 : w1.heap.size < w2.heap.size + 1 + 1 := (by omega); have hz2_0_3 : w1.heap.size < w2.heap.size + 1 + 1 + 1 := (by omega)
  go_wp2_with (fail)
  refine (rcopied_any A n cp ls _ ((HR.out.below (by repeat (first | with_reducible refine Below.setCell ?_ (by first | (simp; done) | (simp; omega) | omega) _ | with_reducible refine Below.alloc ?_ (by first | (simp; done) | (simp; omega) | omega) _ | with_reducible refine Below.drew ?_ | with_reducible refine below_drewN ?_ _ | with_reducible exact Below.refl _ _ | with_reducible refine Below.trans ?_ (Below.mono hb1 (by first | (simp; done) | (simp; omega) | omega)) | with_reducible refine Below.trans ?_ (Below.mono hb2 (by first | (simp; done) | (simp; omega) | omega))))).more (by first | (simp; done) | (simp; omega) | omega)) hm).mono ?_; rintro x w9 ⟨lv, rfl, hown9, hb9⟩
  have hz9 := hb9.size; (try simp at hz9)
  go_wp2
  refine bodyPost_ret (v := .tuple #[lv, .int .i64 46]) (by simp [results, Try.results43, go_sem, *]) rfl ⟨lv, by rw [creE_kind hn hk], ?_, (by repeat (first | with_reducible refine Below.setCell ?_ (by first | (simp; done) | (simp; omega) | omega) _ | with_reducible refine Below.alloc ?_ (by first | (simp; done) | (simp; omega) | omega) _ | with_reducible refine Below.drew ?_ | with_reducible refine below_drewN ?_ _ | with_reducible exact Below.refl _ _ | with_reducible refine Below.trans ?_ (Below.mono hb1 (by first | (simp; done) | (simp; omega) | omega)) | with_reducible refine Below.trans ?_ (Below.mono hb2 (by first | (simp; done) | (simp; omega) | omega)) | with_reducible refine Below.trans ?_ (Below.mono hb9 (by first | (simp; done) | (simp; omega) | omega))))⟩
  rw [creL_no (creE_kind hn hk) (by decide)]
  exact hown9.less (by first | (simp; done) | (simp; omega) | omega)
set_option maxRecDepth 100000 in
set_option maxHeartbeats 8000000 in
theorem rcreate_kind2 (A : Option Addr) (n cp : Nat) (ls : List Ch) (m : Int) (nm : ByteArray) (k sc : Int) (w : World) (hnz : nm.size ≤ maxLen) (hr : ChsAt w w.heap.size A n ls) (hft : fitsB ls = true) (hn : nameB nm.data.toList = true) (hk : kindB k = false) (hk1 : ¬ k < 1) (hk2 : 4 < k) :
    Calls Try.prog 43 #[.slice A n cp, .int .i64 m, .string nm, .int .i64 k, .int .i64 sc] w fun x w' => ∃ lv, x = .returned (.tuple #[lv, .int .i64 (creE ls nm k sc)]) ∧ OwnC w' w.heap.size lv (creL ls m nm k sc) ∧ Below w.heap.size w w' := by
  have hm : n * 56 ≤ 140737488351232 := by have := (fit_of_fits hft).1; have := hr.1; omega
  have HR := Lib.hid hr
  have HFT := Lib.hid hft
  clear hr hft
  have hF := rfind_any A n cp ls nm w HR.out hm
  go_enter Try.func43, Try.ntmps43
  go_wp2_with (fail)
  refine (hF).mono ?_; rintro e w1 ⟨rfl, hb1⟩; obtain ⟨hc1, hf1⟩ := bcell hb1; have hz1 := hb1.size; (try simp at hz1)
  clear hF
  have hN : ∀ W, Calls Try.prog 53 #[.string nm] W fun x w' => x = .returned (.bool true) ∧ Below W.heap.size W w' := fun W => by rw [← hn]; exact rname_any nm hnz W
  go_wp2_with (fail)
  refine (hN _).mono ?_; rintro e w2 ⟨rfl, hb2⟩; obtain ⟨hc2, hf2⟩ := bcell hb2; have hz2 := hb2.size; (try simp at hz2); have hz2_0 : w1.heap.size < w2.heap.size := (by omega); have hz2_0_1 : w1.heap.size < w2.heap.size + 1 := (by omega); have hz2_0_2 : w1.heap.size < w2.heap.size + 1 + 1 := (by omega); have hz2_0_3 : w1.heap.size < w2.heap.size + 1 + 1 + 1 := (by omega)
  go_wp2_with (fail)
  refine (rcopied_any A n cp ls _ ((HR.out.below (by repeat (first | with_reducible refine Below.setCell ?_ (by first | (simp; done) | (simp; omega) | omega) _ | with_reducible refine Below.alloc ?_ (by first | (simp; done) | (simp; omega) | omega) _ | with_reducible refine Below.drew ?_ | with_reducible refine below_drewN ?_ _ | with_reducible exact Below.refl _ _ | with_reducible refine Below.trans ?_ (Below.mono hb1 (by first | (simp; done) | (simp; omega) | omega)) | with_reducible refine Below.trans ?_ (Below.mono hb2 (by first | (simp; done) | (simp; omega) | omega))))).more (by first | (simp; done) | (simp; omega) | omega)) hm).mono ?_; rintro x w9 ⟨lv, rfl, hown9, hb9⟩
  have hz9 := hb9.size; (try simp at hz9)
  go_wp2
  refine bodyPost_ret (v := .tuple #[lv, .int .i64 46]) (by simp [results, Try.results43, go_sem, *]) rfl ⟨lv, by rw [creE_kind hn hk], ?_, (by repeat (first | with_reducible refine Below.setCell ?_ (by first | (simp; done) | (simp; omega) | omega) _ | with_reducible refine Below.alloc ?_ (by first | (simp; done) | (simp; omega) | omega) _ | with_reducible refine Below.drew ?_ | with_reducible refine below_drewN ?_ _ | with_reducible exact Below.refl _ _ | with_reducible refine Below.trans ?_ (Below.mono hb1 (by first | (simp; done) | (simp; omega) | omega)) | with_reducible refine Below.trans ?_ (Below.mono hb2 (by first | (simp; done) | (simp; omega) | omega)) | with_reducible refine Below.trans ?_ (Below.mono hb9 (by first | (simp; done) | (simp; omega) | omega))))⟩
  rw [creL_no (creE_kind hn hk) (by decide)]
  exact hown9.less (by first | (simp; done) | (simp; omega) | omega)
set_option maxRecDepth 100000 in
set_option maxHeartbeats 8000000 in
theorem rcreate_sc (A : Option Addr) (n cp : Nat) (ls : List Ch) (m : Int) (nm : ByteArray) (k sc : Int) (w : World) (hnz : nm.size ≤ maxLen) (hr : ChsAt w w.heap.size A n ls) (hft : fitsB ls = true) (hn : nameB nm.data.toList = true) (hk : kindB k = true) (hs : scB k sc = false) :
    Calls Try.prog 43 #[.slice A n cp, .int .i64 m, .string nm, .int .i64 k, .int .i64 sc] w fun x w' => ∃ lv, x = .returned (.tuple #[lv, .int .i64 (creE ls nm k sc)]) ∧ OwnC w' w.heap.size lv (creL ls m nm k sc) ∧ Below w.heap.size w w' := by
  have hm : n * 56 ≤ 140737488351232 := by have := (fit_of_fits hft).1; have := hr.1; omega
  have HR := Lib.hid hr
  have HFT := Lib.hid hft
  clear hr hft
  have hF := rfind_any A n cp ls nm w HR.out hm
  obtain ⟨hk1, hk2⟩ := kind_in hk
  go_enter Try.func43, Try.ntmps43
  go_wp2_with (fail)
  refine (hF).mono ?_; rintro e w1 ⟨rfl, hb1⟩; obtain ⟨hc1, hf1⟩ := bcell hb1; have hz1 := hb1.size; (try simp at hz1)
  clear hF
  have hN : ∀ W, Calls Try.prog 53 #[.string nm] W fun x w' => x = .returned (.bool true) ∧ Below W.heap.size W w' := fun W => by rw [← hn]; exact rname_any nm hnz W
  go_wp2_with (fail)
  refine (hN _).mono ?_; rintro e w2 ⟨rfl, hb2⟩; obtain ⟨hc2, hf2⟩ := bcell hb2; have hz2 := hb2.size; (try simp at hz2); have hz2_0 : w1.heap.size < w2.heap.size := (by omega); have hz2_0_1 : w1.heap.size < w2.heap.size + 1 := (by omega); have hz2_0_2 : w1.heap.size < w2.heap.size + 1 + 1 := (by omega); have hz2_0_3 : w1.heap.size < w2.heap.size + 1 + 1 + 1 := (by omega)
  go_wp2_with (fail)
  have hS : ∀ W, Calls Try.prog 54 #[.int .i64 k, .int .i64 sc] W fun x w' => x = .returned (.bool false) ∧ Below W.heap.size W w' := fun W => by rw [← hs]; exact rscale_any k sc W
  refine (hS _).mono ?_; rintro e w4 ⟨rfl, hb4⟩; obtain ⟨hc4, hf4⟩ := bcell hb4; have hz4 := hb4.size; (try simp at hz4); have hz4_0 : w1.heap.size < w4.heap.size := (by omega); have hz4_0_1 : w1.heap.size < w4.heap.size + 1 := (by omega); have hz4_0_2 : w1.heap.size < w4.heap.size + 1 + 1 := (by omega); have hz4_0_3 : w1.heap.size < w4.heap.size + 1 + 1 + 1 := (by omega)
  go_wp2_with (fail)
  refine (rcopied_any A n cp ls _ ((HR.out.below (by repeat (first | with_reducible refine Below.setCell ?_ (by first | (simp; done) | (simp; omega) | omega) _ | with_reducible refine Below.alloc ?_ (by first | (simp; done) | (simp; omega) | omega) _ | with_reducible refine Below.drew ?_ | with_reducible refine below_drewN ?_ _ | with_reducible exact Below.refl _ _ | with_reducible refine Below.trans ?_ (Below.mono hb1 (by first | (simp; done) | (simp; omega) | omega)) | with_reducible refine Below.trans ?_ (Below.mono hb2 (by first | (simp; done) | (simp; omega) | omega)) | with_reducible refine Below.trans ?_ (Below.mono hb4 (by first | (simp; done) | (simp; omega) | omega))))).more (by first | (simp; done) | (simp; omega) | omega)) hm).mono ?_; rintro x w9 ⟨lv, rfl, hown9, hb9⟩
  have hz9 := hb9.size; (try simp at hz9)
  go_wp2
  refine bodyPost_ret (v := .tuple #[lv, .int .i64 47]) (by simp [results, Try.results43, go_sem, *]) rfl ⟨lv, by rw [creE_sc hn hk hs], ?_, (by repeat (first | with_reducible refine Below.setCell ?_ (by first | (simp; done) | (simp; omega) | omega) _ | with_reducible refine Below.alloc ?_ (by first | (simp; done) | (simp; omega) | omega) _ | with_reducible refine Below.drew ?_ | with_reducible refine below_drewN ?_ _ | with_reducible exact Below.refl _ _ | with_reducible refine Below.trans ?_ (Below.mono hb1 (by first | (simp; done) | (simp; omega) | omega)) | with_reducible refine Below.trans ?_ (Below.mono hb2 (by first | (simp; done) | (simp; omega) | omega)) | with_reducible refine Below.trans ?_ (Below.mono hb4 (by first | (simp; done) | (simp; omega) | omega)) | with_reducible refine Below.trans ?_ (Below.mono hb9 (by first | (simp; done) | (simp; omega) | omega))))⟩
  rw [creL_no (creE_sc hn hk hs) (by decide)]
  exact hown9.less (by first | (simp; done) | (simp; omega) | omega)
set_option maxRecDepth 100000 in
set_option maxHeartbeats 8000000 in
theorem rcreate_have (A : Option Addr) (n cp : Nat) (ls : List Ch) (m : Int) (nm : ByteArray) (k sc : Int) (w : World) (hnz : nm.size ≤ maxLen) (hr : ChsAt w w.heap.size A n ls) (hft : fitsB ls = true) (o : Ch) (hd : findL ls nm = some o) (ha : o.al = true) (hn : nameB nm.data.toList = true) (hk : kindB k = true) (hs : scB k sc = true) :
    Calls Try.prog 43 #[.slice A n cp, .int .i64 m, .string nm, .int .i64 k, .int .i64 sc] w fun x w' => ∃ lv, x = .returned (.tuple #[lv, .int .i64 (creE ls nm k sc)]) ∧ OwnC w' w.heap.size lv (creL ls m nm k sc) ∧ Below w.heap.size w w' := by
  have hm : n * 56 ≤ 140737488351232 := by have := (fit_of_fits hft).1; have := hr.1; omega
  have HR := Lib.hid hr
  have HFT := Lib.hid hft
  clear hr hft
  have HD := Lib.hid hd
  clear hd
  obtain ⟨os, oe, om, oa, ok, oc⟩ := o
  simp only [] at ha
  subst ha
  have hF := rfind_any A n cp ls nm w HR.out hm
  rw [HD.out] at hF
  simp only [Option.getD_some, Option.isSome_some] at hF
  obtain ⟨hk1, hk2⟩ := kind_in hk
  go_enter Try.func43, Try.ntmps43
  go_wp2_with (fail)
  refine (hF).mono ?_; rintro e w1 ⟨rfl, hb1⟩; obtain ⟨hc1, hf1⟩ := bcell hb1; have hz1 := hb1.size; (try simp at hz1)
  clear hF
  have hN : ∀ W, Calls Try.prog 53 #[.string nm] W fun x w' => x = .returned (.bool true) ∧ Below W.heap.size W w' := fun W => by rw [← hn]; exact rname_any nm hnz W
  go_wp2_with (fail)
  refine (hN _).mono ?_; rintro e w2 ⟨rfl, hb2⟩; obtain ⟨hc2, hf2⟩ := bcell hb2; have hz2 := hb2.size; (try simp at hz2); have hz2_0 : w1.heap.size < w2.heap.size := (by omega); have hz2_0_1 : w1.heap.size < w2.heap.size + 1 := (by omega); have hz2_0_2 : w1.heap.size < w2.heap.size + 1 + 1 := (by omega); have hz2_0_3 : w1.heap.size < w2.heap.size + 1 + 1 + 1 := (by omega)
  go_wp2_with (fail)
  have hS : ∀ W, Calls Try.prog 54 #[.int .i64 k, .int .i64 sc] W fun x w' => x = .returned (.bool true) ∧ Below W.heap.size W w' := fun W => by rw [← hs]; exact rscale_any k sc W
  refine (hS _).mono ?_; rintro e w4 ⟨rfl, hb4⟩; obtain ⟨hc4, hf4⟩ := bcell hb4; have hz4 := hb4.size; (try simp at hz4); have hz4_0 : w1.heap.size < w4.heap.size := (by omega); have hz4_0_1 : w1.heap.size < w4.heap.size + 1 := (by omega); have hz4_0_2 : w1.heap.size < w4.heap.size + 1 + 1 := (by omega); have hz4_0_3 : w1.heap.size < w4.heap.size + 1 + 1 + 1 := (by omega)
  go_wp2_with (fail)
  refine (rcopied_any A n cp ls _ ((HR.out.below (by repeat (first | with_reducible refine Below.setCell ?_ (by first | (simp; done) | (simp; omega) | omega) _ | with_reducible refine Below.alloc ?_ (by first | (simp; done) | (simp; omega) | omega) _ | with_reducible refine Below.drew ?_ | with_reducible refine below_drewN ?_ _ | with_reducible exact Below.refl _ _ | with_reducible refine Below.trans ?_ (Below.mono hb1 (by first | (simp; done) | (simp; omega) | omega)) | with_reducible refine Below.trans ?_ (Below.mono hb2 (by first | (simp; done) | (simp; omega) | omega)) | with_reducible refine Below.trans ?_ (Below.mono hb4 (by first | (simp; done) | (simp; omega) | omega))))).more (by first | (simp; done) | (simp; omega) | omega)) hm).mono ?_; rintro x w9 ⟨lv, rfl, hown9, hb9⟩
  have hz9 := hb9.size; (try simp at hz9)
  go_wp2
  refine bodyPost_ret (v := .tuple #[lv, .int .i64 42]) (by simp [results, Try.results43, go_sem, *]) rfl ⟨lv, by rw [creE_have hn hk hs HD.out rfl], ?_, (by repeat (first | with_reducible refine Below.setCell ?_ (by first | (simp; done) | (simp; omega) | omega) _ | with_reducible refine Below.alloc ?_ (by first | (simp; done) | (simp; omega) | omega) _ | with_reducible refine Below.drew ?_ | with_reducible refine below_drewN ?_ _ | with_reducible exact Below.refl _ _ | with_reducible refine Below.trans ?_ (Below.mono hb1 (by first | (simp; done) | (simp; omega) | omega)) | with_reducible refine Below.trans ?_ (Below.mono hb2 (by first | (simp; done) | (simp; omega) | omega)) | with_reducible refine Below.trans ?_ (Below.mono hb4 (by first | (simp; done) | (simp; omega) | omega)) | with_reducible refine Below.trans ?_ (Below.mono hb9 (by first | (simp; done) | (simp; omega) | omega))))⟩
  rw [creL_no (creE_have hn hk hs HD.out rfl) (by decide)]
  exact hown9.less (by first | (simp; done) | (simp; omega) | omega)
set_option maxRecDepth 100000 in
set_option maxHeartbeats 8000000 in
theorem rcreate_last (A : Option Addr) (n cp : Nat) (ls : List Ch) (m : Int) (nm : ByteArray) (k sc : Int) (w : World) (hnz : nm.size ≤ maxLen) (hr : ChsAt w w.heap.size A n ls) (hft : fitsB ls = true) (o : Ch) (hd : findL ls nm = some o) (ha : o.al = false) (he : o.ep = 1099511627776) (hn : nameB nm.data.toList = true) (hk : kindB k = true) (hs : scB k sc = true) :
    Calls Try.prog 43 #[.slice A n cp, .int .i64 m, .string nm, .int .i64 k, .int .i64 sc] w fun x w' => ∃ lv, x = .returned (.tuple #[lv, .int .i64 (creE ls nm k sc)]) ∧ OwnC w' w.heap.size lv (creL ls m nm k sc) ∧ Below w.heap.size w w' := by
  have hm : n * 56 ≤ 140737488351232 := by have := (fit_of_fits hft).1; have := hr.1; omega
  have HR := Lib.hid hr
  have HFT := Lib.hid hft
  clear hr hft
  have HD := Lib.hid hd
  clear hd
  obtain ⟨os, oe, om, oa, ok, oc⟩ := o
  simp only [] at ha
  subst ha
  simp only [] at he
  subst he
  have hF := rfind_any A n cp ls nm w HR.out hm
  rw [HD.out] at hF
  simp only [Option.getD_some, Option.isSome_some] at hF
  obtain ⟨hk1, hk2⟩ := kind_in hk
  go_enter Try.func43, Try.ntmps43
  go_wp2_with (fail)
  refine (hF).mono ?_; rintro e w1 ⟨rfl, hb1⟩; obtain ⟨hc1, hf1⟩ := bcell hb1; have hz1 := hb1.size; (try simp at hz1)
  clear hF
  have hN : ∀ W, Calls Try.prog 53 #[.string nm] W fun x w' => x = .returned (.bool true) ∧ Below W.heap.size W w' := fun W => by rw [← hn]; exact rname_any nm hnz W
  go_wp2_with (fail)
  refine (hN _).mono ?_; rintro e w2 ⟨rfl, hb2⟩; obtain ⟨hc2, hf2⟩ := bcell hb2; have hz2 := hb2.size; (try simp at hz2); have hz2_0 : w1.heap.size < w2.heap.size := (by omega); have hz2_0_1 : w1.heap.size < w2.heap.size + 1 := (by omega); have hz2_0_2 : w1.heap.size < w2.heap.size + 1 + 1 := (by omega); have hz2_0_3 : w1.heap.size < w2.heap.size + 1 + 1 + 1 := (by omega)
  go_wp2_with (fail)
  have hS : ∀ W, Calls Try.prog 54 #[.int .i64 k, .int .i64 sc] W fun x w' => x = .returned (.bool true) ∧ Below W.heap.size W w' := fun W => by rw [← hs]; exact rscale_any k sc W
  refine (hS _).mono ?_; rintro e w4 ⟨rfl, hb4⟩; obtain ⟨hc4, hf4⟩ := bcell hb4; have hz4 := hb4.size; (try simp at hz4); have hz4_0 : w1.heap.size < w4.heap.size := (by omega); have hz4_0_1 : w1.heap.size < w4.heap.size + 1 := (by omega); have hz4_0_2 : w1.heap.size < w4.heap.size + 1 + 1 := (by omega); have hz4_0_3 : w1.heap.size < w4.heap.size + 1 + 1 + 1 := (by omega)
  go_wp2_with (fail)
  refine (rcopied_any A n cp ls _ ((HR.out.below (by repeat (first | with_reducible refine Below.setCell ?_ (by first | (simp; done) | (simp; omega) | omega) _ | with_reducible refine Below.alloc ?_ (by first | (simp; done) | (simp; omega) | omega) _ | with_reducible refine Below.drew ?_ | with_reducible refine below_drewN ?_ _ | with_reducible exact Below.refl _ _ | with_reducible refine Below.trans ?_ (Below.mono hb1 (by first | (simp; done) | (simp; omega) | omega)) | with_reducible refine Below.trans ?_ (Below.mono hb2 (by first | (simp; done) | (simp; omega) | omega)) | with_reducible refine Below.trans ?_ (Below.mono hb4 (by first | (simp; done) | (simp; omega) | omega))))).more (by first | (simp; done) | (simp; omega) | omega)) hm).mono ?_; rintro x w9 ⟨lv, rfl, hown9, hb9⟩
  have hz9 := hb9.size; (try simp at hz9)
  go_wp2
  refine bodyPost_ret (v := .tuple #[lv, .int .i64 33]) (by simp [results, Try.results43, go_sem, *]) rfl ⟨lv, by rw [creE_last hn hk hs HD.out rfl rfl], ?_, (by repeat (first | with_reducible refine Below.setCell ?_ (by first | (simp; done) | (simp; omega) | omega) _ | with_reducible refine Below.alloc ?_ (by first | (simp; done) | (simp; omega) | omega) _ | with_reducible refine Below.drew ?_ | with_reducible refine below_drewN ?_ _ | with_reducible exact Below.refl _ _ | with_reducible refine Below.trans ?_ (Below.mono hb1 (by first | (simp; done) | (simp; omega) | omega)) | with_reducible refine Below.trans ?_ (Below.mono hb2 (by first | (simp; done) | (simp; omega) | omega)) | with_reducible refine Below.trans ?_ (Below.mono hb4 (by first | (simp; done) | (simp; omega) | omega)) | with_reducible refine Below.trans ?_ (Below.mono hb9 (by first | (simp; done) | (simp; omega) | omega))))⟩
  rw [creL_no (creE_last hn hk hs HD.out rfl rfl) (by decide)]
  exact hown9.less (by first | (simp; done) | (simp; omega) | omega)
set_option maxRecDepth 100000 in
set_option maxHeartbeats 8000000 in
theorem rcreate_over (A : Option Addr) (n cp : Nat) (ls : List Ch) (m : Int) (nm : ByteArray) (k sc : Int) (w : World) (hnz : nm.size ≤ maxLen) (hr : ChsAt w w.heap.size A n ls) (hft : fitsB ls = true) (o : Ch) (hd : findL ls nm = some o) (ha : o.al = false) (he : o.ep ≠ 1099511627776) (hn : nameB nm.data.toList = true) (hk : kindB k = true) (hs : scB k sc = true) :
    Calls Try.prog 43 #[.slice A n cp, .int .i64 m, .string nm, .int .i64 k, .int .i64 sc] w fun x w' => ∃ lv, x = .returned (.tuple #[lv, .int .i64 (creE ls nm k sc)]) ∧ OwnC w' w.heap.size lv (creL ls m nm k sc) ∧ Below w.heap.size w w' := by
  have hm : n * 56 ≤ 140737488351232 := by have := (fit_of_fits hft).1; have := hr.1; omega
  have HR := Lib.hid hr
  have HFT := Lib.hid hft
  clear hr hft
  have HD := Lib.hid hd
  clear hd
  obtain ⟨os, oe, om, oa, ok, oc⟩ := o
  simp only [] at ha
  subst ha
  simp only [] at he
  have hep := fits_ep HFT.out HD.out
  simp only [] at hep
  obtain ⟨hep0, hep1⟩ := hep
  have hge : ¬ 1099511627776 ≤ oe := by omega
  have hF := rfind_any A n cp ls nm w HR.out hm
  rw [HD.out] at hF
  simp only [Option.getD_some, Option.isSome_some] at hF
  obtain ⟨hk1, hk2⟩ := kind_in hk
  go_enter Try.func43, Try.ntmps43
  go_wp2_with (fail)
  refine (hF).mono ?_; rintro e w1 ⟨rfl, hb1⟩; obtain ⟨hc1, hf1⟩ := bcell hb1; have hz1 := hb1.size; (try simp at hz1)
  clear hF
  have hN : ∀ W, Calls Try.prog 53 #[.string nm] W fun x w' => x = .returned (.bool true) ∧ Below W.heap.size W w' := fun W => by rw [← hn]; exact rname_any nm hnz W
  go_wp2_with (fail)
  refine (hN _).mono ?_; rintro e w2 ⟨rfl, hb2⟩; obtain ⟨hc2, hf2⟩ := bcell hb2; have hz2 := hb2.size; (try simp at hz2); have hz2_0 : w1.heap.size < w2.heap.size := (by omega); have hz2_0_1 : w1.heap.size < w2.heap.size + 1 := (by omega); have hz2_0_2 : w1.heap.size < w2.heap.size + 1 + 1 := (by omega); have hz2_0_3 : w1.heap.size < w2.heap.size + 1 + 1 + 1 := (by omega)
  go_wp2_with (fail)
  have hS : ∀ W, Calls Try.prog 54 #[.int .i64 k, .int .i64 sc] W fun x w' => x = .returned (.bool true) ∧ Below W.heap.size W w' := fun W => by rw [← hs]; exact rscale_any k sc W
  refine (hS _).mono ?_; rintro e w4 ⟨rfl, hb4⟩; obtain ⟨hc4, hf4⟩ := bcell hb4; have hz4 := hb4.size; (try simp at hz4); have hz4_0 : w1.heap.size < w4.heap.size := (by omega); have hz4_0_1 : w1.heap.size < w4.heap.size + 1 := (by omega); have hz4_0_2 : w1.heap.size < w4.heap.size + 1 + 1 := (by omega); have hz4_0_3 : w1.heap.size < w4.heap.size + 1 + 1 + 1 := (by omega)
  go_wp2_with (fail)
  refine (rput_any A n cp ls nm (oe + 1) m true k sc _ ((HR.out.below (by repeat (first | with_reducible refine Below.setCell ?_ (by first | (simp; done) | (simp; omega) | omega) _ | with_reducible refine Below.alloc ?_ (by first | (simp; done) | (simp; omega) | omega) _ | with_reducible refine Below.drew ?_ | with_reducible refine below_drewN ?_ _ | with_reducible exact Below.refl _ _ | with_reducible refine Below.trans ?_ (Below.mono hb1 (by first | (simp; done) | (simp; omega) | omega)) | with_reducible refine Below.trans ?_ (Below.mono hb2 (by first | (simp; done) | (simp; omega) | omega)) | with_reducible refine Below.trans ?_ (Below.mono hb4 (by first | (simp; done) | (simp; omega) | omega))))).more (by first | (simp; done) | (simp; omega) | omega)) hm).mono ?_; rintro x w9 ⟨lv, rfl, hown9, hb9⟩
  have hz9 := hb9.size; (try simp at hz9)
  go_wp2
  refine bodyPost_ret (v := .tuple #[lv, .int .i64 0]) (by simp [results, Try.results43, go_sem, *]) rfl ⟨lv, by rw [creE_ok hn hk hs HD.out rfl he], ?_, (by repeat (first | with_reducible refine Below.setCell ?_ (by first | (simp; done) | (simp; omega) | omega) _ | with_reducible refine Below.alloc ?_ (by first | (simp; done) | (simp; omega) | omega) _ | with_reducible refine Below.drew ?_ | with_reducible refine below_drewN ?_ _ | with_reducible exact Below.refl _ _ | with_reducible refine Below.trans ?_ (Below.mono hb1 (by first | (simp; done) | (simp; omega) | omega)) | with_reducible refine Below.trans ?_ (Below.mono hb2 (by first | (simp; done) | (simp; omega) | omega)) | with_reducible refine Below.trans ?_ (Below.mono hb4 (by first | (simp; done) | (simp; omega) | omega)) | with_reducible refine Below.trans ?_ (Below.mono hb9 (by first | (simp; done) | (simp; omega) | omega))))⟩
  rw [creL_ok (creE_ok hn hk hs HD.out rfl he)]
  have hown := hown9.less (base' := w.heap.size) (by first | (simp; done) | (simp; omega) | omega)
  have e : creC ls m nm k sc = ⟨nm, oe + 1, m, true, k, sc⟩ := by unfold creC; rw [HD.out]; rfl
  rw [e]
  exact hown
set_option maxRecDepth 100000 in
set_option maxHeartbeats 8000000 in
theorem rcreate_full (A : Option Addr) (n cp : Nat) (ls : List Ch) (m : Int) (nm : ByteArray) (k sc : Int) (w : World) (hnz : nm.size ≤ maxLen) (hr : ChsAt w w.heap.size A n ls) (hft : fitsB ls = true) (hd : findL ls nm = none) (h8 : 8 ≤ ls.length) (hn : nameB nm.data.toList = true) (hk : kindB k = true) (hs : scB k sc = true) :
    Calls Try.prog 43 #[.slice A n cp, .int .i64 m, .string nm, .int .i64 k, .int .i64 sc] w fun x w' => ∃ lv, x = .returned (.tuple #[lv, .int .i64 (creE ls nm k sc)]) ∧ OwnC w' w.heap.size lv (creL ls m nm k sc) ∧ Below w.heap.size w w' := by
  have hm : n * 56 ≤ 140737488351232 := by have := (fit_of_fits hft).1; have := hr.1; omega
  have HR := Lib.hid hr
  have HFT := Lib.hid hft
  clear hr hft
  have HD := Lib.hid hd
  clear hd
  have hF := rfind_any A n cp ls nm w HR.out hm
  rw [HD.out] at hF
  simp only [Option.getD_none, Option.isSome_none] at hF
  obtain ⟨hk1, hk2⟩ := kind_in hk
  have h8n : 8 ≤ n := by have := HR.out.1; omega
  go_enter Try.func43, Try.ntmps43
  go_wp2_with (fail)
  refine (hF).mono ?_; rintro e w1 ⟨rfl, hb1⟩; obtain ⟨hc1, hf1⟩ := bcell hb1; have hz1 := hb1.size; (try simp at hz1)
  clear hF
  have hN : ∀ W, Calls Try.prog 53 #[.string nm] W fun x w' => x = .returned (.bool true) ∧ Below W.heap.size W w' := fun W => by rw [← hn]; exact rname_any nm hnz W
  go_wp2_with (fail)
  refine (hN _).mono ?_; rintro e w2 ⟨rfl, hb2⟩; obtain ⟨hc2, hf2⟩ := bcell hb2; have hz2 := hb2.size; (try simp at hz2); have hz2_0 : w1.heap.size < w2.heap.size := (by omega); have hz2_0_1 : w1.heap.size < w2.heap.size + 1 := (by omega); have hz2_0_2 : w1.heap.size < w2.heap.size + 1 + 1 := (by omega); have hz2_0_3 : w1.heap.size < w2.heap.size + 1 + 1 + 1 := (by omega)
  go_wp2_with (fail)
  have hS : ∀ W, Calls Try.prog 54 #[.int .i64 k, .int .i64 sc] W fun x w' => x = .returned (.bool true) ∧ Below W.heap.size W w' := fun W => by rw [← hs]; exact rscale_any k sc W
  refine (hS _).mono ?_; rintro e w4 ⟨rfl, hb4⟩; obtain ⟨hc4, hf4⟩ := bcell hb4; have hz4 := hb4.size; (try simp at hz4); have hz4_0 : w1.heap.size < w4.heap.size := (by omega); have hz4_0_1 : w1.heap.size < w4.heap.size + 1 := (by omega); have hz4_0_2 : w1.heap.size < w4.heap.size + 1 + 1 := (by omega); have hz4_0_3 : w1.heap.size < w4.heap.size + 1 + 1 + 1 := (by omega)
  go_wp2_with (fail)
  refine (rcopied_any A n cp ls _ ((HR.out.below (by repeat (first | with_reducible refine Below.setCell ?_ (by first | (simp; done) | (simp; omega) | omega) _ | with_reducible refine Below.alloc ?_ (by first | (simp; done) | (simp; omega) | omega) _ | with_reducible refine Below.drew ?_ | with_reducible refine below_drewN ?_ _ | with_reducible exact Below.refl _ _ | with_reducible refine Below.trans ?_ (Below.mono hb1 (by first | (simp; done) | (simp; omega) | omega)) | with_reducible refine Below.trans ?_ (Below.mono hb2 (by first | (simp; done) | (simp; omega) | omega)) | with_reducible refine Below.trans ?_ (Below.mono hb4 (by first | (simp; done) | (simp; omega) | omega))))).more (by first | (simp; done) | (simp; omega) | omega)) hm).mono ?_; rintro x w9 ⟨lv, rfl, hown9, hb9⟩
  have hz9 := hb9.size; (try simp at hz9)
  go_wp2
  refine bodyPost_ret (v := .tuple #[lv, .int .i64 48]) (by simp [results, Try.results43, go_sem, *]) rfl ⟨lv, by rw [creE_full hn hk hs HD.out h8], ?_, (by repeat (first | with_reducible refine Below.setCell ?_ (by first | (simp; done) | (simp; omega) | omega) _ | with_reducible refine Below.alloc ?_ (by first | (simp; done) | (simp; omega) | omega) _ | with_reducible refine Below.drew ?_ | with_reducible refine below_drewN ?_ _ | with_reducible exact Below.refl _ _ | with_reducible refine Below.trans ?_ (Below.mono hb1 (by first | (simp; done) | (simp; omega) | omega)) | with_reducible refine Below.trans ?_ (Below.mono hb2 (by first | (simp; done) | (simp; omega) | omega)) | with_reducible refine Below.trans ?_ (Below.mono hb4 (by first | (simp; done) | (simp; omega) | omega)) | with_reducible refine Below.trans ?_ (Below.mono hb9 (by first | (simp; done) | (simp; omega) | omega))))⟩
  rw [creL_no (creE_full hn hk hs HD.out h8) (by decide)]
  exact hown9.less (by first | (simp; done) | (simp; omega) | omega)
set_option maxRecDepth 100000 in
set_option maxHeartbeats 8000000 in
theorem rcreate_new (A : Option Addr) (n cp : Nat) (ls : List Ch) (m : Int) (nm : ByteArray) (k sc : Int) (w : World) (hnz : nm.size ≤ maxLen) (hr : ChsAt w w.heap.size A n ls) (hft : fitsB ls = true) (hd : findL ls nm = none) (h8 : ¬ 8 ≤ ls.length) (hn : nameB nm.data.toList = true) (hk : kindB k = true) (hs : scB k sc = true) :
    Calls Try.prog 43 #[.slice A n cp, .int .i64 m, .string nm, .int .i64 k, .int .i64 sc] w fun x w' => ∃ lv, x = .returned (.tuple #[lv, .int .i64 (creE ls nm k sc)]) ∧ OwnC w' w.heap.size lv (creL ls m nm k sc) ∧ Below w.heap.size w w' := by
  have hm : n * 56 ≤ 140737488351232 := by have := (fit_of_fits hft).1; have := hr.1; omega
  have HR := Lib.hid hr
  have HFT := Lib.hid hft
  clear hr hft
  have HD := Lib.hid hd
  clear hd
  have hF := rfind_any A n cp ls nm w HR.out hm
  rw [HD.out] at hF
  simp only [Option.getD_none, Option.isSome_none] at hF
  obtain ⟨hk1, hk2⟩ := kind_in hk
  have h8n : n < 8 := by have := HR.out.1; omega
  go_enter Try.func43, Try.ntmps43
  go_wp2_with (fail)
  refine (hF).mono ?_; rintro e w1 ⟨rfl, hb1⟩; obtain ⟨hc1, hf1⟩ := bcell hb1; have hz1 := hb1.size; (try simp at hz1)
  clear hF
  have hN : ∀ W, Calls Try.prog 53 #[.string nm] W fun x w' => x = .returned (.bool true) ∧ Below W.heap.size W w' := fun W => by rw [← hn]; exact rname_any nm hnz W
  go_wp2_with (fail)
  refine (hN _).mono ?_; rintro e w2 ⟨rfl, hb2⟩; obtain ⟨hc2, hf2⟩ := bcell hb2; have hz2 := hb2.size; (try simp at hz2); have hz2_0 : w1.heap.size < w2.heap.size := (by omega); have hz2_0_1 : w1.heap.size < w2.heap.size + 1 := (by omega); have hz2_0_2 : w1.heap.size < w2.heap.size + 1 + 1 := (by omega); have hz2_0_3 : w1.heap.size < w2.heap.size + 1 + 1 + 1 := (by omega)
  go_wp2_with (fail)
  have hS : ∀ W, Calls Try.prog 54 #[.int .i64 k, .int .i64 sc] W fun x w' => x = .returned (.bool true) ∧ Below W.heap.size W w' := fun W => by rw [← hs]; exact rscale_any k sc W
  refine (hS _).mono ?_; rintro e w4 ⟨rfl, hb4⟩; obtain ⟨hc4, hf4⟩ := bcell hb4; have hz4 := hb4.size; (try simp at hz4); have hz4_0 : w1.heap.size < w4.heap.size := (by omega); have hz4_0_1 : w1.heap.size < w4.heap.size + 1 := (by omega); have hz4_0_2 : w1.heap.size < w4.heap.size + 1 + 1 := (by omega); have hz4_0_3 : w1.heap.size < w4.heap.size + 1 + 1 + 1 := (by omega)
  go_wp2_with (fail)
  refine (rput_any A n cp ls nm 1 m true k sc _ ((HR.out.below (by repeat (first | with_reducible refine Below.setCell ?_ (by first | (simp; done) | (simp; omega) | omega) _ | with_reducible refine Below.alloc ?_ (by first | (simp; done) | (simp; omega) | omega) _ | with_reducible refine Below.drew ?_ | with_reducible refine below_drewN ?_ _ | with_reducible exact Below.refl _ _ | with_reducible refine Below.trans ?_ (Below.mono hb1 (by first | (simp; done) | (simp; omega) | omega)) | with_reducible refine Below.trans ?_ (Below.mono hb2 (by first | (simp; done) | (simp; omega) | omega)) | with_reducible refine Below.trans ?_ (Below.mono hb4 (by first | (simp; done) | (simp; omega) | omega))))).more (by first | (simp; done) | (simp; omega) | omega)) hm).mono ?_; rintro x w9 ⟨lv, rfl, hown9, hb9⟩
  have hz9 := hb9.size; (try simp at hz9)
  go_wp2
  refine bodyPost_ret (v := .tuple #[lv, .int .i64 0]) (by simp [results, Try.results43, go_sem, *]) rfl ⟨lv, by rw [creE_new hn hk hs HD.out h8], ?_, (by repeat (first | with_reducible refine Below.setCell ?_ (by first | (simp; done) | (simp; omega) | omega) _ | with_reducible refine Below.alloc ?_ (by first | (simp; done) | (simp; omega) | omega) _ | with_reducible refine Below.drew ?_ | with_reducible refine below_drewN ?_ _ | with_reducible exact Below.refl _ _ | with_reducible refine Below.trans ?_ (Below.mono hb1 (by first | (simp; done) | (simp; omega) | omega)) | with_reducible refine Below.trans ?_ (Below.mono hb2 (by first | (simp; done) | (simp; omega) | omega)) | with_reducible refine Below.trans ?_ (Below.mono hb4 (by first | (simp; done) | (simp; omega) | omega)) | with_reducible refine Below.trans ?_ (Below.mono hb9 (by first | (simp; done) | (simp; omega) | omega))))⟩
  rw [creL_ok (creE_new hn hk hs HD.out h8)]
  have hown := hown9.less (base' := w.heap.size) (by first | (simp; done) | (simp; omega) | omega)
  have e : creC ls m nm k sc = ⟨nm, 1, m, true, k, sc⟩ := by unfold creC; rw [HD.out]; rfl
  rw [e]
  exact hown
theorem rcreate_any (A : Option Addr) (n cp : Nat) (ls : List Ch) (m : Int) (nm : ByteArray) (k sc : Int) (w : World) (hnz : nm.size ≤ maxLen) (hr : ChsAt w w.heap.size A n ls) (hft : fitsB ls = true) :
    Calls Try.prog 43 #[.slice A n cp, .int .i64 m, .string nm, .int .i64 k, .int .i64 sc] w fun x w' => ∃ lv, x = .returned (.tuple #[lv, .int .i64 (creE ls nm k sc)]) ∧ OwnC w' w.heap.size lv (creL ls m nm k sc) ∧ Below w.heap.size w w' := by
  cases hn : nameB nm.data.toList with
  | false => exact rcreate_name A n cp ls m nm k sc w hnz hr hft hn
  | true =>
    cases hk : kindB k with
    | false =>
      rcases kind_out hk with h1 | ⟨h1, h2⟩
      · exact rcreate_kind1 A n cp ls m nm k sc w hnz hr hft hn hk h1
      · exact rcreate_kind2 A n cp ls m nm k sc w hnz hr hft hn hk h1 h2
    | true =>
      cases hs : scB k sc with
      | false => exact rcreate_sc A n cp ls m nm k sc w hnz hr hft hn hk hs
      | true =>
        cases hd : findL ls nm with
        | none =>
          by_cases h8 : 8 ≤ ls.length
          · exact rcreate_full A n cp ls m nm k sc w hnz hr hft hd h8 hn hk hs
          · exact rcreate_new A n cp ls m nm k sc w hnz hr hft hd h8 hn hk hs
        | some o =>
          cases ha : o.al with
          | true => exact rcreate_have A n cp ls m nm k sc w hnz hr hft o hd ha hn hk hs
          | false =>
            by_cases he : o.ep = 1099511627776
            · exact rcreate_last A n cp ls m nm k sc w hnz hr hft o hd ha he hn hk hs
            · exact rcreate_over A n cp ls m nm k sc w hnz hr hft o hd ha he hn hk hs
set_option maxRecDepth 100000 in
set_option maxHeartbeats 8000000 in
theorem rdelete_none (A : Option Addr) (n cp : Nat) (ls : List Ch) (m : Int) (nm : ByteArray) (w : World) (hnz : nm.size ≤ maxLen) (hr : ChsAt w w.heap.size A n ls) (hft : fitsB ls = true) (hd : findL ls nm = none) :
    Calls Try.prog 46 #[.slice A n cp, .int .i64 m, .string nm] w fun x w' => ∃ lv, x = .returned (.tuple #[lv, .int .i64 (delE ls nm)]) ∧ OwnC w' w.heap.size lv (delL ls m nm) ∧ Below w.heap.size w w' := by
  have hm : n * 56 ≤ 140737488351232 := by have := (fit_of_fits hft).1; have := hr.1; omega
  have HR := Lib.hid hr
  have HFT := Lib.hid hft
  clear hr hft
  have HD := Lib.hid hd
  clear hd
  have hF := rfind_any A n cp ls nm w HR.out hm
  rw [HD.out] at hF
  simp only [Option.getD_none, Option.isSome_none] at hF
  go_enter Try.func46, Try.ntmps46
  go_wp2_with (fail)
  refine (hF).mono ?_; rintro e w1 ⟨rfl, hb1⟩; obtain ⟨hc1, hf1⟩ := bcell hb1; have hz1 := hb1.size; (try simp at hz1)
  clear hF
  go_wp2_with (fail)
  refine (rcopied_any A n cp ls _ ((HR.out.below (by repeat (first | with_reducible refine Below.setCell ?_ (by first | (simp; done) | (simp; omega) | omega) _ | with_reducible refine Below.alloc ?_ (by first | (simp; done) | (simp; omega) | omega) _ | with_reducible refine Below.drew ?_ | with_reducible refine below_drewN ?_ _ | with_reducible exact Below.refl _ _ | with_reducible refine Below.trans ?_ (Below.mono hb1 (by first | (simp; done) | (simp; omega) | omega))))).more (by first | (simp; done) | (simp; omega) | omega)) hm).mono ?_; rintro x w9 ⟨lv, rfl, hown9, hb9⟩
  have hz9 := hb9.size; (try simp at hz9)
  go_wp2
  refine bodyPost_ret (v := .tuple #[lv, .int .i64 44]) (by simp [results, Try.results46, go_sem, *]) rfl ⟨lv, by rw [delE_none HD.out], ?_, (by repeat (first | with_reducible refine Below.setCell ?_ (by first | (simp; done) | (simp; omega) | omega) _ | with_reducible refine Below.alloc ?_ (by first | (simp; done) | (simp; omega) | omega) _ | with_reducible refine Below.drew ?_ | with_reducible refine below_drewN ?_ _ | with_reducible exact Below.refl _ _ | with_reducible refine Below.trans ?_ (Below.mono hb1 (by first | (simp; done) | (simp; omega) | omega)) | with_reducible refine Below.trans ?_ (Below.mono hb9 (by first | (simp; done) | (simp; omega) | omega))))⟩
  rw [delL_no (delE_none HD.out) (by decide)]
  exact hown9.less (by first | (simp; done) | (simp; omega) | omega)
set_option maxRecDepth 100000 in
set_option maxHeartbeats 8000000 in
theorem rdelete_dead (A : Option Addr) (n cp : Nat) (ls : List Ch) (m : Int) (nm : ByteArray) (w : World) (hnz : nm.size ≤ maxLen) (hr : ChsAt w w.heap.size A n ls) (hft : fitsB ls = true) (o : Ch) (hd : findL ls nm = some o) (ha : o.al = false) :
    Calls Try.prog 46 #[.slice A n cp, .int .i64 m, .string nm] w fun x w' => ∃ lv, x = .returned (.tuple #[lv, .int .i64 (delE ls nm)]) ∧ OwnC w' w.heap.size lv (delL ls m nm) ∧ Below w.heap.size w w' := by
  have hm : n * 56 ≤ 140737488351232 := by have := (fit_of_fits hft).1; have := hr.1; omega
  have HR := Lib.hid hr
  have HFT := Lib.hid hft
  clear hr hft
  have HD := Lib.hid hd
  clear hd
  obtain ⟨os, oe, om, oa, ok, oc⟩ := o
  simp only [] at ha
  subst ha
  have hF := rfind_any A n cp ls nm w HR.out hm
  rw [HD.out] at hF
  simp only [Option.getD_some, Option.isSome_some] at hF
  go_enter Try.func46, Try.ntmps46
  go_wp2_with (fail)
  refine (hF).mono ?_; rintro e w1 ⟨rfl, hb1⟩; obtain ⟨hc1, hf1⟩ := bcell hb1; have hz1 := hb1.size; (try simp at hz1)
  clear hF
  go_wp2_with (fail)
  refine (rcopied_any A n cp ls _ ((HR.out.below (by repeat (first | with_reducible refine Below.setCell ?_ (by first | (simp; done) | (simp; omega) | omega) _ | with_reducible refine Below.alloc ?_ (by first | (simp; done) | (simp; omega) | omega) _ | with_reducible refine Below.drew ?_ | with_reducible refine below_drewN ?_ _ | with_reducible exact Below.refl _ _ | with_reducible refine Below.trans ?_ (Below.mono hb1 (by first | (simp; done) | (simp; omega) | omega))))).more (by first | (simp; done) | (simp; omega) | omega)) hm).mono ?_; rintro x w9 ⟨lv, rfl, hown9, hb9⟩
  have hz9 := hb9.size; (try simp at hz9)
  go_wp2
  refine bodyPost_ret (v := .tuple #[lv, .int .i64 44]) (by simp [results, Try.results46, go_sem, *]) rfl ⟨lv, by rw [delE_dead HD.out rfl], ?_, (by repeat (first | with_reducible refine Below.setCell ?_ (by first | (simp; done) | (simp; omega) | omega) _ | with_reducible refine Below.alloc ?_ (by first | (simp; done) | (simp; omega) | omega) _ | with_reducible refine Below.drew ?_ | with_reducible refine below_drewN ?_ _ | with_reducible exact Below.refl _ _ | with_reducible refine Below.trans ?_ (Below.mono hb1 (by first | (simp; done) | (simp; omega) | omega)) | with_reducible refine Below.trans ?_ (Below.mono hb9 (by first | (simp; done) | (simp; omega) | omega))))⟩
  rw [delL_no (delE_dead HD.out rfl) (by decide)]
  exact hown9.less (by first | (simp; done) | (simp; omega) | omega)
set_option maxRecDepth 100000 in
set_option maxHeartbeats 8000000 in
theorem rdelete_last (A : Option Addr) (n cp : Nat) (ls : List Ch) (m : Int) (nm : ByteArray) (w : World) (hnz : nm.size ≤ maxLen) (hr : ChsAt w w.heap.size A n ls) (hft : fitsB ls = true) (o : Ch) (hd : findL ls nm = some o) (ha : o.al = true) (he : o.ep = 1099511627776) :
    Calls Try.prog 46 #[.slice A n cp, .int .i64 m, .string nm] w fun x w' => ∃ lv, x = .returned (.tuple #[lv, .int .i64 (delE ls nm)]) ∧ OwnC w' w.heap.size lv (delL ls m nm) ∧ Below w.heap.size w w' := by
  have hm : n * 56 ≤ 140737488351232 := by have := (fit_of_fits hft).1; have := hr.1; omega
  have HR := Lib.hid hr
  have HFT := Lib.hid hft
  clear hr hft
  have HD := Lib.hid hd
  clear hd
  obtain ⟨os, oe, om, oa, ok, oc⟩ := o
  simp only [] at ha
  subst ha
  simp only [] at he
  subst he
  have hF := rfind_any A n cp ls nm w HR.out hm
  rw [HD.out] at hF
  simp only [Option.getD_some, Option.isSome_some] at hF
  go_enter Try.func46, Try.ntmps46
  go_wp2_with (fail)
  refine (hF).mono ?_; rintro e w1 ⟨rfl, hb1⟩; obtain ⟨hc1, hf1⟩ := bcell hb1; have hz1 := hb1.size; (try simp at hz1)
  clear hF
  go_wp2_with (fail)
  refine (rcopied_any A n cp ls _ ((HR.out.below (by repeat (first | with_reducible refine Below.setCell ?_ (by first | (simp; done) | (simp; omega) | omega) _ | with_reducible refine Below.alloc ?_ (by first | (simp; done) | (simp; omega) | omega) _ | with_reducible refine Below.drew ?_ | with_reducible refine below_drewN ?_ _ | with_reducible exact Below.refl _ _ | with_reducible refine Below.trans ?_ (Below.mono hb1 (by first | (simp; done) | (simp; omega) | omega))))).more (by first | (simp; done) | (simp; omega) | omega)) hm).mono ?_; rintro x w9 ⟨lv, rfl, hown9, hb9⟩
  have hz9 := hb9.size; (try simp at hz9)
  go_wp2
  refine bodyPost_ret (v := .tuple #[lv, .int .i64 33]) (by simp [results, Try.results46, go_sem, *]) rfl ⟨lv, by rw [delE_last HD.out rfl rfl], ?_, (by repeat (first | with_reducible refine Below.setCell ?_ (by first | (simp; done) | (simp; omega) | omega) _ | with_reducible refine Below.alloc ?_ (by first | (simp; done) | (simp; omega) | omega) _ | with_reducible refine Below.drew ?_ | with_reducible refine below_drewN ?_ _ | with_reducible exact Below.refl _ _ | with_reducible refine Below.trans ?_ (Below.mono hb1 (by first | (simp; done) | (simp; omega) | omega)) | with_reducible refine Below.trans ?_ (Below.mono hb9 (by first | (simp; done) | (simp; omega) | omega))))⟩
  rw [delL_no (delE_last HD.out rfl rfl) (by decide)]
  exact hown9.less (by first | (simp; done) | (simp; omega) | omega)
set_option maxRecDepth 100000 in
set_option maxHeartbeats 8000000 in
theorem rdelete_ok (A : Option Addr) (n cp : Nat) (ls : List Ch) (m : Int) (nm : ByteArray) (w : World) (hnz : nm.size ≤ maxLen) (hr : ChsAt w w.heap.size A n ls) (hft : fitsB ls = true) (o : Ch) (hd : findL ls nm = some o) (ha : o.al = true) (he : o.ep ≠ 1099511627776) :
    Calls Try.prog 46 #[.slice A n cp, .int .i64 m, .string nm] w fun x w' => ∃ lv, x = .returned (.tuple #[lv, .int .i64 (delE ls nm)]) ∧ OwnC w' w.heap.size lv (delL ls m nm) ∧ Below w.heap.size w w' := by
  have hm : n * 56 ≤ 140737488351232 := by have := (fit_of_fits hft).1; have := hr.1; omega
  have HR := Lib.hid hr
  have HFT := Lib.hid hft
  clear hr hft
  have HD := Lib.hid hd
  clear hd
  obtain ⟨os, oe, om, oa, ok, oc⟩ := o
  simp only [] at ha
  subst ha
  simp only [] at he
  have hep := fits_ep HFT.out HD.out
  simp only [] at hep
  obtain ⟨hep0, hep1⟩ := hep
  have hge : ¬ 1099511627776 ≤ oe := by omega
  have hF := rfind_any A n cp ls nm w HR.out hm
  rw [HD.out] at hF
  simp only [Option.getD_some, Option.isSome_some] at hF
  go_enter Try.func46, Try.ntmps46
  go_wp2_with (fail)
  refine (hF).mono ?_; rintro e w1 ⟨rfl, hb1⟩; obtain ⟨hc1, hf1⟩ := bcell hb1; have hz1 := hb1.size; (try simp at hz1)
  clear hF
  go_wp2_with (fail)
  refine (rput_any A n cp ls os (oe + 1) m false ok oc _ ((HR.out.below (by repeat (first | with_reducible refine Below.setCell ?_ (by first | (simp; done) | (simp; omega) | omega) _ | with_reducible refine Below.alloc ?_ (by first | (simp; done) | (simp; omega) | omega) _ | with_reducible refine Below.drew ?_ | with_reducible refine below_drewN ?_ _ | with_reducible exact Below.refl _ _ | with_reducible refine Below.trans ?_ (Below.mono hb1 (by first | (simp; done) | (simp; omega) | omega))))).more (by first | (simp; done) | (simp; omega) | omega)) hm).mono ?_; rintro x w9 ⟨lv, rfl, hown9, hb9⟩
  have hz9 := hb9.size; (try simp at hz9)
  go_wp2
  refine bodyPost_ret (v := .tuple #[lv, .int .i64 0]) (by simp [results, Try.results46, go_sem, *]) rfl ⟨lv, by rw [delE_ok HD.out rfl he], ?_, (by repeat (first | with_reducible refine Below.setCell ?_ (by first | (simp; done) | (simp; omega) | omega) _ | with_reducible refine Below.alloc ?_ (by first | (simp; done) | (simp; omega) | omega) _ | with_reducible refine Below.drew ?_ | with_reducible refine below_drewN ?_ _ | with_reducible exact Below.refl _ _ | with_reducible refine Below.trans ?_ (Below.mono hb1 (by first | (simp; done) | (simp; omega) | omega)) | with_reducible refine Below.trans ?_ (Below.mono hb9 (by first | (simp; done) | (simp; omega) | omega))))⟩
  rw [delL_ok HD.out (delE_ok HD.out rfl he)]
  have hown := hown9.less (base' := w.heap.size) (by first | (simp; done) | (simp; omega) | omega)
  exact hown
theorem rdelete_any (A : Option Addr) (n cp : Nat) (ls : List Ch) (m : Int) (nm : ByteArray) (w : World) (hnz : nm.size ≤ maxLen) (hr : ChsAt w w.heap.size A n ls) (hft : fitsB ls = true) :
    Calls Try.prog 46 #[.slice A n cp, .int .i64 m, .string nm] w fun x w' => ∃ lv, x = .returned (.tuple #[lv, .int .i64 (delE ls nm)]) ∧ OwnC w' w.heap.size lv (delL ls m nm) ∧ Below w.heap.size w w' := by
  cases hd : findL ls nm with
  | none => exact rdelete_none A n cp ls m nm w hnz hr hft hd
  | some o =>
    cases ha : o.al with
    | false => exact rdelete_dead A n cp ls m nm w hnz hr hft o hd ha
    | true =>
      by_cases he : o.ep = 1099511627776
      · exact rdelete_last A n cp ls m nm w hnz hr hft o hd ha he
      · exact rdelete_ok A n cp ls m nm w hnz hr hft o hd ha he
theorem learnR_full {ls : List Ch} {c : Ch} (h : findL ls c.name = none) (h8 : 8 ≤ ls.length) : learnR ls c = (ls, 5) := by unfold learnR; rw [h]; simp only []; rw [if_pos h8]
theorem learnR_new {ls : List Ch} {c : Ch} (h : findL ls c.name = none) (h8 : ¬ 8 ≤ ls.length) : learnR ls c = (putF c ls, 4) := by unfold learnR; rw [h]; simp only []; rw [if_neg h8]
theorem learnR_newer {ls : List Ch} {c o : Ch} (h : findL ls c.name = some o) (h1 : stampB c.ep c.who o.ep o.who = true) : learnR ls c = (putF c ls, 3) := by unfold learnR; rw [h]; simp only []; rw [if_pos h1]
theorem learnR_older {ls : List Ch} {c o : Ch} (h : findL ls c.name = some o) (h1 : stampB c.ep c.who o.ep o.who = false) (h2 : stampB o.ep o.who c.ep c.who = true) : learnR ls c = (ls, 1) := by unfold learnR; rw [h]; simp only []; rw [if_neg (by rw [h1]; simp), if_pos h2]
theorem learnR_same {ls : List Ch} {c o : Ch} (h : findL ls c.name = some o) (h1 : stampB c.ep c.who o.ep o.who = false) (h2 : stampB o.ep o.who c.ep c.who = false) : learnR ls c = (ls, 2) := by unfold learnR; rw [h]; simp only []; rw [if_neg (by rw [h1]; simp), if_neg (by rw [h2]; simp)]
set_option maxRecDepth 100000 in
set_option maxHeartbeats 8000000 in
theorem rlearn_full (A : Option Addr) (n cp : Nat) (ls : List Ch) (s : ByteArray) (e m : Int) (al : Bool) (k0 sc : Int) (w : World) (hr : ChsAt w w.heap.size A n ls) (hm : n * 56 ≤ 140737488351232) (hd : findL ls s = none) (h8 : 8 ≤ ls.length) :
    Calls Try.prog 57 #[.slice A n cp, .agg #[.string s, .int .i64 e, .int .i64 m, .bool al, .int .i64 k0, .int .i64 sc]] w fun x w' => ∃ lv, x = .returned (.tuple #[lv, .int .i64 (learnR ls ⟨s, e, m, al, k0, sc⟩).2]) ∧ OwnC w' w.heap.size lv (learnR ls ⟨s, e, m, al, k0, sc⟩).1 ∧ Below w.heap.size w w' := by
  have HR := Lib.hid hr
  have HD := Lib.hid hd
  clear hr hd
  have hF := fun W (hb : Below w.heap.size w W) => rfind_any A n cp ls s W ((HR.out.below hb).more hb.size) hm
  simp only [HD.out, Option.getD_none, Option.isSome_none] at hF
  have h8n : 8 ≤ n := by have := HR.out.1; omega
  go_enter Try.func57, Try.ntmps57
  go_wp2_with (fail)
  refine (hF _ ((Below.refl _ _).alloc (Nat.le_refl _) _)).mono ?_; rintro e w1 ⟨rfl, hb1⟩; obtain ⟨hc1, hf1⟩ := bcell hb1; have hz1 := hb1.size; (try simp at hz1); have hz1_0 : w.heap.size < w1.heap.size := (by omega)
  clear hF
  go_wp2_with (fail)
  refine (rcopied_any A n cp ls _ ((HR.out.below (by repeat (first | with_reducible refine Below.setCell ?_ (by first | (simp; done) | (simp; omega) | omega) _ | with_reducible refine Below.alloc ?_ (by first | (simp; done) | (simp; omega) | omega) _ | with_reducible refine Below.drew ?_ | with_reducible refine below_drewN ?_ _ | with_reducible exact Below.refl _ _ | with_reducible refine Below.trans ?_ (Below.mono hb1 (by first | (simp; done) | (simp; omega) | omega))))).more (by first | (simp; done) | (simp; omega) | omega)) hm).mono ?_; rintro x w9 ⟨lv, rfl, hown9, hb9⟩
  have hz9 := hb9.size; (try simp at hz9)
  go_wp2
  refine bodyPost_ret (v := .tuple #[lv, .int .i64 5]) (by simp [results, Try.results57, go_sem, *]) rfl ⟨lv, by rw [learnR_full (c := ⟨s, e, m, al, k0, sc⟩) HD.out h8], ?_, (by repeat (first | with_reducible refine Below.setCell ?_ (by first | (simp; done) | (simp; omega) | omega) _ | with_reducible refine Below.alloc ?_ (by first | (simp; done) | (simp; omega) | omega) _ | with_reducible refine Below.drew ?_ | with_reducible refine below_drewN ?_ _ | with_reducible exact Below.refl _ _ | with_reducible refine Below.trans ?_ (Below.mono hb1 (by first | (simp; done) | (simp; omega) | omega)) | with_reducible refine Below.trans ?_ (Below.mono hb9 (by first | (simp; done) | (simp; omega) | omega))))⟩
  rw [learnR_full (c := ⟨s, e, m, al, k0, sc⟩) HD.out h8]
  exact hown9.less (by first | (simp; done) | (simp; omega) | omega)
set_option maxRecDepth 100000 in
set_option maxHeartbeats 8000000 in
theorem rlearn_new (A : Option Addr) (n cp : Nat) (ls : List Ch) (s : ByteArray) (e m : Int) (al : Bool) (k0 sc : Int) (w : World) (hr : ChsAt w w.heap.size A n ls) (hm : n * 56 ≤ 140737488351232) (hd : findL ls s = none) (h8 : ¬ 8 ≤ ls.length) :
    Calls Try.prog 57 #[.slice A n cp, .agg #[.string s, .int .i64 e, .int .i64 m, .bool al, .int .i64 k0, .int .i64 sc]] w fun x w' => ∃ lv, x = .returned (.tuple #[lv, .int .i64 (learnR ls ⟨s, e, m, al, k0, sc⟩).2]) ∧ OwnC w' w.heap.size lv (learnR ls ⟨s, e, m, al, k0, sc⟩).1 ∧ Below w.heap.size w w' := by
  have HR := Lib.hid hr
  have HD := Lib.hid hd
  clear hr hd
  have hF := fun W (hb : Below w.heap.size w W) => rfind_any A n cp ls s W ((HR.out.below hb).more hb.size) hm
  simp only [HD.out, Option.getD_none, Option.isSome_none] at hF
  have h8n : n < 8 := by have := HR.out.1; omega
  go_enter Try.func57, Try.ntmps57
  go_wp2_with (fail)
  refine (hF _ ((Below.refl _ _).alloc (Nat.le_refl _) _)).mono ?_; rintro e w1 ⟨rfl, hb1⟩; obtain ⟨hc1, hf1⟩ := bcell hb1; have hz1 := hb1.size; (try simp at hz1); have hz1_0 : w.heap.size < w1.heap.size := (by omega)
  clear hF
  go_wp2_with (fail)
  refine (rput_any A n cp ls s e m al k0 sc _ ((HR.out.below (by repeat (first | with_reducible refine Below.setCell ?_ (by first | (simp; done) | (simp; omega) | omega) _ | with_reducible refine Below.alloc ?_ (by first | (simp; done) | (simp; omega) | omega) _ | with_reducible refine Below.drew ?_ | with_reducible refine below_drewN ?_ _ | with_reducible exact Below.refl _ _ | with_reducible refine Below.trans ?_ (Below.mono hb1 (by first | (simp; done) | (simp; omega) | omega))))).more (by first | (simp; done) | (simp; omega) | omega)) hm).mono ?_; rintro x w9 ⟨lv, rfl, hown9, hb9⟩
  have hz9 := hb9.size; (try simp at hz9)
  go_wp2
  refine bodyPost_ret (v := .tuple #[lv, .int .i64 4]) (by simp [results, Try.results57, go_sem, *]) rfl ⟨lv, by rw [learnR_new (c := ⟨s, e, m, al, k0, sc⟩) HD.out h8], ?_, (by repeat (first | with_reducible refine Below.setCell ?_ (by first | (simp; done) | (simp; omega) | omega) _ | with_reducible refine Below.alloc ?_ (by first | (simp; done) | (simp; omega) | omega) _ | with_reducible refine Below.drew ?_ | with_reducible refine below_drewN ?_ _ | with_reducible exact Below.refl _ _ | with_reducible refine Below.trans ?_ (Below.mono hb1 (by first | (simp; done) | (simp; omega) | omega)) | with_reducible refine Below.trans ?_ (Below.mono hb9 (by first | (simp; done) | (simp; omega) | omega))))⟩
  rw [learnR_new (c := ⟨s, e, m, al, k0, sc⟩) HD.out h8]
  exact hown9.less (by first | (simp; done) | (simp; omega) | omega)
set_option maxRecDepth 100000 in
set_option maxHeartbeats 8000000 in
theorem rlearn_newer (A : Option Addr) (n cp : Nat) (ls : List Ch) (s : ByteArray) (e m : Int) (al : Bool) (k0 sc : Int) (w : World) (hr : ChsAt w w.heap.size A n ls) (hm : n * 56 ≤ 140737488351232) (o : Ch) (hd : findL ls s = some o) (h1 : Hid (stampB e m o.ep o.who = true)) :
    Calls Try.prog 57 #[.slice A n cp, .agg #[.string s, .int .i64 e, .int .i64 m, .bool al, .int .i64 k0, .int .i64 sc]] w fun x w' => ∃ lv, x = .returned (.tuple #[lv, .int .i64 (learnR ls ⟨s, e, m, al, k0, sc⟩).2]) ∧ OwnC w' w.heap.size lv (learnR ls ⟨s, e, m, al, k0, sc⟩).1 ∧ Below w.heap.size w w' := by
  have HR := Lib.hid hr
  have HD := Lib.hid hd
  clear hr hd
  obtain ⟨os, oe, om, oa, ok, oc⟩ := o
  have hF := fun W (hb : Below w.heap.size w W) => rfind_any A n cp ls s W ((HR.out.below hb).more hb.size) hm
  simp only [HD.out, Option.getD_some, Option.isSome_some] at hF
  simp only [] at h1
  go_enter Try.func57, Try.ntmps57
  go_wp2_with (fail)
  refine (hF _ ((Below.refl _ _).alloc (Nat.le_refl _) _)).mono ?_; rintro e w1 ⟨rfl, hb1⟩; obtain ⟨hc1, hf1⟩ := bcell hb1; have hz1 := hb1.size; (try simp at hz1); have hz1_0 : w.heap.size < w1.heap.size := (by omega)
  clear hF
  go_wp2_with (fail)
  have hS2 : ∀ W, Calls Try.prog 90 #[.agg #[.string s, .int .i64 e, .int .i64 m, .bool al, .int .i64 k0, .int .i64 sc], .agg #[.string os, .int .i64 oe, .int .i64 om, .bool oa, .int .i64 ok, .int .i64 oc]] W fun x w' => x = .returned (.bool true) ∧ Below W.heap.size W w' := fun W => by rw [← h1.out]; exact rnewerC_any s e m al k0 sc os oe om oa ok oc W
  refine (hS2 _).mono ?_; rintro e w2 ⟨rfl, hb2⟩; obtain ⟨hc2, hf2⟩ := bcell hb2; have hz2 := hb2.size; (try simp at hz2); have hz2_0 : w.heap.size < w2.heap.size := (by omega); have hz2_1 : w1.heap.size < w2.heap.size := (by omega); have hz2_1_1 : w1.heap.size < w2.heap.size + 1 := (by omega); have hz2_1_2 : w1.heap.size < w2.heap.size + 1 + 1 := (by omega); have hz2_1_3 : w1.heap.size < w2.heap.size + 1 + 1 + 1 := (by omega)
  go_wp2_with (fail)
  refine (rput_any A n cp ls s e m al k0 sc _ ((HR.out.below (by repeat (first | with_reducible refine Below.setCell ?_ (by first | (simp; done) | (simp; omega) | omega) _ | with_reducible refine Below.alloc ?_ (by first | (simp; done) | (simp; omega) | omega) _ | with_reducible refine Below.drew ?_ | with_reducible refine below_drewN ?_ _ | with_reducible exact Below.refl _ _ | with_reducible refine Below.trans ?_ (Below.mono hb1 (by first | (simp; done) | (simp; omega) | omega)) | with_reducible refine Below.trans ?_ (Below.mono hb2 (by first | (simp; done) | (simp; omega) | omega))))).more (by first | (simp; done) | (simp; omega) | omega)) hm).mono ?_; rintro x w9 ⟨lv, rfl, hown9, hb9⟩
  have hz9 := hb9.size; (try simp at hz9)
  go_wp2
  refine bodyPost_ret (v := .tuple #[lv, .int .i64 3]) (by simp [results, Try.results57, go_sem, *]) rfl ⟨lv, by rw [learnR_newer (c := ⟨s, e, m, al, k0, sc⟩) HD.out h1.out], ?_, (by repeat (first | with_reducible refine Below.setCell ?_ (by first | (simp; done) | (simp; omega) | omega) _ | with_reducible refine Below.alloc ?_ (by first | (simp; done) | (simp; omega) | omega) _ | with_reducible refine Below.drew ?_ | with_reducible refine below_drewN ?_ _ | with_reducible exact Below.refl _ _ | with_reducible refine Below.trans ?_ (Below.mono hb1 (by first | (simp; done) | (simp; omega) | omega)) | with_reducible refine Below.trans ?_ (Below.mono hb2 (by first | (simp; done) | (simp; omega) | omega)) | with_reducible refine Below.trans ?_ (Below.mono hb9 (by first | (simp; done) | (simp; omega) | omega))))⟩
  rw [learnR_newer (c := ⟨s, e, m, al, k0, sc⟩) HD.out h1.out]
  exact hown9.less (by first | (simp; done) | (simp; omega) | omega)
set_option maxRecDepth 100000 in
set_option maxHeartbeats 8000000 in
theorem rlearn_older (A : Option Addr) (n cp : Nat) (ls : List Ch) (s : ByteArray) (e m : Int) (al : Bool) (k0 sc : Int) (w : World) (hr : ChsAt w w.heap.size A n ls) (hm : n * 56 ≤ 140737488351232) (o : Ch) (hd : findL ls s = some o) (h1 : Hid (stampB e m o.ep o.who = false)) (h2 : Hid (stampB o.ep o.who e m = true)) :
    Calls Try.prog 57 #[.slice A n cp, .agg #[.string s, .int .i64 e, .int .i64 m, .bool al, .int .i64 k0, .int .i64 sc]] w fun x w' => ∃ lv, x = .returned (.tuple #[lv, .int .i64 (learnR ls ⟨s, e, m, al, k0, sc⟩).2]) ∧ OwnC w' w.heap.size lv (learnR ls ⟨s, e, m, al, k0, sc⟩).1 ∧ Below w.heap.size w w' := by
  have HR := Lib.hid hr
  have HD := Lib.hid hd
  clear hr hd
  obtain ⟨os, oe, om, oa, ok, oc⟩ := o
  have hF := fun W (hb : Below w.heap.size w W) => rfind_any A n cp ls s W ((HR.out.below hb).more hb.size) hm
  simp only [HD.out, Option.getD_some, Option.isSome_some] at hF
  simp only [] at h1 h2
  go_enter Try.func57, Try.ntmps57
  go_wp2_with (fail)
  refine (hF _ ((Below.refl _ _).alloc (Nat.le_refl _) _)).mono ?_; rintro e w1 ⟨rfl, hb1⟩; obtain ⟨hc1, hf1⟩ := bcell hb1; have hz1 := hb1.size; (try simp at hz1); have hz1_0 : w.heap.size < w1.heap.size := (by omega)
  clear hF
  go_wp2_with (fail)
  have hS2 : ∀ W, Calls Try.prog 90 #[.agg #[.string s, .int .i64 e, .int .i64 m, .bool al, .int .i64 k0, .int .i64 sc], .agg #[.string os, .int .i64 oe, .int .i64 om, .bool oa, .int .i64 ok, .int .i64 oc]] W fun x w' => x = .returned (.bool false) ∧ Below W.heap.size W w' := fun W => by rw [← h1.out]; exact rnewerC_any s e m al k0 sc os oe om oa ok oc W
  refine (hS2 _).mono ?_; rintro e w2 ⟨rfl, hb2⟩; obtain ⟨hc2, hf2⟩ := bcell hb2; have hz2 := hb2.size; (try simp at hz2); have hz2_0 : w.heap.size < w2.heap.size := (by omega); have hz2_1 : w1.heap.size < w2.heap.size := (by omega); have hz2_1_1 : w1.heap.size < w2.heap.size + 1 := (by omega); have hz2_1_2 : w1.heap.size < w2.heap.size + 1 + 1 := (by omega); have hz2_1_3 : w1.heap.size < w2.heap.size + 1 + 1 + 1 := (by omega)
  go_wp2_with (fail)
  have hS3 : ∀ W, Calls Try.prog 90 #[.agg #[.string os, .int .i64 oe, .int .i64 om, .bool oa, .int .i64 ok, .int .i64 oc], .agg #[.string s, .int .i64 e, .int .i64 m, .bool al, .int .i64 k0, .int .i64 sc]] W fun x w' => x = .returned (.bool true) ∧ Below W.heap.size W w' := fun W => by rw [← h2.out]; exact rnewerC_any os oe om oa ok oc s e m al k0 sc W
  refine (hS3 _).mono ?_; rintro e w3 ⟨rfl, hb3⟩; obtain ⟨hc3, hf3⟩ := bcell hb3; have hz3 := hb3.size; (try simp at hz3); have hz3_0 : w.heap.size < w3.heap.size := (by omega); have hz3_1 : w1.heap.size < w3.heap.size := (by omega); have hz3_1_1 : w1.heap.size < w3.heap.size + 1 := (by omega); have hz3_1_2 : w1.heap.size < w3.heap.size + 1 + 1 := (by omega); have hz3_1_3 : w1.heap.size < w3.heap.size + 1 + 1 + 1 := (by omega)
  go_wp2_with (fail)
  refine (rcopied_any A n cp ls _ ((HR.out.below (by repeat (first | with_reducible refine Below.setCell ?_ (by first | (simp; done) | (simp; omega) | omega) _ | with_reducible refine Below.alloc ?_ (by first | (simp; done) | (simp; omega) | omega) _ | with_reducible refine Below.drew ?_ | with_reducible refine below_drewN ?_ _ | with_reducible exact Below.refl _ _ | with_reducible refine Below.trans ?_ (Below.mono hb1 (by first | (simp; done) | (simp; omega) | omega)) | with_reducible refine Below.trans ?_ (Below.mono hb2 (by first | (simp; done) | (simp; omega) | omega)) | with_reducible refine Below.trans ?_ (Below.mono hb3 (by first | (simp; done) | (simp; omega) | omega))))).more (by first | (simp; done) | (simp; omega) | omega)) hm).mono ?_; rintro x w9 ⟨lv, rfl, hown9, hb9⟩
  have hz9 := hb9.size; (try simp at hz9)
  go_wp2
  refine bodyPost_ret (v := .tuple #[lv, .int .i64 1]) (by simp [results, Try.results57, go_sem, *]) rfl ⟨lv, by rw [learnR_older (c := ⟨s, e, m, al, k0, sc⟩) HD.out h1.out h2.out], ?_, (by repeat (first | with_reducible refine Below.setCell ?_ (by first | (simp; done) | (simp; omega) | omega) _ | with_reducible refine Below.alloc ?_ (by first | (simp; done) | (simp; omega) | omega) _ | with_reducible refine Below.drew ?_ | with_reducible refine below_drewN ?_ _ | with_reducible exact Below.refl _ _ | with_reducible refine Below.trans ?_ (Below.mono hb1 (by first | (simp; done) | (simp; omega) | omega)) | with_reducible refine Below.trans ?_ (Below.mono hb2 (by first | (simp; done) | (simp; omega) | omega)) | with_reducible refine Below.trans ?_ (Below.mono hb3 (by first | (simp; done) | (simp; omega) | omega)) | with_reducible refine Below.trans ?_ (Below.mono hb9 (by first | (simp; done) | (simp; omega) | omega))))⟩
  rw [learnR_older (c := ⟨s, e, m, al, k0, sc⟩) HD.out h1.out h2.out]
  exact hown9.less (by first | (simp; done) | (simp; omega) | omega)
set_option maxRecDepth 100000 in
set_option maxHeartbeats 8000000 in
theorem rlearn_same (A : Option Addr) (n cp : Nat) (ls : List Ch) (s : ByteArray) (e m : Int) (al : Bool) (k0 sc : Int) (w : World) (hr : ChsAt w w.heap.size A n ls) (hm : n * 56 ≤ 140737488351232) (o : Ch) (hd : findL ls s = some o) (h1 : Hid (stampB e m o.ep o.who = false)) (h2 : Hid (stampB o.ep o.who e m = false)) :
    Calls Try.prog 57 #[.slice A n cp, .agg #[.string s, .int .i64 e, .int .i64 m, .bool al, .int .i64 k0, .int .i64 sc]] w fun x w' => ∃ lv, x = .returned (.tuple #[lv, .int .i64 (learnR ls ⟨s, e, m, al, k0, sc⟩).2]) ∧ OwnC w' w.heap.size lv (learnR ls ⟨s, e, m, al, k0, sc⟩).1 ∧ Below w.heap.size w w' := by
  have HR := Lib.hid hr
  have HD := Lib.hid hd
  clear hr hd
  obtain ⟨os, oe, om, oa, ok, oc⟩ := o
  have hF := fun W (hb : Below w.heap.size w W) => rfind_any A n cp ls s W ((HR.out.below hb).more hb.size) hm
  simp only [HD.out, Option.getD_some, Option.isSome_some] at hF
  simp only [] at h1 h2
  go_enter Try.func57, Try.ntmps57
  go_wp2_with (fail)
  refine (hF _ ((Below.refl _ _).alloc (Nat.le_refl _) _)).mono ?_; rintro e w1 ⟨rfl, hb1⟩; obtain ⟨hc1, hf1⟩ := bcell hb1; have hz1 := hb1.size; (try simp at hz1); have hz1_0 : w.heap.size < w1.heap.size := (by omega)
  clear hF
  go_wp2_with (fail)
  have hS2 : ∀ W, Calls Try.prog 90 #[.agg #[.string s, .int .i64 e, .int .i64 m, .bool al, .int .i64 k0, .int .i64 sc], .agg #[.string os, .int .i64 oe, .int .i64 om, .bool oa, .int .i64 ok, .int .i64 oc]] W fun x w' => x = .returned (.bool false) ∧ Below W.heap.size W w' := fun W => by rw [← h1.out]; exact rnewerC_any s e m al k0 sc os oe om oa ok oc W
  refine (hS2 _).mono ?_; rintro e w2 ⟨rfl, hb2⟩; obtain ⟨hc2, hf2⟩ := bcell hb2; have hz2 := hb2.size; (try simp at hz2); have hz2_0 : w.heap.size < w2.heap.size := (by omega); have hz2_1 : w1.heap.size < w2.heap.size := (by omega); have hz2_1_1 : w1.heap.size < w2.heap.size + 1 := (by omega); have hz2_1_2 : w1.heap.size < w2.heap.size + 1 + 1 := (by omega); have hz2_1_3 : w1.heap.size < w2.heap.size + 1 + 1 + 1 := (by omega)
  go_wp2_with (fail)
  have hS3 : ∀ W, Calls Try.prog 90 #[.agg #[.string os, .int .i64 oe, .int .i64 om, .bool oa, .int .i64 ok, .int .i64 oc], .agg #[.string s, .int .i64 e, .int .i64 m, .bool al, .int .i64 k0, .int .i64 sc]] W fun x w' => x = .returned (.bool false) ∧ Below W.heap.size W w' := fun W => by rw [← h2.out]; exact rnewerC_any os oe om oa ok oc s e m al k0 sc W
  refine (hS3 _).mono ?_; rintro e w3 ⟨rfl, hb3⟩; obtain ⟨hc3, hf3⟩ := bcell hb3; have hz3 := hb3.size; (try simp at hz3); have hz3_0 : w.heap.size < w3.heap.size := (by omega); have hz3_1 : w1.heap.size < w3.heap.size := (by omega); have hz3_1_1 : w1.heap.size < w3.heap.size + 1 := (by omega); have hz3_1_2 : w1.heap.size < w3.heap.size + 1 + 1 := (by omega); have hz3_1_3 : w1.heap.size < w3.heap.size + 1 + 1 + 1 := (by omega)
  go_wp2_with (fail)
  refine (rcopied_any A n cp ls _ ((HR.out.below (by repeat (first | with_reducible refine Below.setCell ?_ (by first | (simp; done) | (simp; omega) | omega) _ | with_reducible refine Below.alloc ?_ (by first | (simp; done) | (simp; omega) | omega) _ | with_reducible refine Below.drew ?_ | with_reducible refine below_drewN ?_ _ | with_reducible exact Below.refl _ _ | with_reducible refine Below.trans ?_ (Below.mono hb1 (by first | (simp; done) | (simp; omega) | omega)) | with_reducible refine Below.trans ?_ (Below.mono hb2 (by first | (simp; done) | (simp; omega) | omega)) | with_reducible refine Below.trans ?_ (Below.mono hb3 (by first | (simp; done) | (simp; omega) | omega))))).more (by first | (simp; done) | (simp; omega) | omega)) hm).mono ?_; rintro x w9 ⟨lv, rfl, hown9, hb9⟩
  have hz9 := hb9.size; (try simp at hz9)
  go_wp2
  refine bodyPost_ret (v := .tuple #[lv, .int .i64 2]) (by simp [results, Try.results57, go_sem, *]) rfl ⟨lv, by rw [learnR_same (c := ⟨s, e, m, al, k0, sc⟩) HD.out h1.out h2.out], ?_, (by repeat (first | with_reducible refine Below.setCell ?_ (by first | (simp; done) | (simp; omega) | omega) _ | with_reducible refine Below.alloc ?_ (by first | (simp; done) | (simp; omega) | omega) _ | with_reducible refine Below.drew ?_ | with_reducible refine below_drewN ?_ _ | with_reducible exact Below.refl _ _ | with_reducible refine Below.trans ?_ (Below.mono hb1 (by first | (simp; done) | (simp; omega) | omega)) | with_reducible refine Below.trans ?_ (Below.mono hb2 (by first | (simp; done) | (simp; omega) | omega)) | with_reducible refine Below.trans ?_ (Below.mono hb3 (by first | (simp; done) | (simp; omega) | omega)) | with_reducible refine Below.trans ?_ (Below.mono hb9 (by first | (simp; done) | (simp; omega) | omega))))⟩
  rw [learnR_same (c := ⟨s, e, m, al, k0, sc⟩) HD.out h1.out h2.out]
  exact hown9.less (by first | (simp; done) | (simp; omega) | omega)
theorem rlearn_any (A : Option Addr) (n cp : Nat) (ls : List Ch) (s : ByteArray) (e m : Int) (al : Bool) (k0 sc : Int) (w : World) (hr : ChsAt w w.heap.size A n ls) (hm : n * 56 ≤ 140737488351232) :
    Calls Try.prog 57 #[.slice A n cp, .agg #[.string s, .int .i64 e, .int .i64 m, .bool al, .int .i64 k0, .int .i64 sc]] w fun x w' => ∃ lv, x = .returned (.tuple #[lv, .int .i64 (learnR ls ⟨s, e, m, al, k0, sc⟩).2]) ∧ OwnC w' w.heap.size lv (learnR ls ⟨s, e, m, al, k0, sc⟩).1 ∧ Below w.heap.size w w' := by
  cases hd : findL ls s with
  | none =>
    by_cases h8 : 8 ≤ ls.length
    · exact rlearn_full A n cp ls s e m al k0 sc w hr hm hd h8
    · exact rlearn_new A n cp ls s e m al k0 sc w hr hm hd h8
  | some o =>
    cases h1 : stampB e m o.ep o.who with
    | true => exact rlearn_newer A n cp ls s e m al k0 sc w hr hm o hd (Lib.hid h1)
    | false =>
      cases h2 : stampB o.ep o.who e m with
      | true => exact rlearn_older A n cp ls s e m al k0 sc w hr hm o hd (Lib.hid h1) (Lib.hid h2)
      | false => exact rlearn_same A n cp ls s e m al k0 sc w hr hm o hd (Lib.hid h1) (Lib.hid h2)
end Go.Proofs.Ytfihkkamedghkaa
