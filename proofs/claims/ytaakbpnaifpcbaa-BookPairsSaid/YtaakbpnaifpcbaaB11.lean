/- awake of the statements over books: chapter 11's examples. -/
import Derived.Test.YtaakbpnaifpcbaaPag
import Derived.Test.YtaakbpnaifpcbaaHlw
namespace Go.Proofs.Ytaakbpnaifpcbaa
open Go.RowKit Go.Shelf
set_option linter.unusedVariables false
set_option linter.unusedSimpArgs false
theorem cellsE_of6 {W : World} {p : Addr} {x : HL} (h : half6 W p x) : CellsE encH W p x := by
  intro i u hu
  obtain ⟨h0, h1, h2, h3, h4, h5⟩ := h
  have hi : i < 6 := by have := (List.getElem?_eq_some_iff.1 hu).1; simpa [encH] using this
  match i, hi with
  | 0, _ => cases hu; have : p.add 0 = p := by unfold Addr.add; split <;> simp_all
            rw [this]; exact h0
  | 1, _ => cases hu; rw [add_next p 0]; exact h1
  | 2, _ => cases hu; rw [add_next p 1]; exact h2
  | 3, _ => cases hu; rw [add_next p 2]; exact h3
  | 4, _ => cases hu; rw [add_next p 3]; exact h4
  | 5, _ => cases hu; rw [add_next p 4]; exact h5
def awX (s : Nat) : List HL := [⟨1, 1, 5, ⟨s, 0, none⟩, 1⟩, ⟨5, 2, 7, ⟨s + 1, 0, none⟩, 1⟩]
theorem aw_taken (s : Nat) : tellT (0 + 1 * sumT (fun _ => true) ((awX s).map (outH 2))) = (2, 0) := by kernel_rfl
theorem aw_est (s : Nat) : tellT (10 + (-1) * sumT (fun _ => true) ((awX s).map (outH 2))) = (8, 0) := by kernel_rfl
theorem aw_rest (s : Nat) : tellT (10 + (-1) * sumT (fun p => !(p == 5)) ((awX s).map (outH 2))) = (15, 0) := by kernel_rfl
theorem aw_bad (s : Nat) : tellT (-2147483647 + (-1) * sumT (fun _ => true) ((awX s).map (outH 2))) = (0, 10) := by kernel_rfl
set_option maxRecDepth 100000 in
set_option maxHeartbeats 8000000 in
theorem awake_any (w : World) : Calls Try.prog 4 #[] w fun e w' => e = .returned (.bool true) ∧ Below w.heap.size w w' := by
  go_enter Try.func4, Try.ntmps4
  go_upto_region 2 with (fail)
  refine lay0 (fun W => Below w.heap.size w W ∧ HsAt W W.heap.size (some ⟨w.heap.size + 1 + 1, 0, none⟩) 2 (awX w.heap.size)) ?_ ?_
  · refine ⟨(by repeat (first | with_reducible refine Below.setCell ?_ (by first | (simp; done) | (simp; omega) | omega) _ | with_reducible refine Below.alloc ?_ (by first | (simp; done) | (simp; omega) | omega) _ | with_reducible refine Below.drew ?_ | with_reducible refine below_drewN ?_ _ | with_reducible exact Below.refl _ _)), ⟨rfl, fun _ => ⟨_, rfl, by simp, fun j x hx => ?_⟩⟩, fun x hx => ?_⟩
    · match j, hx with
      | 0, hx =>
        obtain rfl := Option.some.inj hx
        exact cellsE_of6 ⟨by rw [Addr.add_lit]; go_simp, by rw [Addr.add_lit]; go_simp, by rw [Addr.add_lit]; go_simp, by rw [Addr.add_lit]; go_simp, by rw [Addr.add_lit]; go_simp, by rw [Addr.add_lit]; go_simp⟩
      | 1, hx =>
        obtain rfl := Option.some.inj hx
        exact cellsE_of6 ⟨by rw [Addr.add_lit]; go_simp, by rw [Addr.add_lit]; go_simp, by rw [Addr.add_lit]; go_simp, by rw [Addr.add_lit]; go_simp, by rw [Addr.add_lit]; go_simp, by rw [Addr.add_lit]; go_simp⟩
      | j + 2, hx => simp [awX] at hx
    · simp only [awX, List.mem_cons, List.not_mem_nil, or_false] at hx
      rcases hx with rfl | rfl
      · exact ⟨by simp; omega, ⟨by go_simp, by go_simp, by go_simp, by go_simp⟩⟩
      · exact ⟨by simp, ⟨by go_simp, by go_simp, by go_simp, by go_simp⟩⟩
  rintro w1 ⟨kb1, hH⟩
  have HH := Lib.hid hH
  clear hH
  have hs1 := kb1.size
  have c1 := fun W (hb : Below w1.heap.size w1 W) => taken_any 2 (some ⟨w.heap.size + 1 + 1, 0, none⟩) 2 2 (awX w.heap.size) W ((HH.out.below hb).more hb.size) (by omega)
  have c2 := fun W (hb : Below w1.heap.size w1 W) => estimate_any 2 10 (some ⟨w.heap.size + 1 + 1, 0, none⟩) 2 2 (awX w.heap.size) W ((HH.out.below hb).more hb.size) (by omega) (by omega) (by omega)
  have c3 := fun W (hb : Below w1.heap.size w1 W) => rest_any 2 10 5 (some ⟨w.heap.size + 1 + 1, 0, none⟩) 2 2 (awX w.heap.size) W ((HH.out.below hb).more hb.size) (by omega) (by omega) (by omega)
  have c4 := fun W (hb : Below w1.heap.size w1 W) => estimate_any 2 (-2147483647) (some ⟨w.heap.size + 1 + 1, 0, none⟩) 2 2 (awX w.heap.size) W ((HH.out.below hb).more hb.size) (by omega) (by omega) (by omega)
  rw [aw_taken] at c1
  rw [aw_est] at c2
  rw [aw_rest] at c3
  rw [aw_bad] at c4
  have C1 := Lib.hid c1; have C2 := Lib.hid c2; have C3 := Lib.hid c3; have C4 := Lib.hid c4
  clear c1 c2 c3 c4
  go_wp2_with (fail)
  refine (C1.out _ (by repeat (first | with_reducible refine Below.setCell ?_ (by first | (simp; done) | (simp; omega) | omega) _ | with_reducible refine Below.alloc ?_ (by first | (simp; done) | (simp; omega) | omega) _ | with_reducible refine Below.drew ?_ | with_reducible refine below_drewN ?_ _ | with_reducible exact Below.refl _ _))).mono ?_; rintro e w2 ⟨rfl, hb2⟩
  have k2 : Below w1.heap.size w1 w2 := (by repeat (first | with_reducible refine Below.setCell ?_ (by first | (simp; done) | (simp; omega) | omega) _ | with_reducible refine Below.alloc ?_ (by first | (simp; done) | (simp; omega) | omega) _ | with_reducible refine Below.drew ?_ | with_reducible refine below_drewN ?_ _ | with_reducible exact Below.refl _ _ | with_reducible refine Below.trans ?_ (Below.mono hb2 (by first | (simp; done) | (simp; omega) | omega))))
  have hs2 := k2.size
  clear hb2
  go_wp2_with (fail)
  refine (C2.out _ (by repeat (first | with_reducible refine Below.setCell ?_ (by first | (simp; done) | (simp; omega) | omega) _ | with_reducible refine Below.alloc ?_ (by first | (simp; done) | (simp; omega) | omega) _ | with_reducible refine Below.drew ?_ | with_reducible refine below_drewN ?_ _ | with_reducible exact Below.refl _ _ | with_reducible refine Below.trans ?_ (Below.mono k2 (by first | (simp; done) | (simp; omega) | omega))))).mono ?_; rintro e w3 ⟨rfl, hb3⟩
  have k3 : Below w1.heap.size w1 w3 := (by repeat (first | with_reducible refine Below.setCell ?_ (by first | (simp; done) | (simp; omega) | omega) _ | with_reducible refine Below.alloc ?_ (by first | (simp; done) | (simp; omega) | omega) _ | with_reducible refine Below.drew ?_ | with_reducible refine below_drewN ?_ _ | with_reducible exact Below.refl _ _ | with_reducible refine Below.trans ?_ (Below.mono hb3 (by first | (simp; done) | (simp; omega) | omega)) | with_reducible refine Below.trans ?_ (Below.mono k2 (by first | (simp; done) | (simp; omega) | omega))))
  have hs3 := k3.size
  clear hb3 k2
  go_wp2_with (fail)
  refine (C3.out _ (by repeat (first | with_reducible refine Below.setCell ?_ (by first | (simp; done) | (simp; omega) | omega) _ | with_reducible refine Below.alloc ?_ (by first | (simp; done) | (simp; omega) | omega) _ | with_reducible refine Below.drew ?_ | with_reducible refine below_drewN ?_ _ | with_reducible exact Below.refl _ _ | with_reducible refine Below.trans ?_ (Below.mono k3 (by first | (simp; done) | (simp; omega) | omega))))).mono ?_; rintro e w4 ⟨rfl, hb4⟩
  have k4 : Below w1.heap.size w1 w4 := (by repeat (first | with_reducible refine Below.setCell ?_ (by first | (simp; done) | (simp; omega) | omega) _ | with_reducible refine Below.alloc ?_ (by first | (simp; done) | (simp; omega) | omega) _ | with_reducible refine Below.drew ?_ | with_reducible refine below_drewN ?_ _ | with_reducible exact Below.refl _ _ | with_reducible refine Below.trans ?_ (Below.mono hb4 (by first | (simp; done) | (simp; omega) | omega)) | with_reducible refine Below.trans ?_ (Below.mono k3 (by first | (simp; done) | (simp; omega) | omega))))
  have hs4 := k4.size
  clear hb4 k3
  go_wp2_with (fail)
  refine (C4.out _ (by repeat (first | with_reducible refine Below.setCell ?_ (by first | (simp; done) | (simp; omega) | omega) _ | with_reducible refine Below.alloc ?_ (by first | (simp; done) | (simp; omega) | omega) _ | with_reducible refine Below.drew ?_ | with_reducible refine below_drewN ?_ _ | with_reducible exact Below.refl _ _ | with_reducible refine Below.trans ?_ (Below.mono k4 (by first | (simp; done) | (simp; omega) | omega))))).mono ?_; rintro e w5 ⟨rfl, hb5⟩
  have k5 : Below w1.heap.size w1 w5 := (by repeat (first | with_reducible refine Below.setCell ?_ (by first | (simp; done) | (simp; omega) | omega) _ | with_reducible refine Below.alloc ?_ (by first | (simp; done) | (simp; omega) | omega) _ | with_reducible refine Below.drew ?_ | with_reducible refine below_drewN ?_ _ | with_reducible exact Below.refl _ _ | with_reducible refine Below.trans ?_ (Below.mono hb5 (by first | (simp; done) | (simp; omega) | omega)) | with_reducible refine Below.trans ?_ (Below.mono k4 (by first | (simp; done) | (simp; omega) | omega))))
  clear hb5 k4
  go_wp2
  go_ret
  exact ⟨rfl, kb1.trans (k5.mono hs1)⟩
end Go.Proofs.Ytaakbpnaifpcbaa
