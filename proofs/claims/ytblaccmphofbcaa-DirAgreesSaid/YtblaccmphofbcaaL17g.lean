/- Whatever the three lists: eddylaw17's DirAgrees returns true. No conditions. -/
import Derived.Test.YtblaccmphofbcaaDirX
import Derived.Test.YtblaccmphofbcaaDirE
import Derived.Test.YtblaccmphofbcaaDirT
import Derived.Test.YtblaccmphofbcaaDirO
namespace Go.Proofs.Ytblaccmphofbcaa
open Go.ChangeShapes Go.WideShapes Go.ChangeAt Go.RowKit Go.Joins
set_option linter.unusedVariables false
theorem lists_new {W : World} {A1 A2 A3 : Option Addr} {c1 c2 c3 : Nat} {ra rb rc : List Ch} (h1 : ChsAt W W.heap.size A1 ra.length ra) (h2 : ChsAt W W.heap.size A2 rb.length rb) (h3 : ChsAt W W.heap.size A3 rc.length rc) (l1 : ra.length ≤ 8) (l2 : rb.length ≤ 8) (l3 : rc.length ≤ 8) :
    ListsAt (W.alloc (Obj.cells #[.slice A1 ra.length c1, .slice A2 rb.length c2, .slice A3 rc.length c3] 22)) ⟨W.heap.size, 0, none⟩ [ra, rb, rc] := by
  have hb : Below W.heap.size W (W.alloc (Obj.cells #[.slice A1 ra.length c1, .slice A2 rb.length c2, .slice A3 rc.length c3] 22)) := (Below.refl _ _).alloc (Nat.le_refl _) _
  have up : ∀ {A : Option Addr} {r : List Ch}, ChsAt W W.heap.size A r.length r → ChsAt (W.alloc (Obj.cells #[.slice A1 ra.length c1, .slice A2 rb.length c2, .slice A3 rc.length c3] 22)) (W.alloc (Obj.cells #[.slice A1 ra.length c1, .slice A2 rb.length c2, .slice A3 rc.length c3] 22)).heap.size A r.length r := fun h => (h.below hb).more hb.size
  intro i rs hi
  match i, hi with
  | 0, hi => obtain rfl : ra = rs := by simpa using hi
             exact ⟨A1, c1, by rw [Addr.add_lit]; simp, up h1, l1⟩
  | 1, hi => obtain rfl : rb = rs := by simpa using hi
             exact ⟨A2, c2, by rw [Addr.add_lit]; simp, up h2, l2⟩
  | 2, hi => obtain rfl : rc = rs := by simpa using hi
             exact ⟨A3, c3, by rw [Addr.add_lit]; simp, up h3, l3⟩
theorem flat3 {a b c : List Ch} (h : Cons (· ∈ [a, b, c].flatten) ∧ Few (· ∈ [a, b, c].flatten)) : Cons (fun x => x ∈ a ∨ x ∈ b ∨ x ∈ c) ∧ Few (fun x => x ∈ a ∨ x ∈ b ∨ x ∈ c) :=
  ⟨h.1.sub fun x hx => by simpa using hx, h.2.sub fun x hx => by simpa using hx⟩
set_option maxRecDepth 100000 in
set_option maxHeartbeats 8000000 in
theorem agrees_n0 (A1 : Option Addr) (cp1 : Nat) (ra : List Ch) (A2 : Option Addr) (cp2 : Nat) (rb : List Ch) (A3 : Option Addr) (cp3 : Nat) (rc : List Ch) (w : World) (hr1 : ChsAt w w.heap.size A1 ra.length ra) (hr2 : ChsAt w w.heap.size A2 rb.length rb) (hr3 : ChsAt w w.heap.size A3 rc.length rc) (hm1 : ra.length * 56 ≤ 140737488351232) (hm2 : rb.length * 56 ≤ 140737488351232) (hm3 : rc.length * 56 ≤ 140737488351232) (hg1 : Hid (fitsB ra = false)) :
    Calls Try.prog 5 #[.slice A1 ra.length cp1, .slice A2 rb.length cp2, .slice A3 rc.length cp3] w fun x w' => x = .returned (.bool true) ∧ Below w.heap.size w w' := by
  have HR1 := Lib.hid hr1
  have HR2 := Lib.hid hr2
  have HR3 := Lib.hid hr3
  clear hr1 hr2 hr3
  go_enter Try.func5, Try.ntmps5
  go_wp2_with (fail)
  have hF := rfits_any A1 ra.length cp1 ra w ((HR1.out.below (by repeat (first | with_reducible refine Below.setCell ?_ (by first | (simp; done) | (simp; omega) | omega) _ | with_reducible refine Below.alloc ?_ (by first | (simp; done) | (simp; omega) | omega) _ | with_reducible refine Below.drew ?_ | with_reducible refine below_drewN ?_ _ | with_reducible exact Below.refl _ _))).more (by first | (simp; done) | (simp; omega) | omega)) hm1
  rw [hg1.out] at hF
  refine (hF).mono ?_; rintro e w1 ⟨rfl, hb1⟩; obtain ⟨hc1, hf1⟩ := bcell hb1; have hz1 := hb1.size; (try simp at hz1)
  clear hF
  go_wp2_with (fail)
  refine (awake_any _).mono ?_; rintro e w2 ⟨rfl, hb2⟩; obtain ⟨hc2, hf2⟩ := bcell hb2; have hz2 := hb2.size; (try simp at hz2)
  go_wp2
  go_ret
  exact ⟨rfl, (by repeat (first | with_reducible refine Below.setCell ?_ (by first | (simp; done) | (simp; omega) | omega) _ | with_reducible refine Below.alloc ?_ (by first | (simp; done) | (simp; omega) | omega) _ | with_reducible refine Below.drew ?_ | with_reducible refine below_drewN ?_ _ | with_reducible exact Below.refl _ _ | with_reducible refine Below.trans ?_ (Below.mono hb1 (by first | (simp; done) | (simp; omega) | omega)) | with_reducible refine Below.trans ?_ (Below.mono hb2 (by first | (simp; done) | (simp; omega) | omega))))⟩
set_option maxRecDepth 100000 in
set_option maxHeartbeats 8000000 in
theorem agrees_n1 (A1 : Option Addr) (cp1 : Nat) (ra : List Ch) (A2 : Option Addr) (cp2 : Nat) (rb : List Ch) (A3 : Option Addr) (cp3 : Nat) (rc : List Ch) (w : World) (hr1 : ChsAt w w.heap.size A1 ra.length ra) (hr2 : ChsAt w w.heap.size A2 rb.length rb) (hr3 : ChsAt w w.heap.size A3 rc.length rc) (hm1 : ra.length * 56 ≤ 140737488351232) (hm2 : rb.length * 56 ≤ 140737488351232) (hm3 : rc.length * 56 ≤ 140737488351232) (hg1 : Hid (fitsB ra = true)) (hg2 : Hid (fitsB rb = false)) :
    Calls Try.prog 5 #[.slice A1 ra.length cp1, .slice A2 rb.length cp2, .slice A3 rc.length cp3] w fun x w' => x = .returned (.bool true) ∧ Below w.heap.size w w' := by
  have HR1 := Lib.hid hr1
  have HR2 := Lib.hid hr2
  have HR3 := Lib.hid hr3
  clear hr1 hr2 hr3
  go_enter Try.func5, Try.ntmps5
  go_wp2_with (fail)
  have hF := rfits_any A1 ra.length cp1 ra w ((HR1.out.below (by repeat (first | with_reducible refine Below.setCell ?_ (by first | (simp; done) | (simp; omega) | omega) _ | with_reducible refine Below.alloc ?_ (by first | (simp; done) | (simp; omega) | omega) _ | with_reducible refine Below.drew ?_ | with_reducible refine below_drewN ?_ _ | with_reducible exact Below.refl _ _))).more (by first | (simp; done) | (simp; omega) | omega)) hm1
  rw [hg1.out] at hF
  refine (hF).mono ?_; rintro e w1 ⟨rfl, hb1⟩; obtain ⟨hc1, hf1⟩ := bcell hb1; have hz1 := hb1.size; (try simp at hz1)
  clear hF
  go_wp2_with (fail)
  have hF := rfits_any A2 rb.length cp2 rb w1 ((HR2.out.below (by repeat (first | with_reducible refine Below.setCell ?_ (by first | (simp; done) | (simp; omega) | omega) _ | with_reducible refine Below.alloc ?_ (by first | (simp; done) | (simp; omega) | omega) _ | with_reducible refine Below.drew ?_ | with_reducible refine below_drewN ?_ _ | with_reducible exact Below.refl _ _ | with_reducible refine Below.trans ?_ (Below.mono hb1 (by first | (simp; done) | (simp; omega) | omega))))).more (by first | (simp; done) | (simp; omega) | omega)) hm2
  rw [hg2.out] at hF
  refine (hF).mono ?_; rintro e w2 ⟨rfl, hb2⟩; obtain ⟨hc2, hf2⟩ := bcell hb2; have hz2 := hb2.size; (try simp at hz2)
  clear hF
  go_wp2_with (fail)
  refine (awake_any _).mono ?_; rintro e w3 ⟨rfl, hb3⟩; obtain ⟨hc3, hf3⟩ := bcell hb3; have hz3 := hb3.size; (try simp at hz3)
  go_wp2
  go_ret
  exact ⟨rfl, (by repeat (first | with_reducible refine Below.setCell ?_ (by first | (simp; done) | (simp; omega) | omega) _ | with_reducible refine Below.alloc ?_ (by first | (simp; done) | (simp; omega) | omega) _ | with_reducible refine Below.drew ?_ | with_reducible refine below_drewN ?_ _ | with_reducible exact Below.refl _ _ | with_reducible refine Below.trans ?_ (Below.mono hb1 (by first | (simp; done) | (simp; omega) | omega)) | with_reducible refine Below.trans ?_ (Below.mono hb2 (by first | (simp; done) | (simp; omega) | omega)) | with_reducible refine Below.trans ?_ (Below.mono hb3 (by first | (simp; done) | (simp; omega) | omega))))⟩
set_option maxRecDepth 100000 in
set_option maxHeartbeats 8000000 in
theorem agrees_n2 (A1 : Option Addr) (cp1 : Nat) (ra : List Ch) (A2 : Option Addr) (cp2 : Nat) (rb : List Ch) (A3 : Option Addr) (cp3 : Nat) (rc : List Ch) (w : World) (hr1 : ChsAt w w.heap.size A1 ra.length ra) (hr2 : ChsAt w w.heap.size A2 rb.length rb) (hr3 : ChsAt w w.heap.size A3 rc.length rc) (hm1 : ra.length * 56 ≤ 140737488351232) (hm2 : rb.length * 56 ≤ 140737488351232) (hm3 : rc.length * 56 ≤ 140737488351232) (hg1 : Hid (fitsB ra = true)) (hg2 : Hid (fitsB rb = true)) (hg3 : Hid (fitsB rc = false)) :
    Calls Try.prog 5 #[.slice A1 ra.length cp1, .slice A2 rb.length cp2, .slice A3 rc.length cp3] w fun x w' => x = .returned (.bool true) ∧ Below w.heap.size w w' := by
  have HR1 := Lib.hid hr1
  have HR2 := Lib.hid hr2
  have HR3 := Lib.hid hr3
  clear hr1 hr2 hr3
  go_enter Try.func5, Try.ntmps5
  go_wp2_with (fail)
  have hF := rfits_any A1 ra.length cp1 ra w ((HR1.out.below (by repeat (first | with_reducible refine Below.setCell ?_ (by first | (simp; done) | (simp; omega) | omega) _ | with_reducible refine Below.alloc ?_ (by first | (simp; done) | (simp; omega) | omega) _ | with_reducible refine Below.drew ?_ | with_reducible refine below_drewN ?_ _ | with_reducible exact Below.refl _ _))).more (by first | (simp; done) | (simp; omega) | omega)) hm1
  rw [hg1.out] at hF
  refine (hF).mono ?_; rintro e w1 ⟨rfl, hb1⟩; obtain ⟨hc1, hf1⟩ := bcell hb1; have hz1 := hb1.size; (try simp at hz1)
  clear hF
  go_wp2_with (fail)
  have hF := rfits_any A2 rb.length cp2 rb w1 ((HR2.out.below (by repeat (first | with_reducible refine Below.setCell ?_ (by first | (simp; done) | (simp; omega) | omega) _ | with_reducible refine Below.alloc ?_ (by first | (simp; done) | (simp; omega) | omega) _ | with_reducible refine Below.drew ?_ | with_reducible refine below_drewN ?_ _ | with_reducible exact Below.refl _ _ | with_reducible refine Below.trans ?_ (Below.mono hb1 (by first | (simp; done) | (simp; omega) | omega))))).more (by first | (simp; done) | (simp; omega) | omega)) hm2
  rw [hg2.out] at hF
  refine (hF).mono ?_; rintro e w2 ⟨rfl, hb2⟩; obtain ⟨hc2, hf2⟩ := bcell hb2; have hz2 := hb2.size; (try simp at hz2)
  clear hF
  go_wp2_with (fail)
  have hF := rfits_any A3 rc.length cp3 rc w2 ((HR3.out.below (by repeat (first | with_reducible refine Below.setCell ?_ (by first | (simp; done) | (simp; omega) | omega) _ | with_reducible refine Below.alloc ?_ (by first | (simp; done) | (simp; omega) | omega) _ | with_reducible refine Below.drew ?_ | with_reducible refine below_drewN ?_ _ | with_reducible exact Below.refl _ _ | with_reducible refine Below.trans ?_ (Below.mono hb1 (by first | (simp; done) | (simp; omega) | omega)) | with_reducible refine Below.trans ?_ (Below.mono hb2 (by first | (simp; done) | (simp; omega) | omega))))).more (by first | (simp; done) | (simp; omega) | omega)) hm3
  rw [hg3.out] at hF
  refine (hF).mono ?_; rintro e w3 ⟨rfl, hb3⟩; obtain ⟨hc3, hf3⟩ := bcell hb3; have hz3 := hb3.size; (try simp at hz3)
  clear hF
  go_wp2_with (fail)
  refine (awake_any _).mono ?_; rintro e w4 ⟨rfl, hb4⟩; obtain ⟨hc4, hf4⟩ := bcell hb4; have hz4 := hb4.size; (try simp at hz4)
  go_wp2
  go_ret
  exact ⟨rfl, (by repeat (first | with_reducible refine Below.setCell ?_ (by first | (simp; done) | (simp; omega) | omega) _ | with_reducible refine Below.alloc ?_ (by first | (simp; done) | (simp; omega) | omega) _ | with_reducible refine Below.drew ?_ | with_reducible refine below_drewN ?_ _ | with_reducible exact Below.refl _ _ | with_reducible refine Below.trans ?_ (Below.mono hb1 (by first | (simp; done) | (simp; omega) | omega)) | with_reducible refine Below.trans ?_ (Below.mono hb2 (by first | (simp; done) | (simp; omega) | omega)) | with_reducible refine Below.trans ?_ (Below.mono hb3 (by first | (simp; done) | (simp; omega) | omega)) | with_reducible refine Below.trans ?_ (Below.mono hb4 (by first | (simp; done) | (simp; omega) | omega))))⟩
set_option maxRecDepth 100000 in
set_option maxHeartbeats 8000000 in
theorem agrees_main (A1 : Option Addr) (cp1 : Nat) (ra : List Ch) (A2 : Option Addr) (cp2 : Nat) (rb : List Ch) (A3 : Option Addr) (cp3 : Nat) (rc : List Ch) (w : World) (hr1 : ChsAt w w.heap.size A1 ra.length ra) (hr2 : ChsAt w w.heap.size A2 rb.length rb) (hr3 : ChsAt w w.heap.size A3 rc.length rc) (hm1 : ra.length * 56 ≤ 140737488351232) (hm2 : rb.length * 56 ≤ 140737488351232) (hm3 : rc.length * 56 ≤ 140737488351232) (hg1 : Hid (fitsB ra = true)) (hg2 : Hid (fitsB rb = true)) (hg3 : Hid (fitsB rc = true)) :
    Calls Try.prog 5 #[.slice A1 ra.length cp1, .slice A2 rb.length cp2, .slice A3 rc.length cp3] w fun x w' => x = .returned (.bool true) ∧ Below w.heap.size w w' := by
  have HR1 := Lib.hid hr1
  have HR2 := Lib.hid hr2
  have HR3 := Lib.hid hr3
  clear hr1 hr2 hr3
  have hl1 := (fit_of_fits hg1.out).1
  have hl2 := (fit_of_fits hg2.out).1
  have hl3 := (fit_of_fits hg3.out).1
  go_enter Try.func5, Try.ntmps5
  go_wp2_with (fail)
  have hF := rfits_any A1 ra.length cp1 ra w ((HR1.out.below (by repeat (first | with_reducible refine Below.setCell ?_ (by first | (simp; done) | (simp; omega) | omega) _ | with_reducible refine Below.alloc ?_ (by first | (simp; done) | (simp; omega) | omega) _ | with_reducible refine Below.drew ?_ | with_reducible refine below_drewN ?_ _ | with_reducible exact Below.refl _ _))).more (by first | (simp; done) | (simp; omega) | omega)) hm1
  rw [hg1.out] at hF
  refine (hF).mono ?_; rintro e w1 ⟨rfl, hb1⟩; obtain ⟨hc1, hf1⟩ := bcell hb1; have hz1 := hb1.size; (try simp at hz1)
  clear hF
  go_wp2_with (fail)
  have hF := rfits_any A2 rb.length cp2 rb w1 ((HR2.out.below (by repeat (first | with_reducible refine Below.setCell ?_ (by first | (simp; done) | (simp; omega) | omega) _ | with_reducible refine Below.alloc ?_ (by first | (simp; done) | (simp; omega) | omega) _ | with_reducible refine Below.drew ?_ | with_reducible refine below_drewN ?_ _ | with_reducible exact Below.refl _ _ | with_reducible refine Below.trans ?_ (Below.mono hb1 (by first | (simp; done) | (simp; omega) | omega))))).more (by first | (simp; done) | (simp; omega) | omega)) hm2
  rw [hg2.out] at hF
  refine (hF).mono ?_; rintro e w2 ⟨rfl, hb2⟩; obtain ⟨hc2, hf2⟩ := bcell hb2; have hz2 := hb2.size; (try simp at hz2)
  clear hF
  go_wp2_with (fail)
  have hF := rfits_any A3 rc.length cp3 rc w2 ((HR3.out.below (by repeat (first | with_reducible refine Below.setCell ?_ (by first | (simp; done) | (simp; omega) | omega) _ | with_reducible refine Below.alloc ?_ (by first | (simp; done) | (simp; omega) | omega) _ | with_reducible refine Below.drew ?_ | with_reducible refine below_drewN ?_ _ | with_reducible exact Below.refl _ _ | with_reducible refine Below.trans ?_ (Below.mono hb1 (by first | (simp; done) | (simp; omega) | omega)) | with_reducible refine Below.trans ?_ (Below.mono hb2 (by first | (simp; done) | (simp; omega) | omega))))).more (by first | (simp; done) | (simp; omega) | omega)) hm3
  rw [hg3.out] at hF
  refine (hF).mono ?_; rintro e w3 ⟨rfl, hb3⟩; obtain ⟨hc3, hf3⟩ := bcell hb3; have hz3 := hb3.size; (try simp at hz3)
  clear hF
  go_wp2_with (fail)
  refine (stamped_any ⟨w3.heap.size, 0, none⟩ 3 3 [ra, rb, rc] _ rfl (by omega) (by simp) (lists_new ((HR1.out.below (by repeat (first | with_reducible refine Below.setCell ?_ (by first | (simp; done) | (simp; omega) | omega) _ | with_reducible refine Below.alloc ?_ (by first | (simp; done) | (simp; omega) | omega) _ | with_reducible refine Below.drew ?_ | with_reducible refine below_drewN ?_ _ | with_reducible exact Below.refl _ _ | with_reducible refine Below.trans ?_ (Below.mono hb1 (by first | (simp; done) | (simp; omega) | omega)) | with_reducible refine Below.trans ?_ (Below.mono hb2 (by first | (simp; done) | (simp; omega) | omega)) | with_reducible refine Below.trans ?_ (Below.mono hb3 (by first | (simp; done) | (simp; omega) | omega))))).more (by first | (simp; done) | (simp; omega) | omega)) ((HR2.out.below (by repeat (first | with_reducible refine Below.setCell ?_ (by first | (simp; done) | (simp; omega) | omega) _ | with_reducible refine Below.alloc ?_ (by first | (simp; done) | (simp; omega) | omega) _ | with_reducible refine Below.drew ?_ | with_reducible refine below_drewN ?_ _ | with_reducible exact Below.refl _ _ | with_reducible refine Below.trans ?_ (Below.mono hb1 (by first | (simp; done) | (simp; omega) | omega)) | with_reducible refine Below.trans ?_ (Below.mono hb2 (by first | (simp; done) | (simp; omega) | omega)) | with_reducible refine Below.trans ?_ (Below.mono hb3 (by first | (simp; done) | (simp; omega) | omega))))).more (by first | (simp; done) | (simp; omega) | omega)) ((HR3.out.below (by repeat (first | with_reducible refine Below.setCell ?_ (by first | (simp; done) | (simp; omega) | omega) _ | with_reducible refine Below.alloc ?_ (by first | (simp; done) | (simp; omega) | omega) _ | with_reducible refine Below.drew ?_ | with_reducible refine below_drewN ?_ _ | with_reducible exact Below.refl _ _ | with_reducible refine Below.trans ?_ (Below.mono hb1 (by first | (simp; done) | (simp; omega) | omega)) | with_reducible refine Below.trans ?_ (Below.mono hb2 (by first | (simp; done) | (simp; omega) | omega)) | with_reducible refine Below.trans ?_ (Below.mono hb3 (by first | (simp; done) | (simp; omega) | omega))))).more (by first | (simp; done) | (simp; omega) | omega)) hl1 hl2 hl3)).mono ?_; rintro x w4 ⟨b, rfl, hb4, hst⟩
  have hz4 := hb4.size; (try simp at hz4)
  have HST := Lib.hid hst
  clear hst
  have kb4 : Below w3.heap.size w3 w4 := (by repeat (first | with_reducible refine Below.setCell ?_ (by first | (simp; done) | (simp; omega) | omega) _ | with_reducible refine Below.alloc ?_ (by first | (simp; done) | (simp; omega) | omega) _ | with_reducible refine Below.drew ?_ | with_reducible refine below_drewN ?_ _ | with_reducible exact Below.refl _ _ | with_reducible refine Below.trans ?_ (Below.mono hb4 (by first | (simp; done) | (simp; omega) | omega))))
  clear hb4
  have hb4 := kb4
  clear kb4
  cases b with
  | false =>
    go_wp2_with (fail)
    refine (awake_any _).mono ?_; rintro e w5 ⟨rfl, hb5⟩; obtain ⟨hc5, hf5⟩ := bcell hb5; have hz5 := hb5.size; (try simp at hz5)
    go_wp2
    go_ret
    exact ⟨rfl, (by repeat (first | with_reducible refine Below.setCell ?_ (by first | (simp; done) | (simp; omega) | omega) _ | with_reducible refine Below.alloc ?_ (by first | (simp; done) | (simp; omega) | omega) _ | with_reducible refine Below.drew ?_ | with_reducible refine below_drewN ?_ _ | with_reducible exact Below.refl _ _ | with_reducible refine Below.trans ?_ (Below.mono hb1 (by first | (simp; done) | (simp; omega) | omega)) | with_reducible refine Below.trans ?_ (Below.mono hb2 (by first | (simp; done) | (simp; omega) | omega)) | with_reducible refine Below.trans ?_ (Below.mono hb3 (by first | (simp; done) | (simp; omega) | omega)) | with_reducible refine Below.trans ?_ (Below.mono hb4 (by first | (simp; done) | (simp; omega) | omega)) | with_reducible refine Below.trans ?_ (Below.mono hb5 (by first | (simp; done) | (simp; omega) | omega))))⟩
  | true =>
    obtain ⟨hC, hF⟩ := flat3 (HST.out rfl)
    obtain ⟨e1, e2, e3⟩ := agrees (srt_of_fits hg1.out) (srt_of_fits hg2.out) (srt_of_fits hg3.out) hC hF
    have E1 := Lib.hid e1; have E2 := Lib.hid e2; have E3 := Lib.hid e3
    clear hC hF e1 e2 e3 HST
    have HAB := Lib.hid (mergeR_fits _ hg1.out (fit_of_fits hg2.out).2)
    have HBA := Lib.hid (mergeR_fits _ hg2.out (fit_of_fits hg1.out).2)
    have HAA := Lib.hid (mergeR_fits _ hg1.out (fit_of_fits hg1.out).2)
    have HBC := Lib.hid (mergeR_fits _ hg2.out (fit_of_fits hg3.out).2)
    have HX1 := Lib.hid (mergeR_fits _ HAB.out (fit_of_fits hg3.out).2)
    have HX2 := Lib.hid (mergeR_fits _ hg1.out (fit_of_fits HBC.out).2)
    go_wp2_with (fail)
    refine (merge_any A1 _ cp1 ra A2 _ cp2 rb w4 ((HR1.out.below (by repeat (first | with_reducible refine Below.setCell ?_ (by first | (simp; done) | (simp; omega) | omega) _ | with_reducible refine Below.alloc ?_ (by first | (simp; done) | (simp; omega) | omega) _ | with_reducible refine Below.drew ?_ | with_reducible refine below_drewN ?_ _ | with_reducible exact Below.refl _ _ | with_reducible refine Below.trans ?_ (Below.mono hb1 (by first | (simp; done) | (simp; omega) | omega)) | with_reducible refine Below.trans ?_ (Below.mono hb2 (by first | (simp; done) | (simp; omega) | omega)) | with_reducible refine Below.trans ?_ (Below.mono hb3 (by first | (simp; done) | (simp; omega) | omega)) | with_reducible refine Below.trans ?_ (Below.mono hb4 (by first | (simp; done) | (simp; omega) | omega))))).more (by first | (simp; done) | (simp; omega) | omega)) ((HR2.out.below (by repeat (first | with_reducible refine Below.setCell ?_ (by first | (simp; done) | (simp; omega) | omega) _ | with_reducible refine Below.alloc ?_ (by first | (simp; done) | (simp; omega) | omega) _ | with_reducible refine Below.drew ?_ | with_reducible refine below_drewN ?_ _ | with_reducible exact Below.refl _ _ | with_reducible refine Below.trans ?_ (Below.mono hb1 (by first | (simp; done) | (simp; omega) | omega)) | with_reducible refine Below.trans ?_ (Below.mono hb2 (by first | (simp; done) | (simp; omega) | omega)) | with_reducible refine Below.trans ?_ (Below.mono hb3 (by first | (simp; done) | (simp; omega) | omega)) | with_reducible refine Below.trans ?_ (Below.mono hb4 (by first | (simp; done) | (simp; omega) | omega))))).more (by first | (simp; done) | (simp; omega) | omega)) hg1.out hg2.out).mono ?_; rintro x w5 ⟨lv, rfl, hown5, hb5⟩
    obtain ⟨B5, d5, rfl, hr5⟩ := hown5.fit HAB.out
    have HQ5 := Lib.hid hr5
    have hz5 := hb5.size
    clear hown5 hr5
    go_wp2_with (fail)
    refine (merge_any A2 _ cp2 rb A1 _ cp1 ra w5 ((HR2.out.below (by repeat (first | with_reducible refine Below.setCell ?_ (by first | (simp; done) | (simp; omega) | omega) _ | with_reducible refine Below.alloc ?_ (by first | (simp; done) | (simp; omega) | omega) _ | with_reducible refine Below.drew ?_ | with_reducible refine below_drewN ?_ _ | with_reducible exact Below.refl _ _ | with_reducible refine Below.trans ?_ (Below.mono hb1 (by first | (simp; done) | (simp; omega) | omega)) | with_reducible refine Below.trans ?_ (Below.mono hb2 (by first | (simp; done) | (simp; omega) | omega)) | with_reducible refine Below.trans ?_ (Below.mono hb3 (by first | (simp; done) | (simp; omega) | omega)) | with_reducible refine Below.trans ?_ (Below.mono hb4 (by first | (simp; done) | (simp; omega) | omega)) | with_reducible refine Below.trans ?_ (Below.mono hb5 (by first | (simp; done) | (simp; omega) | omega))))).more (by first | (simp; done) | (simp; omega) | omega)) ((HR1.out.below (by repeat (first | with_reducible refine Below.setCell ?_ (by first | (simp; done) | (simp; omega) | omega) _ | with_reducible refine Below.alloc ?_ (by first | (simp; done) | (simp; omega) | omega) _ | with_reducible refine Below.drew ?_ | with_reducible refine below_drewN ?_ _ | with_reducible exact Below.refl _ _ | with_reducible refine Below.trans ?_ (Below.mono hb1 (by first | (simp; done) | (simp; omega) | omega)) | with_reducible refine Below.trans ?_ (Below.mono hb2 (by first | (simp; done) | (simp; omega) | omega)) | with_reducible refine Below.trans ?_ (Below.mono hb3 (by first | (simp; done) | (simp; omega) | omega)) | with_reducible refine Below.trans ?_ (Below.mono hb4 (by first | (simp; done) | (simp; omega) | omega)) | with_reducible refine Below.trans ?_ (Below.mono hb5 (by first | (simp; done) | (simp; omega) | omega))))).more (by first | (simp; done) | (simp; omega) | omega)) hg2.out hg1.out).mono ?_; rintro x w6 ⟨lv, rfl, hown6, hb6⟩
    obtain ⟨B6, d6, rfl, hr6⟩ := hown6.fit HBA.out
    have HQ6 := Lib.hid hr6
    have hz6 := hb6.size
    clear hown6 hr6
    go_wp2_with (fail)
    have hS := same_any B5 _ d5 (mergeR ra rb) B6 _ d6 (mergeR rb ra) w6 ((HQ5.out.below (by repeat (first | with_reducible refine Below.setCell ?_ (by first | (simp; done) | (simp; omega) | omega) _ | with_reducible refine Below.alloc ?_ (by first | (simp; done) | (simp; omega) | omega) _ | with_reducible refine Below.drew ?_ | with_reducible refine below_drewN ?_ _ | with_reducible exact Below.refl _ _ | with_reducible refine Below.trans ?_ (Below.mono hb6 (by first | (simp; done) | (simp; omega) | omega))))).more (by first | (simp; done) | (simp; omega) | omega)) ((HQ6.out.below (by repeat (first | with_reducible refine Below.setCell ?_ (by first | (simp; done) | (simp; omega) | omega) _ | with_reducible refine Below.alloc ?_ (by first | (simp; done) | (simp; omega) | omega) _ | with_reducible refine Below.drew ?_ | with_reducible refine below_drewN ?_ _ | with_reducible exact Below.refl _ _))).more (by first | (simp; done) | (simp; omega) | omega)) (fit_hm HAB.out) (fit_hm HBA.out)
    rw [sameB_eq E1.out] at hS
    refine (hS).mono ?_; rintro e w7 ⟨rfl, hb7⟩; obtain ⟨hc7, hf7⟩ := bcell hb7; have hz7 := hb7.size; (try simp at hz7)
    clear hS
    go_wp2_with (fail)
    refine (merge_any A1 _ cp1 ra A1 _ cp1 ra w7 ((HR1.out.below (by repeat (first | with_reducible refine Below.setCell ?_ (by first | (simp; done) | (simp; omega) | omega) _ | with_reducible refine Below.alloc ?_ (by first | (simp; done) | (simp; omega) | omega) _ | with_reducible refine Below.drew ?_ | with_reducible refine below_drewN ?_ _ | with_reducible exact Below.refl _ _ | with_reducible refine Below.trans ?_ (Below.mono hb1 (by first | (simp; done) | (simp; omega) | omega)) | with_reducible refine Below.trans ?_ (Below.mono hb2 (by first | (simp; done) | (simp; omega) | omega)) | with_reducible refine Below.trans ?_ (Below.mono hb3 (by first | (simp; done) | (simp; omega) | omega)) | with_reducible refine Below.trans ?_ (Below.mono hb4 (by first | (simp; done) | (simp; omega) | omega)) | with_reducible refine Below.trans ?_ (Below.mono hb5 (by first | (simp; done) | (simp; omega) | omega)) | with_reducible refine Below.trans ?_ (Below.mono hb6 (by first | (simp; done) | (simp; omega) | omega)) | with_reducible refine Below.trans ?_ (Below.mono hb7 (by first | (simp; done) | (simp; omega) | omega))))).more (by first | (simp; done) | (simp; omega) | omega)) ((HR1.out.below (by repeat (first | with_reducible refine Below.setCell ?_ (by first | (simp; done) | (simp; omega) | omega) _ | with_reducible refine Below.alloc ?_ (by first | (simp; done) | (simp; omega) | omega) _ | with_reducible refine Below.drew ?_ | with_reducible refine below_drewN ?_ _ | with_reducible exact Below.refl _ _ | with_reducible refine Below.trans ?_ (Below.mono hb1 (by first | (simp; done) | (simp; omega) | omega)) | with_reducible refine Below.trans ?_ (Below.mono hb2 (by first | (simp; done) | (simp; omega) | omega)) | with_reducible refine Below.trans ?_ (Below.mono hb3 (by first | (simp; done) | (simp; omega) | omega)) | with_reducible refine Below.trans ?_ (Below.mono hb4 (by first | (simp; done) | (simp; omega) | omega)) | with_reducible refine Below.trans ?_ (Below.mono hb5 (by first | (simp; done) | (simp; omega) | omega)) | with_reducible refine Below.trans ?_ (Below.mono hb6 (by first | (simp; done) | (simp; omega) | omega)) | with_reducible refine Below.trans ?_ (Below.mono hb7 (by first | (simp; done) | (simp; omega) | omega))))).more (by first | (simp; done) | (simp; omega) | omega)) hg1.out hg1.out).mono ?_; rintro x w8 ⟨lv, rfl, hown8, hb8⟩
    obtain ⟨B8, d8, rfl, hr8⟩ := hown8.fit HAA.out
    have HQ8 := Lib.hid hr8
    have hz8 := hb8.size
    clear hown8 hr8
    go_wp2_with (fail)
    have hS := same_any B8 _ d8 (mergeR ra ra) A1 _ cp1 ra w8 ((HQ8.out.below (by repeat (first | with_reducible refine Below.setCell ?_ (by first | (simp; done) | (simp; omega) | omega) _ | with_reducible refine Below.alloc ?_ (by first | (simp; done) | (simp; omega) | omega) _ | with_reducible refine Below.drew ?_ | with_reducible refine below_drewN ?_ _ | with_reducible exact Below.refl _ _))).more (by first | (simp; done) | (simp; omega) | omega)) ((HR1.out.below (by repeat (first | with_reducible refine Below.setCell ?_ (by first | (simp; done) | (simp; omega) | omega) _ | with_reducible refine Below.alloc ?_ (by first | (simp; done) | (simp; omega) | omega) _ | with_reducible refine Below.drew ?_ | with_reducible refine below_drewN ?_ _ | with_reducible exact Below.refl _ _ | with_reducible refine Below.trans ?_ (Below.mono hb1 (by first | (simp; done) | (simp; omega) | omega)) | with_reducible refine Below.trans ?_ (Below.mono hb2 (by first | (simp; done) | (simp; omega) | omega)) | with_reducible refine Below.trans ?_ (Below.mono hb3 (by first | (simp; done) | (simp; omega) | omega)) | with_reducible refine Below.trans ?_ (Below.mono hb4 (by first | (simp; done) | (simp; omega) | omega)) | with_reducible refine Below.trans ?_ (Below.mono hb5 (by first | (simp; done) | (simp; omega) | omega)) | with_reducible refine Below.trans ?_ (Below.mono hb6 (by first | (simp; done) | (simp; omega) | omega)) | with_reducible refine Below.trans ?_ (Below.mono hb7 (by first | (simp; done) | (simp; omega) | omega)) | with_reducible refine Below.trans ?_ (Below.mono hb8 (by first | (simp; done) | (simp; omega) | omega))))).more (by first | (simp; done) | (simp; omega) | omega)) (fit_hm HAA.out) (fit_hm hg1.out)
    rw [sameB_eq E2.out] at hS
    refine (hS).mono ?_; rintro e w9 ⟨rfl, hb9⟩; obtain ⟨hc9, hf9⟩ := bcell hb9; have hz9 := hb9.size; (try simp at hz9)
    clear hS
    go_wp2_with (fail)
    refine (merge_any A1 _ cp1 ra A2 _ cp2 rb w9 ((HR1.out.below (by repeat (first | with_reducible refine Below.setCell ?_ (by first | (simp; done) | (simp; omega) | omega) _ | with_reducible refine Below.alloc ?_ (by first | (simp; done) | (simp; omega) | omega) _ | with_reducible refine Below.drew ?_ | with_reducible refine below_drewN ?_ _ | with_reducible exact Below.refl _ _ | with_reducible refine Below.trans ?_ (Below.mono hb1 (by first | (simp; done) | (simp; omega) | omega)) | with_reducible refine Below.trans ?_ (Below.mono hb2 (by first | (simp; done) | (simp; omega) | omega)) | with_reducible refine Below.trans ?_ (Below.mono hb3 (by first | (simp; done) | (simp; omega) | omega)) | with_reducible refine Below.trans ?_ (Below.mono hb4 (by first | (simp; done) | (simp; omega) | omega)) | with_reducible refine Below.trans ?_ (Below.mono hb5 (by first | (simp; done) | (simp; omega) | omega)) | with_reducible refine Below.trans ?_ (Below.mono hb6 (by first | (simp; done) | (simp; omega) | omega)) | with_reducible refine Below.trans ?_ (Below.mono hb7 (by first | (simp; done) | (simp; omega) | omega)) | with_reducible refine Below.trans ?_ (Below.mono hb8 (by first | (simp; done) | (simp; omega) | omega)) | with_reducible refine Below.trans ?_ (Below.mono hb9 (by first | (simp; done) | (simp; omega) | omega))))).more (by first | (simp; done) | (simp; omega) | omega)) ((HR2.out.below (by repeat (first | with_reducible refine Below.setCell ?_ (by first | (simp; done) | (simp; omega) | omega) _ | with_reducible refine Below.alloc ?_ (by first | (simp; done) | (simp; omega) | omega) _ | with_reducible refine Below.drew ?_ | with_reducible refine below_drewN ?_ _ | with_reducible exact Below.refl _ _ | with_reducible refine Below.trans ?_ (Below.mono hb1 (by first | (simp; done) | (simp; omega) | omega)) | with_reducible refine Below.trans ?_ (Below.mono hb2 (by first | (simp; done) | (simp; omega) | omega)) | with_reducible refine Below.trans ?_ (Below.mono hb3 (by first | (simp; done) | (simp; omega) | omega)) | with_reducible refine Below.trans ?_ (Below.mono hb4 (by first | (simp; done) | (simp; omega) | omega)) | with_reducible refine Below.trans ?_ (Below.mono hb5 (by first | (simp; done) | (simp; omega) | omega)) | with_reducible refine Below.trans ?_ (Below.mono hb6 (by first | (simp; done) | (simp; omega) | omega)) | with_reducible refine Below.trans ?_ (Below.mono hb7 (by first | (simp; done) | (simp; omega) | omega)) | with_reducible refine Below.trans ?_ (Below.mono hb8 (by first | (simp; done) | (simp; omega) | omega)) | with_reducible refine Below.trans ?_ (Below.mono hb9 (by first | (simp; done) | (simp; omega) | omega))))).more (by first | (simp; done) | (simp; omega) | omega)) hg1.out hg2.out).mono ?_; rintro x w10 ⟨lv, rfl, hown10, hb10⟩
    obtain ⟨B10, d10, rfl, hr10⟩ := hown10.fit HAB.out
    have HQ10 := Lib.hid hr10
    have hz10 := hb10.size
    clear hown10 hr10
    go_wp2_with (fail)
    refine (merge_any B10 _ d10 (mergeR ra rb) A3 _ cp3 rc w10 ((HQ10.out.below (by repeat (first | with_reducible refine Below.setCell ?_ (by first | (simp; done) | (simp; omega) | omega) _ | with_reducible refine Below.alloc ?_ (by first | (simp; done) | (simp; omega) | omega) _ | with_reducible refine Below.drew ?_ | with_reducible refine below_drewN ?_ _ | with_reducible exact Below.refl _ _))).more (by first | (simp; done) | (simp; omega) | omega)) ((HR3.out.below (by repeat (first | with_reducible refine Below.setCell ?_ (by first | (simp; done) | (simp; omega) | omega) _ | with_reducible refine Below.alloc ?_ (by first | (simp; done) | (simp; omega) | omega) _ | with_reducible refine Below.drew ?_ | with_reducible refine below_drewN ?_ _ | with_reducible exact Below.refl _ _ | with_reducible refine Below.trans ?_ (Below.mono hb1 (by first | (simp; done) | (simp; omega) | omega)) | with_reducible refine Below.trans ?_ (Below.mono hb2 (by first | (simp; done) | (simp; omega) | omega)) | with_reducible refine Below.trans ?_ (Below.mono hb3 (by first | (simp; done) | (simp; omega) | omega)) | with_reducible refine Below.trans ?_ (Below.mono hb4 (by first | (simp; done) | (simp; omega) | omega)) | with_reducible refine Below.trans ?_ (Below.mono hb5 (by first | (simp; done) | (simp; omega) | omega)) | with_reducible refine Below.trans ?_ (Below.mono hb6 (by first | (simp; done) | (simp; omega) | omega)) | with_reducible refine Below.trans ?_ (Below.mono hb7 (by first | (simp; done) | (simp; omega) | omega)) | with_reducible refine Below.trans ?_ (Below.mono hb8 (by first | (simp; done) | (simp; omega) | omega)) | with_reducible refine Below.trans ?_ (Below.mono hb9 (by first | (simp; done) | (simp; omega) | omega)) | with_reducible refine Below.trans ?_ (Below.mono hb10 (by first | (simp; done) | (simp; omega) | omega))))).more (by first | (simp; done) | (simp; omega) | omega)) HAB.out hg3.out).mono ?_; rintro x w11 ⟨lv, rfl, hown11, hb11⟩
    obtain ⟨B11, d11, rfl, hr11⟩ := hown11.fit HX1.out
    have HQ11 := Lib.hid hr11
    have hz11 := hb11.size
    clear hown11 hr11
    go_wp2_with (fail)
    refine (merge_any A2 _ cp2 rb A3 _ cp3 rc w11 ((HR2.out.below (by repeat (first | with_reducible refine Below.setCell ?_ (by first | (simp; done) | (simp; omega) | omega) _ | with_reducible refine Below.alloc ?_ (by first | (simp; done) | (simp; omega) | omega) _ | with_reducible refine Below.drew ?_ | with_reducible refine below_drewN ?_ _ | with_reducible exact Below.refl _ _ | with_reducible refine Below.trans ?_ (Below.mono hb1 (by first | (simp; done) | (simp; omega) | omega)) | with_reducible refine Below.trans ?_ (Below.mono hb2 (by first | (simp; done) | (simp; omega) | omega)) | with_reducible refine Below.trans ?_ (Below.mono hb3 (by first | (simp; done) | (simp; omega) | omega)) | with_reducible refine Below.trans ?_ (Below.mono hb4 (by first | (simp; done) | (simp; omega) | omega)) | with_reducible refine Below.trans ?_ (Below.mono hb5 (by first | (simp; done) | (simp; omega) | omega)) | with_reducible refine Below.trans ?_ (Below.mono hb6 (by first | (simp; done) | (simp; omega) | omega)) | with_reducible refine Below.trans ?_ (Below.mono hb7 (by first | (simp; done) | (simp; omega) | omega)) | with_reducible refine Below.trans ?_ (Below.mono hb8 (by first | (simp; done) | (simp; omega) | omega)) | with_reducible refine Below.trans ?_ (Below.mono hb9 (by first | (simp; done) | (simp; omega) | omega)) | with_reducible refine Below.trans ?_ (Below.mono hb10 (by first | (simp; done) | (simp; omega) | omega)) | with_reducible refine Below.trans ?_ (Below.mono hb11 (by first | (simp; done) | (simp; omega) | omega))))).more (by first | (simp; done) | (simp; omega) | omega)) ((HR3.out.below (by repeat (first | with_reducible refine Below.setCell ?_ (by first | (simp; done) | (simp; omega) | omega) _ | with_reducible refine Below.alloc ?_ (by first | (simp; done) | (simp; omega) | omega) _ | with_reducible refine Below.drew ?_ | with_reducible refine below_drewN ?_ _ | with_reducible exact Below.refl _ _ | with_reducible refine Below.trans ?_ (Below.mono hb1 (by first | (simp; done) | (simp; omega) | omega)) | with_reducible refine Below.trans ?_ (Below.mono hb2 (by first | (simp; done) | (simp; omega) | omega)) | with_reducible refine Below.trans ?_ (Below.mono hb3 (by first | (simp; done) | (simp; omega) | omega)) | with_reducible refine Below.trans ?_ (Below.mono hb4 (by first | (simp; done) | (simp; omega) | omega)) | with_reducible refine Below.trans ?_ (Below.mono hb5 (by first | (simp; done) | (simp; omega) | omega)) | with_reducible refine Below.trans ?_ (Below.mono hb6 (by first | (simp; done) | (simp; omega) | omega)) | with_reducible refine Below.trans ?_ (Below.mono hb7 (by first | (simp; done) | (simp; omega) | omega)) | with_reducible refine Below.trans ?_ (Below.mono hb8 (by first | (simp; done) | (simp; omega) | omega)) | with_reducible refine Below.trans ?_ (Below.mono hb9 (by first | (simp; done) | (simp; omega) | omega)) | with_reducible refine Below.trans ?_ (Below.mono hb10 (by first | (simp; done) | (simp; omega) | omega)) | with_reducible refine Below.trans ?_ (Below.mono hb11 (by first | (simp; done) | (simp; omega) | omega))))).more (by first | (simp; done) | (simp; omega) | omega)) hg2.out hg3.out).mono ?_; rintro x w12 ⟨lv, rfl, hown12, hb12⟩
    obtain ⟨B12, d12, rfl, hr12⟩ := hown12.fit HBC.out
    have HQ12 := Lib.hid hr12
    have hz12 := hb12.size
    clear hown12 hr12
    go_wp2_with (fail)
    refine (merge_any A1 _ cp1 ra B12 _ d12 (mergeR rb rc) w12 ((HR1.out.below (by repeat (first | with_reducible refine Below.setCell ?_ (by first | (simp; done) | (simp; omega) | omega) _ | with_reducible refine Below.alloc ?_ (by first | (simp; done) | (simp; omega) | omega) _ | with_reducible refine Below.drew ?_ | with_reducible refine below_drewN ?_ _ | with_reducible exact Below.refl _ _ | with_reducible refine Below.trans ?_ (Below.mono hb1 (by first | (simp; done) | (simp; omega) | omega)) | with_reducible refine Below.trans ?_ (Below.mono hb2 (by first | (simp; done) | (simp; omega) | omega)) | with_reducible refine Below.trans ?_ (Below.mono hb3 (by first | (simp; done) | (simp; omega) | omega)) | with_reducible refine Below.trans ?_ (Below.mono hb4 (by first | (simp; done) | (simp; omega) | omega)) | with_reducible refine Below.trans ?_ (Below.mono hb5 (by first | (simp; done) | (simp; omega) | omega)) | with_reducible refine Below.trans ?_ (Below.mono hb6 (by first | (simp; done) | (simp; omega) | omega)) | with_reducible refine Below.trans ?_ (Below.mono hb7 (by first | (simp; done) | (simp; omega) | omega)) | with_reducible refine Below.trans ?_ (Below.mono hb8 (by first | (simp; done) | (simp; omega) | omega)) | with_reducible refine Below.trans ?_ (Below.mono hb9 (by first | (simp; done) | (simp; omega) | omega)) | with_reducible refine Below.trans ?_ (Below.mono hb10 (by first | (simp; done) | (simp; omega) | omega)) | with_reducible refine Below.trans ?_ (Below.mono hb11 (by first | (simp; done) | (simp; omega) | omega)) | with_reducible refine Below.trans ?_ (Below.mono hb12 (by first | (simp; done) | (simp; omega) | omega))))).more (by first | (simp; done) | (simp; omega) | omega)) ((HQ12.out.below (by repeat (first | with_reducible refine Below.setCell ?_ (by first | (simp; done) | (simp; omega) | omega) _ | with_reducible refine Below.alloc ?_ (by first | (simp; done) | (simp; omega) | omega) _ | with_reducible refine Below.drew ?_ | with_reducible refine below_drewN ?_ _ | with_reducible exact Below.refl _ _))).more (by first | (simp; done) | (simp; omega) | omega)) hg1.out HBC.out).mono ?_; rintro x w13 ⟨lv, rfl, hown13, hb13⟩
    obtain ⟨B13, d13, rfl, hr13⟩ := hown13.fit HX2.out
    have HQ13 := Lib.hid hr13
    have hz13 := hb13.size
    clear hown13 hr13
    go_wp2_with (fail)
    have hS := same_any B11 _ d11 (mergeR (mergeR ra rb) rc) B13 _ d13 (mergeR ra (mergeR rb rc)) w13 ((HQ11.out.below (by repeat (first | with_reducible refine Below.setCell ?_ (by first | (simp; done) | (simp; omega) | omega) _ | with_reducible refine Below.alloc ?_ (by first | (simp; done) | (simp; omega) | omega) _ | with_reducible refine Below.drew ?_ | with_reducible refine below_drewN ?_ _ | with_reducible exact Below.refl _ _ | with_reducible refine Below.trans ?_ (Below.mono hb12 (by first | (simp; done) | (simp; omega) | omega)) | with_reducible refine Below.trans ?_ (Below.mono hb13 (by first | (simp; done) | (simp; omega) | omega))))).more (by first | (simp; done) | (simp; omega) | omega)) ((HQ13.out.below (by repeat (first | with_reducible refine Below.setCell ?_ (by first | (simp; done) | (simp; omega) | omega) _ | with_reducible refine Below.alloc ?_ (by first | (simp; done) | (simp; omega) | omega) _ | with_reducible refine Below.drew ?_ | with_reducible refine below_drewN ?_ _ | with_reducible exact Below.refl _ _))).more (by first | (simp; done) | (simp; omega) | omega)) (fit_hm HX1.out) (fit_hm HX2.out)
    rw [sameB_eq E3.out] at hS
    refine (hS).mono ?_; rintro e w14 ⟨rfl, hb14⟩; obtain ⟨hc14, hf14⟩ := bcell hb14; have hz14 := hb14.size; (try simp at hz14)
    clear hS
    go_wp2_with (fail)
    refine (awake_any _).mono ?_; rintro e w15 ⟨rfl, hb15⟩; obtain ⟨hc15, hf15⟩ := bcell hb15; have hz15 := hb15.size; (try simp at hz15)
    go_wp2
    go_ret
    exact ⟨rfl, (by repeat (first | with_reducible refine Below.setCell ?_ (by first | (simp; done) | (simp; omega) | omega) _ | with_reducible refine Below.alloc ?_ (by first | (simp; done) | (simp; omega) | omega) _ | with_reducible refine Below.drew ?_ | with_reducible refine below_drewN ?_ _ | with_reducible exact Below.refl _ _ | with_reducible refine Below.trans ?_ (Below.mono hb1 (by first | (simp; done) | (simp; omega) | omega)) | with_reducible refine Below.trans ?_ (Below.mono hb2 (by first | (simp; done) | (simp; omega) | omega)) | with_reducible refine Below.trans ?_ (Below.mono hb3 (by first | (simp; done) | (simp; omega) | omega)) | with_reducible refine Below.trans ?_ (Below.mono hb4 (by first | (simp; done) | (simp; omega) | omega)) | with_reducible refine Below.trans ?_ (Below.mono hb5 (by first | (simp; done) | (simp; omega) | omega)) | with_reducible refine Below.trans ?_ (Below.mono hb6 (by first | (simp; done) | (simp; omega) | omega)) | with_reducible refine Below.trans ?_ (Below.mono hb7 (by first | (simp; done) | (simp; omega) | omega)) | with_reducible refine Below.trans ?_ (Below.mono hb8 (by first | (simp; done) | (simp; omega) | omega)) | with_reducible refine Below.trans ?_ (Below.mono hb9 (by first | (simp; done) | (simp; omega) | omega)) | with_reducible refine Below.trans ?_ (Below.mono hb10 (by first | (simp; done) | (simp; omega) | omega)) | with_reducible refine Below.trans ?_ (Below.mono hb11 (by first | (simp; done) | (simp; omega) | omega)) | with_reducible refine Below.trans ?_ (Below.mono hb12 (by first | (simp; done) | (simp; omega) | omega)) | with_reducible refine Below.trans ?_ (Below.mono hb13 (by first | (simp; done) | (simp; omega) | omega)) | with_reducible refine Below.trans ?_ (Below.mono hb14 (by first | (simp; done) | (simp; omega) | omega)) | with_reducible refine Below.trans ?_ (Below.mono hb15 (by first | (simp; done) | (simp; omega) | omega))))⟩
theorem dirAgrees_any (A1 : Option Addr) (cp1 : Nat) (ra : List Ch) (A2 : Option Addr) (cp2 : Nat) (rb : List Ch) (A3 : Option Addr) (cp3 : Nat) (rc : List Ch) (w : World) (hr1 : ChsAt w w.heap.size A1 ra.length ra) (hr2 : ChsAt w w.heap.size A2 rb.length rb) (hr3 : ChsAt w w.heap.size A3 rc.length rc) (hm1 : ra.length * 56 ≤ 140737488351232) (hm2 : rb.length * 56 ≤ 140737488351232) (hm3 : rc.length * 56 ≤ 140737488351232) :
    Calls Try.prog 5 #[.slice A1 ra.length cp1, .slice A2 rb.length cp2, .slice A3 rc.length cp3] w fun x w' => x = .returned (.bool true) ∧ Below w.heap.size w w' := by
  cases h1 : fitsB ra with
  | false => exact agrees_n0 A1 cp1 ra A2 cp2 rb A3 cp3 rc w hr1 hr2 hr3 hm1 hm2 hm3 (Lib.hid h1)
  | true =>
    cases h2 : fitsB rb with
    | false => exact agrees_n1 A1 cp1 ra A2 cp2 rb A3 cp3 rc w hr1 hr2 hr3 hm1 hm2 hm3 (Lib.hid h1) (Lib.hid h2)
    | true =>
      cases h3 : fitsB rc with
      | false => exact agrees_n2 A1 cp1 ra A2 cp2 rb A3 cp3 rc w hr1 hr2 hr3 hm1 hm2 hm3 (Lib.hid h1) (Lib.hid h2) (Lib.hid h3)
      | true => exact agrees_main A1 cp1 ra A2 cp2 rb A3 cp3 rc w hr1 hr2 hr3 hm1 hm2 hm3 (Lib.hid h1) (Lib.hid h2) (Lib.hid h3)
theorem dirAgrees_at (A1 : Option Addr) (n1 cp1 : Nat) (ra : List Ch) (A2 : Option Addr) (n2 cp2 : Nat) (rb : List Ch) (A3 : Option Addr) (n3 cp3 : Nat) (rc : List Ch) (w : World) (hr1 : ChsAt w w.heap.size A1 n1 ra) (hr2 : ChsAt w w.heap.size A2 n2 rb) (hr3 : ChsAt w w.heap.size A3 n3 rc) (hm1 : n1 * 56 ≤ 140737488351232) (hm2 : n2 * 56 ≤ 140737488351232) (hm3 : n3 * 56 ≤ 140737488351232) :
    Calls Try.prog 5 #[.slice A1 n1 cp1, .slice A2 n2 cp2, .slice A3 n3 cp3] w fun x w' => x = .returned (.bool true) ∧ Below w.heap.size w w' := by
  obtain rfl := hr1.1
  obtain rfl := hr2.1
  obtain rfl := hr3.1
  exact dirAgrees_any A1 cp1 ra A2 cp2 rb A3 cp3 rc w hr1 hr2 hr3 hm1 hm2 hm3
theorem dirAgrees_lifted (os : Os) (started : os.Started) (H : Type) (enc : TypeId × Value → H) :
    ReturnsInHanded {} Try.checked os 5 .any (Rows.dirAgreesSpec.pre6 enc Try.prog Try.f5 Rows.dirAgreesRow.domain false) (Rows.dirAgreesSpec.post enc Try.prog Try.f5 false true false false) := by
  refine returnsInHanded_of_change_sized (C := Try.checked) own started (by kernel_rfl) Try.func5
    (ChangeSpec.witness6 (enc := enc) (C := Try.checked) false ⟨#[], #[.slice none 0 0, .slice none 0 0, .slice none 0 0], []⟩ 8 (by kernel_rfl) (by kernel_rfl) (by kernel_rfl) (by kernel_rfl)) ?_
  intro W base args ds gs before hval hW _ hsz _
  have hW' := hW
  obtain ⟨p, q, hA, hV, rfl, hfz, hnd⟩ := hW
  obtain ⟨rfl, rfl⟩ := trodVars_none hV
  rw [Try.params5] at hA hval
  obtain ⟨v0, vs0, d0, ds0, p0, q0, hargs, rfl, rfl, h0, r0⟩ := trodAll_cons hA
  obtain ⟨v1, vs1, d1, ds1, p1, q1, rfl, rfl, rfl, h1, r1⟩ := trodAll_cons r0
  obtain ⟨v2, vs2, d2, ds2, p2, q2, rfl, rfl, rfl, h2, r2⟩ := trodAll_cons r1
  obtain ⟨rfl, rfl, rfl⟩ := trodAll_nil r2
  obtain rfl : args = #[v0, v1, v2] := by cases args; simp_all
  obtain ⟨A1, n1, cp1, ra, rfl, _, hr1, hds1⟩ := open_chans (hval 0 _ v0 rfl rfl) h0
  obtain ⟨A2, n2, cp2, rb, rfl, _, hr2, hds2⟩ := open_chans (hval 1 _ v1 rfl rfl) h1
  obtain ⟨A3, n3, cp3, rc, rfl, _, hr3, hds3⟩ := open_chans (hval 2 _ v2 rfl rfl) h2
  refine (dirAgrees_at A1 n1 cp1 ra A2 n2 cp2 rb A3 n3 cp3 rc W hr1 hr2 hr3 (small_chans hsz (j := 0) rfl rfl hds1) (small_chans hsz (j := 1) rfl rfl hds2) (small_chans hsz (j := 2) rfl rfl hds3)).mono fun e W' ⟨he, hg⟩ => ?_
  subst he
  exact ⟨_, rfl, law_post laidOut rfl (by kernel_rfl) rfl Try.underlying4 rfl hW' hg⟩

theorem dirAgrees_holds : Rows.DirAgreesSaid :=
  OpenClaim.holds_of_wide 5 Try.f5 rfl rfl rfl rfl rfl rfl rfl ⟨rfl, rfl, rfl, rfl, rfl⟩ rfl rfl rfl rfl rfl (by kernel_rfl) Try.func5 (by kernel_rfl)
    (of_decide_eq_true (by kernel_rfl)) (by unfold Func.isWrapper; first | (rw [if_pos (by decide +kernel)]; kernel_rfl) | (rw [if_neg (by decide +kernel)]; exact ⟨rfl, rfl⟩))
    (fun os started H enc _ => dirAgrees_lifted os started H enc)

end Go.Proofs.Ytblaccmphofbcaa
