/- Whatever the list, the record, the maker, the name, the kind and the scale: eddylaw17's DirRises returns true. No conditions. -/
import Derived.Test.YtblaccmphofbcaaDirX
import Derived.Test.YtblaccmphofbcaaDirU
import Derived.Test.YtblaccmphofbcaaDirT
import Derived.Test.YtblaccmphofbcaaDirO
import Derived.ChangeMaps5
namespace Go.Proofs.Ytblaccmphofbcaa
open Go.ChangeShapes Go.WideShapes Go.ChangeAt Go.RowKit Go.Joins Go.ChangeMaps
set_option linter.unusedVariables false
theorem fit_hm {ls : List Ch} (h : fitsB ls = true) : ls.length * 56 ≤ 140737488351232 := by have := (fit_of_fits h).1; omega
theorem lists_new {W : World} {A1 A2 A3 : Option Addr} {c1 c2 c3 : Nat} {ra rb rc : List Ch} (h1 : ChsAt W W.heap.size A1 ra.length ra) (h2 : ChsAt W W.heap.size A2 rb.length rb) (h3 : ChsAt W W.heap.size A3 rc.length rc) (l1 : ra.length ≤ 8) (l2 : rb.length ≤ 8) (l3 : rc.length ≤ 8) :
    ListsAt (W.alloc (Obj.cells #[.slice A1 ra.length c1, .slice A2 rb.length c2, .slice A3 rc.length c3] 22)) ⟨W.heap.size, 0, none⟩ [ra, rb, rc] := by
  have hb : Below W.heap.size W (W.alloc (Obj.cells #[.slice A1 ra.length c1, .slice A2 rb.length c2, .slice A3 rc.length c3] 22)) := (Below.refl _ _).alloc (Nat.le_refl _) _
  have up : ∀ {A : Option Addr} {r : List Ch}, ChsAt W W.heap.size A r.length r → ChsAt (W.alloc (Obj.cells #[.slice A1 ra.length c1, .slice A2 rb.length c2, .slice A3 rc.length c3] 22)) (W.alloc (Obj.cells #[.slice A1 ra.length c1, .slice A2 rb.length c2, .slice A3 rc.length c3] 22)).heap.size A r.length r := fun h => (h.below hb).more hb.size
  intro i rs hi
  match i, hi with
  | 0, hi => obtain rfl : ra = rs := by simpa using hi
             exact ⟨A1, c1, by rw [Addr.add_lit]; simp, up h1, l1⟩
  | 1, hi => obtain rfl : rb = rs := by simpa using hi
             exact ⟨A2, c2, by rw [Addr.add_lit]; simp, up h2, l2⟩
  | 2, hi => obtain rfl : rc = rs := by simpa using hi
             exact ⟨A3, c3, by rw [Addr.add_lit]; simp, up h3, l3⟩
theorem ListsAt.below {w W : World} {ad : Addr} {LL : List (List Ch)} (h : ListsAt w ad LL) (hab : ad.block < w.heap.size) (hb : Below w.heap.size w W) : ListsAt W ad LL := by
  intro i rs hi
  obtain ⟨A, c, h1, h2, h3⟩ := h i rs hi
  exact ⟨A, c, (hb.cell (by rw [block_of_add]; exact hab)).trans h1, (h2.below hb).more hb.size, h3⟩
theorem path_cases {ls : List Ch} {mk : Int} {nm : ByteArray} {k sc : Int} (h : fitsB ls = true) :
    (creE ls nm k sc ≠ 0 ∧ delE ls nm ≠ 0) ∨
    (creE ls nm k sc = 0 ∧ delE ls nm ≠ 0 ∧ ∃ ep, findL (creL ls mk nm k sc) nm = some ⟨nm, ep, mk, true, k, sc⟩ ∧ (findL ls nm = none ∨ ∃ o, findL ls nm = some o ∧ o.al = false ∧ stampB ep mk o.ep o.who = true)) ∨
    (creE ls nm k sc ≠ 0 ∧ delE ls nm = 0 ∧ ∃ o, findL ls nm = some o ∧ o.al = true ∧ findL (delL ls mk nm) nm = some ⟨o.name, o.ep + 1, mk, false, o.kd, o.sc⟩ ∧ stampB (o.ep + 1) mk o.ep o.who = true) := by
  by_cases he : creE ls nm k sc = 0
  · refine .inr (.inl ⟨he, del_cre he, _, cre_find (m := mk) h he, ?_⟩)
    cases ho : findL ls nm with
    | none => exact .inl rfl
    | some o => exact .inr ⟨o, rfl, (cre_newer (m := mk) he ho).2, (by have h := (cre_newer (m := mk) he ho).1; unfold creC at h; rw [ho] at h; exact h)⟩
  · by_cases hd : delE ls nm = 0
    · obtain ⟨o, ho, _, _⟩ := delE_cases hd
      obtain ⟨h1, h2, h3⟩ := del_find (m := mk) h hd ho
      exact .inr (.inr ⟨he, hd, o, ho, h3, h1, h2⟩)
    · exact .inl ⟨he, hd⟩
set_option maxRecDepth 100000 in
set_option maxHeartbeats 32000000 in
theorem rises_n0 (A : Option Addr) (n cp : Nat) (ls : List Ch) (s : ByteArray) (e m : Int) (al : Bool) (k0 sc : Int) (mk : Int) (nm : ByteArray) (k1 sc1 : Int) (w : World) (hsz : s.size ≤ maxLen) (hr : ChsAt w w.heap.size A n ls) (hm : n * 56 ≤ 140737488351232) (hg1 : Hid (fitsB ls = false)) :
    Calls Try.prog 7 #[.slice A n cp, .agg #[.string s, .int .i64 e, .int .i64 m, .bool al, .int .i64 k0, .int .i64 sc], .int .i64 mk, .string nm, .int .i64 k1, .int .i64 sc1] w fun x w' => x = .returned (.bool true) ∧ Below w.heap.size w w' := by
  have HR := Lib.hid hr
  clear hr
  have hF := fun W (hb : Below w.heap.size w W) => rfits_any A n cp ls W ((HR.out.below hb).more hb.size) hm
  have hC := fun W (hb : Below w.heap.size w W) => rfit_any s e m al k0 sc hsz W
  simp only [hg1.out] at hF
  go_enter Try.func7, Try.ntmps7
  go_wp2_with (fail)
  refine (hF _ (by repeat (first | with_reducible refine Below.setCell ?_ (by first | (simp; done) | (simp; omega) | omega) _ | with_reducible refine Below.alloc ?_ (by first | (simp; done) | (simp; omega) | omega) _ | with_reducible refine Below.drew ?_ | with_reducible refine below_drewN ?_ _ | with_reducible exact Below.refl _ _))).mono ?_; rintro x w1 ⟨rfl, hbn⟩
  have hk : KeptC w [(⟨w.heap.size, 0, none⟩, .string s), (⟨w.heap.size, 1, none⟩, .int .i64 e), (⟨w.heap.size, 2, none⟩, .int .i64 m), (⟨w.heap.size, 3, none⟩, .bool al), (⟨w.heap.size, 4, none⟩, .int .i64 k0), (⟨w.heap.size, 5, none⟩, .int .i64 sc)] [] w1 := KeptC.below (by (repeat' (first | refine KeptC.cons ?_ ?_ | refine KeptC.consF ?_ ?_ ?_ | refine KeptC.mk0 ?_)); all_goals (first | with_reducible assumption | (go_simp; done) | (simp; omega) | exact (by repeat (first | with_reducible refine Below.setCell ?_ (by first | (simp; done) | (simp; omega) | omega) _ | with_reducible refine Below.alloc ?_ (by first | (simp; done) | (simp; omega) | omega) _ | with_reducible refine Below.drew ?_ | with_reducible refine below_drewN ?_ _ | with_reducible exact Below.refl _ _)))) hbn
  simp only [KeptC, List.forall_mem_cons] at hk; obtain ⟨kb1, ⟨kc1_0, kc1_1, kc1_2, kc1_3, kc1_4, kc1_5, _⟩, _⟩ := hk
  have ks1 : w.heap.size ≤ w1.heap.size := kb1.size
  have kx1_w : w.heap.size < w1.heap.size := cell_lt kc1_0
  clear hbn
  go_wp2_with (fail)
  refine (awake_any _).mono ?_; rintro x w2 ⟨rfl, hbn⟩
  have hk : KeptC w [(⟨w.heap.size, 0, none⟩, .string s), (⟨w.heap.size, 1, none⟩, .int .i64 e), (⟨w.heap.size, 2, none⟩, .int .i64 m), (⟨w.heap.size, 3, none⟩, .bool al), (⟨w.heap.size, 4, none⟩, .int .i64 k0), (⟨w.heap.size, 5, none⟩, .int .i64 sc)] [] w2 := KeptC.below (by (repeat' (first | refine KeptC.cons ?_ ?_ | refine KeptC.consF ?_ ?_ ?_ | refine KeptC.mk0 ?_)); all_goals (first | with_reducible assumption | (go_simp; done) | (simp; omega) | exact (by repeat (first | with_reducible refine Below.setCell ?_ (by first | (simp; done) | (simp; omega) | omega) _ | with_reducible refine Below.alloc ?_ (by first | (simp; done) | (simp; omega) | omega) _ | with_reducible refine Below.drew ?_ | with_reducible refine below_drewN ?_ _ | with_reducible exact Below.refl _ _ | with_reducible refine Below.trans ?_ (Below.mono kb1 (by first | (simp; done) | (simp; omega) | omega)))))) hbn
  simp only [KeptC, List.forall_mem_cons] at hk; obtain ⟨kb2, ⟨kc2_0, kc2_1, kc2_2, kc2_3, kc2_4, kc2_5, _⟩, _⟩ := hk
  have ks2 : w.heap.size ≤ w2.heap.size := kb2.size
  have kx2_w : w.heap.size < w2.heap.size := cell_lt kc2_0
  clear hbn kb1 kc1_0 kc1_1 kc1_2 kc1_3 kc1_4 kc1_5 kx1_w
  go_wp2
  go_ret
  exact ⟨rfl, kb2⟩
set_option maxRecDepth 100000 in
set_option maxHeartbeats 32000000 in
theorem rises_n1 (A : Option Addr) (n cp : Nat) (ls : List Ch) (s : ByteArray) (e m : Int) (al : Bool) (k0 sc : Int) (mk : Int) (nm : ByteArray) (k1 sc1 : Int) (w : World) (hsz : s.size ≤ maxLen) (hr : ChsAt w w.heap.size A n ls) (hm : n * 56 ≤ 140737488351232) (hg1 : Hid (fitsB ls = true)) (hg2 : Hid (chFit s e m k0 sc = false)) :
    Calls Try.prog 7 #[.slice A n cp, .agg #[.string s, .int .i64 e, .int .i64 m, .bool al, .int .i64 k0, .int .i64 sc], .int .i64 mk, .string nm, .int .i64 k1, .int .i64 sc1] w fun x w' => x = .returned (.bool true) ∧ Below w.heap.size w w' := by
  have HR := Lib.hid hr
  clear hr
  have hF := fun W (hb : Below w.heap.size w W) => rfits_any A n cp ls W ((HR.out.below hb).more hb.size) hm
  have hC := fun W (hb : Below w.heap.size w W) => rfit_any s e m al k0 sc hsz W
  simp only [hg1.out] at hF
  simp only [hg2.out] at hC
  go_enter Try.func7, Try.ntmps7
  go_wp2_with (fail)
  refine (hF _ (by repeat (first | with_reducible refine Below.setCell ?_ (by first | (simp; done) | (simp; omega) | omega) _ | with_reducible refine Below.alloc ?_ (by first | (simp; done) | (simp; omega) | omega) _ | with_reducible refine Below.drew ?_ | with_reducible refine below_drewN ?_ _ | with_reducible exact Below.refl _ _))).mono ?_; rintro x w1 ⟨rfl, hbn⟩
  have hk : KeptC w [(⟨w.heap.size, 0, none⟩, .string s), (⟨w.heap.size, 1, none⟩, .int .i64 e), (⟨w.heap.size, 2, none⟩, .int .i64 m), (⟨w.heap.size, 3, none⟩, .bool al), (⟨w.heap.size, 4, none⟩, .int .i64 k0), (⟨w.heap.size, 5, none⟩, .int .i64 sc)] [] w1 := KeptC.below (by (repeat' (first | refine KeptC.cons ?_ ?_ | refine KeptC.consF ?_ ?_ ?_ | refine KeptC.mk0 ?_)); all_goals (first | with_reducible assumption | (go_simp; done) | (simp; omega) | exact (by repeat (first | with_reducible refine Below.setCell ?_ (by first | (simp; done) | (simp; omega) | omega) _ | with_reducible refine Below.alloc ?_ (by first | (simp; done) | (simp; omega) | omega) _ | with_reducible refine Below.drew ?_ | with_reducible refine below_drewN ?_ _ | with_reducible exact Below.refl _ _)))) hbn
  simp only [KeptC, List.forall_mem_cons] at hk; obtain ⟨kb1, ⟨kc1_0, kc1_1, kc1_2, kc1_3, kc1_4, kc1_5, _⟩, _⟩ := hk
  have ks1 : w.heap.size ≤ w1.heap.size := kb1.size
  have kx1_w : w.heap.size < w1.heap.size := cell_lt kc1_0
  clear hbn
  go_wp2_with (fail)
  refine (hC _ (by repeat (first | with_reducible refine Below.setCell ?_ (by first | (simp; done) | (simp; omega) | omega) _ | with_reducible refine Below.alloc ?_ (by first | (simp; done) | (simp; omega) | omega) _ | with_reducible refine Below.drew ?_ | with_reducible refine below_drewN ?_ _ | with_reducible exact Below.refl _ _ | with_reducible refine Below.trans ?_ (Below.mono kb1 (by first | (simp; done) | (simp; omega) | omega))))).mono ?_; rintro x w2 ⟨rfl, hbn⟩
  have hk : KeptC w [(⟨w.heap.size, 0, none⟩, .string s), (⟨w.heap.size, 1, none⟩, .int .i64 e), (⟨w.heap.size, 2, none⟩, .int .i64 m), (⟨w.heap.size, 3, none⟩, .bool al), (⟨w.heap.size, 4, none⟩, .int .i64 k0), (⟨w.heap.size, 5, none⟩, .int .i64 sc)] [] w2 := KeptC.below (by (repeat' (first | refine KeptC.cons ?_ ?_ | refine KeptC.consF ?_ ?_ ?_ | refine KeptC.mk0 ?_)); all_goals (first | with_reducible assumption | (go_simp; done) | (simp; omega) | exact (by repeat (first | with_reducible refine Below.setCell ?_ (by first | (simp; done) | (simp; omega) | omega) _ | with_reducible refine Below.alloc ?_ (by first | (simp; done) | (simp; omega) | omega) _ | with_reducible refine Below.drew ?_ | with_reducible refine below_drewN ?_ _ | with_reducible exact Below.refl _ _ | with_reducible refine Below.trans ?_ (Below.mono kb1 (by first | (simp; done) | (simp; omega) | omega)))))) hbn
  simp only [KeptC, List.forall_mem_cons] at hk; obtain ⟨kb2, ⟨kc2_0, kc2_1, kc2_2, kc2_3, kc2_4, kc2_5, _⟩, _⟩ := hk
  have ks2 : w.heap.size ≤ w2.heap.size := kb2.size
  have kx2_w : w.heap.size < w2.heap.size := cell_lt kc2_0
  clear hbn kb1 kc1_0 kc1_1 kc1_2 kc1_3 kc1_4 kc1_5 kx1_w
  go_wp2_with (fail)
  refine (awake_any _).mono ?_; rintro x w3 ⟨rfl, hbn⟩
  have hk : KeptC w [(⟨w.heap.size, 0, none⟩, .string s), (⟨w.heap.size, 1, none⟩, .int .i64 e), (⟨w.heap.size, 2, none⟩, .int .i64 m), (⟨w.heap.size, 3, none⟩, .bool al), (⟨w.heap.size, 4, none⟩, .int .i64 k0), (⟨w.heap.size, 5, none⟩, .int .i64 sc)] [] w3 := KeptC.below (by (repeat' (first | refine KeptC.cons ?_ ?_ | refine KeptC.consF ?_ ?_ ?_ | refine KeptC.mk0 ?_)); all_goals (first | with_reducible assumption | (go_simp; done) | (simp; omega) | exact (by repeat (first | with_reducible refine Below.setCell ?_ (by first | (simp; done) | (simp; omega) | omega) _ | with_reducible refine Below.alloc ?_ (by first | (simp; done) | (simp; omega) | omega) _ | with_reducible refine Below.drew ?_ | with_reducible refine below_drewN ?_ _ | with_reducible exact Below.refl _ _ | with_reducible refine Below.trans ?_ (Below.mono kb2 (by first | (simp; done) | (simp; omega) | omega)))))) hbn
  simp only [KeptC, List.forall_mem_cons] at hk; obtain ⟨kb3, ⟨kc3_0, kc3_1, kc3_2, kc3_3, kc3_4, kc3_5, _⟩, _⟩ := hk
  have ks3 : w.heap.size ≤ w3.heap.size := kb3.size
  have kx3_w : w.heap.size < w3.heap.size := cell_lt kc3_0
  clear hbn kb2 kc2_0 kc2_1 kc2_2 kc2_3 kc2_4 kc2_5 kx2_w
  go_wp2
  go_ret
  exact ⟨rfl, kb3⟩
set_option maxRecDepth 100000 in
set_option maxHeartbeats 32000000 in
theorem rises_n2 (A : Option Addr) (n cp : Nat) (ls : List Ch) (s : ByteArray) (e m : Int) (al : Bool) (k0 sc : Int) (mk : Int) (nm : ByteArray) (k1 sc1 : Int) (w : World) (hsz : s.size ≤ maxLen) (hr : ChsAt w w.heap.size A n ls) (hm : n * 56 ≤ 140737488351232) (hg1 : Hid (fitsB ls = true)) (hg2 : Hid (chFit s e m k0 sc = true)) (h0 : mk < 0) :
    Calls Try.prog 7 #[.slice A n cp, .agg #[.string s, .int .i64 e, .int .i64 m, .bool al, .int .i64 k0, .int .i64 sc], .int .i64 mk, .string nm, .int .i64 k1, .int .i64 sc1] w fun x w' => x = .returned (.bool true) ∧ Below w.heap.size w w' := by
  have HR := Lib.hid hr
  clear hr
  have hF := fun W (hb : Below w.heap.size w W) => rfits_any A n cp ls W ((HR.out.below hb).more hb.size) hm
  have hC := fun W (hb : Below w.heap.size w W) => rfit_any s e m al k0 sc hsz W
  simp only [hg1.out] at hF
  simp only [hg2.out] at hC
  go_enter Try.func7, Try.ntmps7
  go_wp2_with (fail)
  refine (hF _ (by repeat (first | with_reducible refine Below.setCell ?_ (by first | (simp; done) | (simp; omega) | omega) _ | with_reducible refine Below.alloc ?_ (by first | (simp; done) | (simp; omega) | omega) _ | with_reducible refine Below.drew ?_ | with_reducible refine below_drewN ?_ _ | with_reducible exact Below.refl _ _))).mono ?_; rintro x w1 ⟨rfl, hbn⟩
  have hk : KeptC w [(⟨w.heap.size, 0, none⟩, .string s), (⟨w.heap.size, 1, none⟩, .int .i64 e), (⟨w.heap.size, 2, none⟩, .int .i64 m), (⟨w.heap.size, 3, none⟩, .bool al), (⟨w.heap.size, 4, none⟩, .int .i64 k0), (⟨w.heap.size, 5, none⟩, .int .i64 sc)] [] w1 := KeptC.below (by (repeat' (first | refine KeptC.cons ?_ ?_ | refine KeptC.consF ?_ ?_ ?_ | refine KeptC.mk0 ?_)); all_goals (first | with_reducible assumption | (go_simp; done) | (simp; omega) | exact (by repeat (first | with_reducible refine Below.setCell ?_ (by first | (simp; done) | (simp; omega) | omega) _ | with_reducible refine Below.alloc ?_ (by first | (simp; done) | (simp; omega) | omega) _ | with_reducible refine Below.drew ?_ | with_reducible refine below_drewN ?_ _ | with_reducible exact Below.refl _ _)))) hbn
  simp only [KeptC, List.forall_mem_cons] at hk; obtain ⟨kb1, ⟨kc1_0, kc1_1, kc1_2, kc1_3, kc1_4, kc1_5, _⟩, _⟩ := hk
  have ks1 : w.heap.size ≤ w1.heap.size := kb1.size
  have kx1_w : w.heap.size < w1.heap.size := cell_lt kc1_0
  clear hbn
  go_wp2_with (fail)
  refine (hC _ (by repeat (first | with_reducible refine Below.setCell ?_ (by first | (simp; done) | (simp; omega) | omega) _ | with_reducible refine Below.alloc ?_ (by first | (simp; done) | (simp; omega) | omega) _ | with_reducible refine Below.drew ?_ | with_reducible refine below_drewN ?_ _ | with_reducible exact Below.refl _ _ | with_reducible refine Below.trans ?_ (Below.mono kb1 (by first | (simp; done) | (simp; omega) | omega))))).mono ?_; rintro x w2 ⟨rfl, hbn⟩
  have hk : KeptC w [(⟨w.heap.size, 0, none⟩, .string s), (⟨w.heap.size, 1, none⟩, .int .i64 e), (⟨w.heap.size, 2, none⟩, .int .i64 m), (⟨w.heap.size, 3, none⟩, .bool al), (⟨w.heap.size, 4, none⟩, .int .i64 k0), (⟨w.heap.size, 5, none⟩, .int .i64 sc)] [] w2 := KeptC.below (by (repeat' (first | refine KeptC.cons ?_ ?_ | refine KeptC.consF ?_ ?_ ?_ | refine KeptC.mk0 ?_)); all_goals (first | with_reducible assumption | (go_simp; done) | (simp; omega) | exact (by repeat (first | with_reducible refine Below.setCell ?_ (by first | (simp; done) | (simp; omega) | omega) _ | with_reducible refine Below.alloc ?_ (by first | (simp; done) | (simp; omega) | omega) _ | with_reducible refine Below.drew ?_ | with_reducible refine below_drewN ?_ _ | with_reducible exact Below.refl _ _ | with_reducible refine Below.trans ?_ (Below.mono kb1 (by first | (simp; done) | (simp; omega) | omega)))))) hbn
  simp only [KeptC, List.forall_mem_cons] at hk; obtain ⟨kb2, ⟨kc2_0, kc2_1, kc2_2, kc2_3, kc2_4, kc2_5, _⟩, _⟩ := hk
  have ks2 : w.heap.size ≤ w2.heap.size := kb2.size
  have kx2_w : w.heap.size < w2.heap.size := cell_lt kc2_0
  clear hbn kb1 kc1_0 kc1_1 kc1_2 kc1_3 kc1_4 kc1_5 kx1_w
  go_wp2_with (fail)
  refine (awake_any _).mono ?_; rintro x w3 ⟨rfl, hbn⟩
  have hk : KeptC w [(⟨w.heap.size, 0, none⟩, .string s), (⟨w.heap.size, 1, none⟩, .int .i64 e), (⟨w.heap.size, 2, none⟩, .int .i64 m), (⟨w.heap.size, 3, none⟩, .bool al), (⟨w.heap.size, 4, none⟩, .int .i64 k0), (⟨w.heap.size, 5, none⟩, .int .i64 sc)] [] w3 := KeptC.below (by (repeat' (first | refine KeptC.cons ?_ ?_ | refine KeptC.consF ?_ ?_ ?_ | refine KeptC.mk0 ?_)); all_goals (first | with_reducible assumption | (go_simp; done) | (simp; omega) | exact (by repeat (first | with_reducible refine Below.setCell ?_ (by first | (simp; done) | (simp; omega) | omega) _ | with_reducible refine Below.alloc ?_ (by first | (simp; done) | (simp; omega) | omega) _ | with_reducible refine Below.drew ?_ | with_reducible refine below_drewN ?_ _ | with_reducible exact Below.refl _ _ | with_reducible refine Below.trans ?_ (Below.mono kb2 (by first | (simp; done) | (simp; omega) | omega)))))) hbn
  simp only [KeptC, List.forall_mem_cons] at hk; obtain ⟨kb3, ⟨kc3_0, kc3_1, kc3_2, kc3_3, kc3_4, kc3_5, _⟩, _⟩ := hk
  have ks3 : w.heap.size ≤ w3.heap.size := kb3.size
  have kx3_w : w.heap.size < w3.heap.size := cell_lt kc3_0
  clear hbn kb2 kc2_0 kc2_1 kc2_2 kc2_3 kc2_4 kc2_5 kx2_w
  go_wp2
  go_ret
  exact ⟨rfl, kb3⟩
set_option maxRecDepth 100000 in
set_option maxHeartbeats 32000000 in
theorem rises_n3 (A : Option Addr) (n cp : Nat) (ls : List Ch) (s : ByteArray) (e m : Int) (al : Bool) (k0 sc : Int) (mk : Int) (nm : ByteArray) (k1 sc1 : Int) (w : World) (hsz : s.size ≤ maxLen) (hr : ChsAt w w.heap.size A n ls) (hm : n * 56 ≤ 140737488351232) (hg1 : Hid (fitsB ls = true)) (hg2 : Hid (chFit s e m k0 sc = true)) (h0 : ¬ mk < 0) (h1 : 16 ≤ mk) :
    Calls Try.prog 7 #[.slice A n cp, .agg #[.string s, .int .i64 e, .int .i64 m, .bool al, .int .i64 k0, .int .i64 sc], .int .i64 mk, .string nm, .int .i64 k1, .int .i64 sc1] w fun x w' => x = .returned (.bool true) ∧ Below w.heap.size w w' := by
  have HR := Lib.hid hr
  clear hr
  have hF := fun W (hb : Below w.heap.size w W) => rfits_any A n cp ls W ((HR.out.below hb).more hb.size) hm
  have hC := fun W (hb : Below w.heap.size w W) => rfit_any s e m al k0 sc hsz W
  simp only [hg1.out] at hF
  simp only [hg2.out] at hC
  go_enter Try.func7, Try.ntmps7
  go_wp2_with (fail)
  refine (hF _ (by repeat (first | with_reducible refine Below.setCell ?_ (by first | (simp; done) | (simp; omega) | omega) _ | with_reducible refine Below.alloc ?_ (by first | (simp; done) | (simp; omega) | omega) _ | with_reducible refine Below.drew ?_ | with_reducible refine below_drewN ?_ _ | with_reducible exact Below.refl _ _))).mono ?_; rintro x w1 ⟨rfl, hbn⟩
  have hk : KeptC w [(⟨w.heap.size, 0, none⟩, .string s), (⟨w.heap.size, 1, none⟩, .int .i64 e), (⟨w.heap.size, 2, none⟩, .int .i64 m), (⟨w.heap.size, 3, none⟩, .bool al), (⟨w.heap.size, 4, none⟩, .int .i64 k0), (⟨w.heap.size, 5, none⟩, .int .i64 sc)] [] w1 := KeptC.below (by (repeat' (first | refine KeptC.cons ?_ ?_ | refine KeptC.consF ?_ ?_ ?_ | refine KeptC.mk0 ?_)); all_goals (first | with_reducible assumption | (go_simp; done) | (simp; omega) | exact (by repeat (first | with_reducible refine Below.setCell ?_ (by first | (simp; done) | (simp; omega) | omega) _ | with_reducible refine Below.alloc ?_ (by first | (simp; done) | (simp; omega) | omega) _ | with_reducible refine Below.drew ?_ | with_reducible refine below_drewN ?_ _ | with_reducible exact Below.refl _ _)))) hbn
  simp only [KeptC, List.forall_mem_cons] at hk; obtain ⟨kb1, ⟨kc1_0, kc1_1, kc1_2, kc1_3, kc1_4, kc1_5, _⟩, _⟩ := hk
  have ks1 : w.heap.size ≤ w1.heap.size := kb1.size
  have kx1_w : w.heap.size < w1.heap.size := cell_lt kc1_0
  clear hbn
  go_wp2_with (fail)
  refine (hC _ (by repeat (first | with_reducible refine Below.setCell ?_ (by first | (simp; done) | (simp; omega) | omega) _ | with_reducible refine Below.alloc ?_ (by first | (simp; done) | (simp; omega) | omega) _ | with_reducible refine Below.drew ?_ | with_reducible refine below_drewN ?_ _ | with_reducible exact Below.refl _ _ | with_reducible refine Below.trans ?_ (Below.mono kb1 (by first | (simp; done) | (simp; omega) | omega))))).mono ?_; rintro x w2 ⟨rfl, hbn⟩
  have hk : KeptC w [(⟨w.heap.size, 0, none⟩, .string s), (⟨w.heap.size, 1, none⟩, .int .i64 e), (⟨w.heap.size, 2, none⟩, .int .i64 m), (⟨w.heap.size, 3, none⟩, .bool al), (⟨w.heap.size, 4, none⟩, .int .i64 k0), (⟨w.heap.size, 5, none⟩, .int .i64 sc)] [] w2 := KeptC.below (by (repeat' (first | refine KeptC.cons ?_ ?_ | refine KeptC.consF ?_ ?_ ?_ | refine KeptC.mk0 ?_)); all_goals (first | with_reducible assumption | (go_simp; done) | (simp; omega) | exact (by repeat (first | with_reducible refine Below.setCell ?_ (by first | (simp; done) | (simp; omega) | omega) _ | with_reducible refine Below.alloc ?_ (by first | (simp; done) | (simp; omega) | omega) _ | with_reducible refine Below.drew ?_ | with_reducible refine below_drewN ?_ _ | with_reducible exact Below.refl _ _ | with_reducible refine Below.trans ?_ (Below.mono kb1 (by first | (simp; done) | (simp; omega) | omega)))))) hbn
  simp only [KeptC, List.forall_mem_cons] at hk; obtain ⟨kb2, ⟨kc2_0, kc2_1, kc2_2, kc2_3, kc2_4, kc2_5, _⟩, _⟩ := hk
  have ks2 : w.heap.size ≤ w2.heap.size := kb2.size
  have kx2_w : w.heap.size < w2.heap.size := cell_lt kc2_0
  clear hbn kb1 kc1_0 kc1_1 kc1_2 kc1_3 kc1_4 kc1_5 kx1_w
  go_wp2_with (fail)
  refine (awake_any _).mono ?_; rintro x w3 ⟨rfl, hbn⟩
  have hk : KeptC w [(⟨w.heap.size, 0, none⟩, .string s), (⟨w.heap.size, 1, none⟩, .int .i64 e), (⟨w.heap.size, 2, none⟩, .int .i64 m), (⟨w.heap.size, 3, none⟩, .bool al), (⟨w.heap.size, 4, none⟩, .int .i64 k0), (⟨w.heap.size, 5, none⟩, .int .i64 sc)] [] w3 := KeptC.below (by (repeat' (first | refine KeptC.cons ?_ ?_ | refine KeptC.consF ?_ ?_ ?_ | refine KeptC.mk0 ?_)); all_goals (first | with_reducible assumption | (go_simp; done) | (simp; omega) | exact (by repeat (first | with_reducible refine Below.setCell ?_ (by first | (simp; done) | (simp; omega) | omega) _ | with_reducible refine Below.alloc ?_ (by first | (simp; done) | (simp; omega) | omega) _ | with_reducible refine Below.drew ?_ | with_reducible refine below_drewN ?_ _ | with_reducible exact Below.refl _ _ | with_reducible refine Below.trans ?_ (Below.mono kb2 (by first | (simp; done) | (simp; omega) | omega)))))) hbn
  simp only [KeptC, List.forall_mem_cons] at hk; obtain ⟨kb3, ⟨kc3_0, kc3_1, kc3_2, kc3_3, kc3_4, kc3_5, _⟩, _⟩ := hk
  have ks3 : w.heap.size ≤ w3.heap.size := kb3.size
  have kx3_w : w.heap.size < w3.heap.size := cell_lt kc3_0
  clear hbn kb2 kc2_0 kc2_1 kc2_2 kc2_3 kc2_4 kc2_5 kx2_w
  go_wp2
  go_ret
  exact ⟨rfl, kb3⟩
set_option maxRecDepth 100000 in
set_option maxHeartbeats 32000000 in
theorem rises_main (A : Option Addr) (n cp : Nat) (ls : List Ch) (s : ByteArray) (e m : Int) (al : Bool) (k0 sc : Int) (mk : Int) (nm : ByteArray) (k1 sc1 : Int) (w : World) (hsz : s.size ≤ maxLen) (hr : ChsAt w w.heap.size A n ls) (hm : n * 56 ≤ 140737488351232) (hg1 : Hid (fitsB ls = true)) (hg2 : Hid (chFit s e m k0 sc = true)) (h0 : ¬ mk < 0) (h1 : ¬ 16 ≤ mk) :
    Calls Try.prog 7 #[.slice A n cp, .agg #[.string s, .int .i64 e, .int .i64 m, .bool al, .int .i64 k0, .int .i64 sc], .int .i64 mk, .string nm, .int .i64 k1, .int .i64 sc1] w fun x w' => x = .returned (.bool true) ∧ Below w.heap.size w w' := by
  have HR := Lib.hid hr
  clear hr
  have hF := fun W (hb : Below w.heap.size w W) => rfits_any A n cp ls W ((HR.out.below hb).more hb.size) hm
  have hC := fun W (hb : Below w.heap.size w W) => rfit_any s e m al k0 sc hsz W
  simp only [hg1.out] at hF
  simp only [hg2.out] at hC
  obtain rfl := HR.out.1
  have hX := rises_learn (c := ⟨s, e, m, al, k0, sc⟩) hg1.out hg2.out
  have hY := rises_cre (m := mk) (nm := nm) (k := k1) (sc := sc1) hg1.out (by omega) (by omega)
  have hZ := rises_del (m := mk) (nm := nm) hg1.out (by omega) (by omega)
  have hT := tail_cases (c := ⟨s, e, m, al, k0, sc⟩) hg1.out hg2.out
  have hP := path_cases (mk := mk) (nm := nm) (k := k1) (sc := sc1) hg1.out
  have c1 := fun W (hb : Below w.heap.size w W) => learn_any A _ cp ls s e m al k0 sc W ((HR.out.below hb).more hb.size) hm
  have c2 := fun W (hb : Below w.heap.size w W) => create_any A _ cp ls mk nm k1 sc1 W ((HR.out.below hb).more hb.size) hg1.out
  have c3 := fun W (hb : Below w.heap.size w W) => delete_any A _ cp ls mk nm W ((HR.out.below hb).more hb.size) hg1.out
  have c4 := fun W (hb : Below w.heap.size w W) => find_any A _ cp ls nm W ((HR.out.below hb).more hb.size) hm
  simp only [learnT_eq _ (srt_of_fits hg1.out)] at c1
  generalize learnR ls ⟨s, e, m, al, k0, sc⟩ = LW at *
  obtain ⟨X, wh⟩ := LW
  simp only [] at c1 hX hT
  generalize creL ls mk nm k1 sc1 = Y at *
  generalize delL ls mk nm = Z at *
  generalize creE ls nm k1 sc1 = ec at *
  generalize delE ls nm = ed at *
  generalize findL ls nm = fo at *
  have C1 := Lib.hid c1; have C2 := Lib.hid c2; have C3 := Lib.hid c3; have C4 := Lib.hid c4
  have HX := Lib.hid hX; have HY := Lib.hid hY; have HZ := Lib.hid hZ; have HT := Lib.hid hT; have HP := Lib.hid hP
  have hl8 := (fit_of_fits hg1.out).1
  have hX8 := (fit_of_fits hX.1).1
  have hY8 := (fit_of_fits hY.1).1
  have hZ8 := (fit_of_fits hZ.1).1
  clear c1 c2 c3 c4 hX hY hZ hT hP
  go_enter Try.func7, Try.ntmps7
  go_wp2_with (fail)
  refine (hF _ (by repeat (first | with_reducible refine Below.setCell ?_ (by first | (simp; done) | (simp; omega) | omega) _ | with_reducible refine Below.alloc ?_ (by first | (simp; done) | (simp; omega) | omega) _ | with_reducible refine Below.drew ?_ | with_reducible refine below_drewN ?_ _ | with_reducible exact Below.refl _ _))).mono ?_; rintro x w1 ⟨rfl, hbn⟩
  have hk : KeptC w [(⟨w.heap.size, 0, none⟩, .string s), (⟨w.heap.size, 1, none⟩, .int .i64 e), (⟨w.heap.size, 2, none⟩, .int .i64 m), (⟨w.heap.size, 3, none⟩, .bool al), (⟨w.heap.size, 4, none⟩, .int .i64 k0), (⟨w.heap.size, 5, none⟩, .int .i64 sc)] [] w1 := KeptC.below (by (repeat' (first | refine KeptC.cons ?_ ?_ | refine KeptC.consF ?_ ?_ ?_ | refine KeptC.mk0 ?_)); all_goals (first | with_reducible assumption | (go_simp; done) | (simp; omega) | exact (by repeat (first | with_reducible refine Below.setCell ?_ (by first | (simp; done) | (simp; omega) | omega) _ | with_reducible refine Below.alloc ?_ (by first | (simp; done) | (simp; omega) | omega) _ | with_reducible refine Below.drew ?_ | with_reducible refine below_drewN ?_ _ | with_reducible exact Below.refl _ _)))) hbn
  simp only [KeptC, List.forall_mem_cons] at hk; obtain ⟨kb1, ⟨kc1_0, kc1_1, kc1_2, kc1_3, kc1_4, kc1_5, _⟩, _⟩ := hk
  have ks1 : w.heap.size ≤ w1.heap.size := kb1.size
  have kx1_w : w.heap.size < w1.heap.size := cell_lt kc1_0
  clear hbn
  go_wp2_with (fail)
  refine (hC _ (by repeat (first | with_reducible refine Below.setCell ?_ (by first | (simp; done) | (simp; omega) | omega) _ | with_reducible refine Below.alloc ?_ (by first | (simp; done) | (simp; omega) | omega) _ | with_reducible refine Below.drew ?_ | with_reducible refine below_drewN ?_ _ | with_reducible exact Below.refl _ _ | with_reducible refine Below.trans ?_ (Below.mono kb1 (by first | (simp; done) | (simp; omega) | omega))))).mono ?_; rintro x w2 ⟨rfl, hbn⟩
  have hk : KeptC w [(⟨w.heap.size, 0, none⟩, .string s), (⟨w.heap.size, 1, none⟩, .int .i64 e), (⟨w.heap.size, 2, none⟩, .int .i64 m), (⟨w.heap.size, 3, none⟩, .bool al), (⟨w.heap.size, 4, none⟩, .int .i64 k0), (⟨w.heap.size, 5, none⟩, .int .i64 sc)] [] w2 := KeptC.below (by (repeat' (first | refine KeptC.cons ?_ ?_ | refine KeptC.consF ?_ ?_ ?_ | refine KeptC.mk0 ?_)); all_goals (first | with_reducible assumption | (go_simp; done) | (simp; omega) | exact (by repeat (first | with_reducible refine Below.setCell ?_ (by first | (simp; done) | (simp; omega) | omega) _ | with_reducible refine Below.alloc ?_ (by first | (simp; done) | (simp; omega) | omega) _ | with_reducible refine Below.drew ?_ | with_reducible refine below_drewN ?_ _ | with_reducible exact Below.refl _ _ | with_reducible refine Below.trans ?_ (Below.mono kb1 (by first | (simp; done) | (simp; omega) | omega)))))) hbn
  simp only [KeptC, List.forall_mem_cons] at hk; obtain ⟨kb2, ⟨kc2_0, kc2_1, kc2_2, kc2_3, kc2_4, kc2_5, _⟩, _⟩ := hk
  have ks2 : w.heap.size ≤ w2.heap.size := kb2.size
  have kx2_w : w.heap.size < w2.heap.size := cell_lt kc2_0
  clear hbn kb1 kc1_0 kc1_1 kc1_2 kc1_3 kc1_4 kc1_5 kx1_w
  clear hF hC
  go_wp2_with (fail)
  refine (C1.out _ (by repeat (first | with_reducible refine Below.setCell ?_ (by first | (simp; done) | (simp; omega) | omega) _ | with_reducible refine Below.alloc ?_ (by first | (simp; done) | (simp; omega) | omega) _ | with_reducible refine Below.drew ?_ | with_reducible refine below_drewN ?_ _ | with_reducible exact Below.refl _ _ | with_reducible refine Below.trans ?_ (Below.mono kb2 (by first | (simp; done) | (simp; omega) | omega))))).mono ?_; rintro x w3 ⟨lv, rfl, hown, hbn⟩
  have hk : KeptC w [(⟨w.heap.size, 0, none⟩, .string s), (⟨w.heap.size, 1, none⟩, .int .i64 e), (⟨w.heap.size, 2, none⟩, .int .i64 m), (⟨w.heap.size, 3, none⟩, .bool al), (⟨w.heap.size, 4, none⟩, .int .i64 k0), (⟨w.heap.size, 5, none⟩, .int .i64 sc)] [] w3 := KeptC.below (by (repeat' (first | refine KeptC.cons ?_ ?_ | refine KeptC.consF ?_ ?_ ?_ | refine KeptC.mk0 ?_)); all_goals (first | with_reducible assumption | (go_simp; done) | (simp; omega) | exact (by repeat (first | with_reducible refine Below.setCell ?_ (by first | (simp; done) | (simp; omega) | omega) _ | with_reducible refine Below.alloc ?_ (by first | (simp; done) | (simp; omega) | omega) _ | with_reducible refine Below.drew ?_ | with_reducible refine below_drewN ?_ _ | with_reducible exact Below.refl _ _ | with_reducible refine Below.trans ?_ (Below.mono kb2 (by first | (simp; done) | (simp; omega) | omega)))))) hbn
  simp only [KeptC, List.forall_mem_cons] at hk; obtain ⟨kb3, ⟨kc3_0, kc3_1, kc3_2, kc3_3, kc3_4, kc3_5, _⟩, _⟩ := hk
  have ks3 : w.heap.size ≤ w3.heap.size := kb3.size
  have kx3_w : w.heap.size < w3.heap.size := cell_lt kc3_0
  clear hbn kb2 kc2_0 kc2_1 kc2_2 kc2_3 kc2_4 kc2_5 kx2_w
  obtain ⟨B3, d3, rfl, hr3⟩ := hown.fit HX.out.1
  have HR3 := Lib.hid hr3
  clear hr3 hown
  have kB3_3 : Below w3.heap.size w3 w3 := Below.refl _ _
  go_wp2_with (fail)
  refine (C2.out _ (by repeat (first | with_reducible refine Below.setCell ?_ (by first | (simp; done) | (simp; omega) | omega) _ | with_reducible refine Below.alloc ?_ (by first | (simp; done) | (simp; omega) | omega) _ | with_reducible refine Below.drew ?_ | with_reducible refine below_drewN ?_ _ | with_reducible exact Below.refl _ _ | with_reducible refine Below.trans ?_ (Below.mono kb3 (by first | (simp; done) | (simp; omega) | omega))))).mono ?_; rintro x w4 ⟨lv, rfl, hown, hbn⟩
  have hk : KeptC w [(⟨w.heap.size, 0, none⟩, .string s), (⟨w.heap.size, 1, none⟩, .int .i64 e), (⟨w.heap.size, 2, none⟩, .int .i64 m), (⟨w.heap.size, 3, none⟩, .bool al), (⟨w.heap.size, 4, none⟩, .int .i64 k0), (⟨w.heap.size, 5, none⟩, .int .i64 sc)] [] w4 := KeptC.below (by (repeat' (first | refine KeptC.cons ?_ ?_ | refine KeptC.consF ?_ ?_ ?_ | refine KeptC.mk0 ?_)); all_goals (first | with_reducible assumption | (go_simp; done) | (simp; omega) | exact (by repeat (first | with_reducible refine Below.setCell ?_ (by first | (simp; done) | (simp; omega) | omega) _ | with_reducible refine Below.alloc ?_ (by first | (simp; done) | (simp; omega) | omega) _ | with_reducible refine Below.drew ?_ | with_reducible refine below_drewN ?_ _ | with_reducible exact Below.refl _ _ | with_reducible refine Below.trans ?_ (Below.mono kb3 (by first | (simp; done) | (simp; omega) | omega)))))) hbn
  simp only [KeptC, List.forall_mem_cons] at hk; obtain ⟨kb4, ⟨kc4_0, kc4_1, kc4_2, kc4_3, kc4_4, kc4_5, _⟩, _⟩ := hk
  have ks4 : w.heap.size ≤ w4.heap.size := kb4.size
  have kB3_4 : Below w3.heap.size w3 w4 := (by repeat (first | with_reducible refine Below.setCell ?_ (by first | (simp; done) | (simp; omega) | omega) _ | with_reducible refine Below.alloc ?_ (by first | (simp; done) | (simp; omega) | omega) _ | with_reducible refine Below.drew ?_ | with_reducible refine below_drewN ?_ _ | with_reducible exact Below.refl _ _ | with_reducible refine Below.trans ?_ (Below.mono kB3_3 (by first | (simp; done) | (simp; omega) | omega)) | with_reducible refine Below.trans ?_ (Below.mono hbn (by first | (simp; done) | (simp; omega) | omega))))
  have ks3_4 : w3.heap.size ≤ w4.heap.size := kB3_4.size
  have kx4_w : w.heap.size < w4.heap.size := cell_lt kc4_0
  clear hbn kb3 kc3_0 kc3_1 kc3_2 kc3_3 kc3_4 kc3_5 kx3_w kB3_3
  obtain ⟨B4, d4, rfl, hr4⟩ := hown.fit HY.out.1
  have HR4 := Lib.hid hr4
  clear hr4 hown
  have kB4_4 : Below w4.heap.size w4 w4 := Below.refl _ _
  go_wp2_with (fail)
  refine (C3.out _ (by repeat (first | with_reducible refine Below.setCell ?_ (by first | (simp; done) | (simp; omega) | omega) _ | with_reducible refine Below.alloc ?_ (by first | (simp; done) | (simp; omega) | omega) _ | with_reducible refine Below.drew ?_ | with_reducible refine below_drewN ?_ _ | with_reducible exact Below.refl _ _ | with_reducible refine Below.trans ?_ (Below.mono kb4 (by first | (simp; done) | (simp; omega) | omega))))).mono ?_; rintro x w5 ⟨lv, rfl, hown, hbn⟩
  have hk : KeptC w [(⟨w.heap.size, 0, none⟩, .string s), (⟨w.heap.size, 1, none⟩, .int .i64 e), (⟨w.heap.size, 2, none⟩, .int .i64 m), (⟨w.heap.size, 3, none⟩, .bool al), (⟨w.heap.size, 4, none⟩, .int .i64 k0), (⟨w.heap.size, 5, none⟩, .int .i64 sc)] [] w5 := KeptC.below (by (repeat' (first | refine KeptC.cons ?_ ?_ | refine KeptC.consF ?_ ?_ ?_ | refine KeptC.mk0 ?_)); all_goals (first | with_reducible assumption | (go_simp; done) | (simp; omega) | exact (by repeat (first | with_reducible refine Below.setCell ?_ (by first | (simp; done) | (simp; omega) | omega) _ | with_reducible refine Below.alloc ?_ (by first | (simp; done) | (simp; omega) | omega) _ | with_reducible refine Below.drew ?_ | with_reducible refine below_drewN ?_ _ | with_reducible exact Below.refl _ _ | with_reducible refine Below.trans ?_ (Below.mono kb4 (by first | (simp; done) | (simp; omega) | omega)))))) hbn
  simp only [KeptC, List.forall_mem_cons] at hk; obtain ⟨kb5, ⟨kc5_0, kc5_1, kc5_2, kc5_3, kc5_4, kc5_5, _⟩, _⟩ := hk
  have ks5 : w.heap.size ≤ w5.heap.size := kb5.size
  have kB3_5 : Below w3.heap.size w3 w5 := (by repeat (first | with_reducible refine Below.setCell ?_ (by first | (simp; done) | (simp; omega) | omega) _ | with_reducible refine Below.alloc ?_ (by first | (simp; done) | (simp; omega) | omega) _ | with_reducible refine Below.drew ?_ | with_reducible refine below_drewN ?_ _ | with_reducible exact Below.refl _ _ | with_reducible refine Below.trans ?_ (Below.mono kB3_4 (by first | (simp; done) | (simp; omega) | omega)) | with_reducible refine Below.trans ?_ (Below.mono hbn (by first | (simp; done) | (simp; omega) | omega))))
  have ks3_5 : w3.heap.size ≤ w5.heap.size := kB3_5.size
  have kB4_5 : Below w4.heap.size w4 w5 := (by repeat (first | with_reducible refine Below.setCell ?_ (by first | (simp; done) | (simp; omega) | omega) _ | with_reducible refine Below.alloc ?_ (by first | (simp; done) | (simp; omega) | omega) _ | with_reducible refine Below.drew ?_ | with_reducible refine below_drewN ?_ _ | with_reducible exact Below.refl _ _ | with_reducible refine Below.trans ?_ (Below.mono kB4_4 (by first | (simp; done) | (simp; omega) | omega)) | with_reducible refine Below.trans ?_ (Below.mono hbn (by first | (simp; done) | (simp; omega) | omega))))
  have ks4_5 : w4.heap.size ≤ w5.heap.size := kB4_5.size
  have kx5_w : w.heap.size < w5.heap.size := cell_lt kc5_0
  clear hbn kb4 kc4_0 kc4_1 kc4_2 kc4_3 kc4_4 kc4_5 kB3_4 kx4_w kB4_4
  obtain ⟨B5, d5, rfl, hr5⟩ := hown.fit HZ.out.1
  have HR5 := Lib.hid hr5
  clear hr5 hown
  have kB5_5 : Below w5.heap.size w5 w5 := Below.refl _ _
  go_wp2_with (fail)
  have hls : ListsAt (w5.alloc (Obj.cells #[.slice B3 X.length d3, .slice B4 Y.length d4, .slice B5 Z.length d5] 22)) ⟨w5.heap.size, 0, none⟩ [X, Y, Z] := lists_new ((HR3.out.below kB3_5).more kB3_5.size) ((HR4.out.below kB4_5).more kB4_5.size) HR5.out hX8 hY8 hZ8
  have HLS := Lib.hid hls
  clear hls
  go_loopw [77] (fun i w' => ∃ (k : Nat), k ≤ 3 ∧ i = .int .i64 k ∧ Hid (ListsAt w' ⟨w5.heap.size, 0, none⟩ [X, Y, Z]) ∧ Below w5.heap.size w5 w' ∧ w5.heap.size < w'.heap.size ∧ KeptC w [(⟨w.heap.size, 0, none⟩, .string s), (⟨w.heap.size, 1, none⟩, .int .i64 e), (⟨w.heap.size, 2, none⟩, .int .i64 m), (⟨w.heap.size, 3, none⟩, .bool al), (⟨w.heap.size, 4, none⟩, .int .i64 k0), (⟨w.heap.size, 5, none⟩, .int .i64 sc)] [] w') (fun i _ => 3 - (intOf i).toNat)
  case atStart => exact ⟨0, by omega, rfl, HLS, (by repeat (first | with_reducible refine Below.setCell ?_ (by first | (simp; done) | (simp; omega) | omega) _ | with_reducible refine Below.alloc ?_ (by first | (simp; done) | (simp; omega) | omega) _ | with_reducible refine Below.drew ?_ | with_reducible refine below_drewN ?_ _ | with_reducible exact Below.refl _ _)), by simp, (by (repeat' (first | refine KeptC.cons ?_ ?_ | refine KeptC.consF ?_ ?_ ?_ | refine KeptC.mk0 ?_)); all_goals (first | with_reducible assumption | (go_simp; done) | (simp; omega) | exact (by repeat (first | with_reducible refine Below.setCell ?_ (by first | (simp; done) | (simp; omega) | omega) _ | with_reducible refine Below.alloc ?_ (by first | (simp; done) | (simp; omega) | omega) _ | with_reducible refine Below.drew ?_ | with_reducible refine below_drewN ?_ _ | with_reducible exact Below.refl _ _ | with_reducible refine Below.trans ?_ (Below.mono kb5 (by first | (simp; done) | (simp; omega) | omega))))))⟩
  case round =>
    obtain ⟨k, hk, rfl, HLr, kB5_r, hszr, hK⟩ := hrel
    have kB3_r : Below w3.heap.size w3 wr := kB3_5.trans (kB5_r.mono ks3_5)
    have kB4_r : Below w4.heap.size w4 wr := kB4_5.trans (kB5_r.mono ks4_5)
    clear HLS kb5 kc5_0 kc5_1 kc5_2 kc5_3 kc5_4 kc5_5 kB3_5 kB4_5 kx5_w kB5_5
    simp only [KeptC, List.forall_mem_cons] at hK; obtain ⟨kbr, ⟨kcr_0, kcr_1, kcr_2, kcr_3, kcr_4, kcr_5, _⟩, _⟩ := hK
    have ksr : w.heap.size ≤ wr.heap.size := kbr.size
    have ks3_r : w3.heap.size ≤ wr.heap.size := kB3_r.size
    have ks4_r : w4.heap.size ≤ wr.heap.size := kB4_r.size
    have ks5_r : w5.heap.size ≤ wr.heap.size := kB5_r.size
    have kxr_w : w.heap.size < wr.heap.size := cell_lt kcr_0
    by_cases hlt : k < 3
    · obtain ⟨ms, hms⟩ : ∃ ms, [X, Y, Z][k]? = some ms := ⟨_, List.getElem?_eq_getElem (by simpa using hlt)⟩
      have hrise : risesOk ls ms := by
        match k, hlt, hms with
        | 0, _, h => obtain rfl : X = ms := by simpa using h
                     exact HX.out
        | 1, _, h => obtain rfl : Y = ms := by simpa using h
                     exact HY.out
        | 2, _, h => obtain rfl : Z = ms := by simpa using h
                     exact HZ.out
      obtain ⟨A2, c2, hcell, hch, h8⟩ := HLr.out k ms hms
      simp only [Addr.add_lit, Nat.zero_add] at hcell
      clear hms
      have hfl := hrise.1
      have HRI := Lib.hid hrise.2
      clear hrise
      generalize ms.length = n2 at *
      have hm2 : n2 * 56 ≤ 140737488351232 := by omega
      have hF2 := fits_any A2 n2 c2 ms wr hch hm2
      rw [hfl] at hF2
      have HCH := Lib.hid hch
      clear hch hfl
      go_wp2_with (fail)
      refine (hF2).mono ?_; rintro x w6 ⟨rfl, hbn⟩
      have hk6 : KeptC w [(⟨w.heap.size, 0, none⟩, .string s), (⟨w.heap.size, 1, none⟩, .int .i64 e), (⟨w.heap.size, 2, none⟩, .int .i64 m), (⟨w.heap.size, 3, none⟩, .bool al), (⟨w.heap.size, 4, none⟩, .int .i64 k0), (⟨w.heap.size, 5, none⟩, .int .i64 sc)] [] w6 := KeptC.below (by (repeat' (first | refine KeptC.cons ?_ ?_ | refine KeptC.consF ?_ ?_ ?_ | refine KeptC.mk0 ?_)); all_goals (first | with_reducible assumption | (go_simp; done) | (simp; omega) | exact (by repeat (first | with_reducible refine Below.setCell ?_ (by first | (simp; done) | (simp; omega) | omega) _ | with_reducible refine Below.alloc ?_ (by first | (simp; done) | (simp; omega) | omega) _ | with_reducible refine Below.drew ?_ | with_reducible refine below_drewN ?_ _ | with_reducible exact Below.refl _ _ | with_reducible refine Below.trans ?_ (Below.mono kbr (by first | (simp; done) | (simp; omega) | omega)))))) hbn
      have HM := Lib.hid ((HCH.out.below hbn).more hbn.size)
      have HL6 := Lib.hid (HLr.out.below hszr hbn)
      have kB5_6 : Below w5.heap.size w5 w6 := (by repeat (first | with_reducible refine Below.setCell ?_ (by first | (simp; done) | (simp; omega) | omega) _ | with_reducible refine Below.alloc ?_ (by first | (simp; done) | (simp; omega) | omega) _ | with_reducible refine Below.drew ?_ | with_reducible refine below_drewN ?_ _ | with_reducible exact Below.refl _ _ | with_reducible refine Below.trans ?_ (Below.mono kB5_r (by first | (simp; done) | (simp; omega) | omega)) | with_reducible refine Below.trans ?_ (Below.mono hbn (by first | (simp; done) | (simp; omega) | omega))))
      have hsz6 : w5.heap.size < w6.heap.size := by have := hbn.size; omega
      have HK6 := Lib.hid hk6
      have kb6 : Below w.heap.size w w6 := hk6.1
      clear hF2 hcell HCH HLr hbn kB3_r kB4_r kB5_r kbr kcr_0 kcr_1 kcr_2 kcr_3 kcr_4 kcr_5 hszr ksr ks3_r ks4_r ks5_r kxr_w hk6
      go_wp2
      go_loopw [86] (fun j w' => ∃ (q : Nat), q ≤ ls.length ∧ j = .int .i64 q ∧ Below w6.heap.size w6 w' ∧ KeptC w [] [] w') (fun j _ => ls.length - (intOf j).toNat)
      case atStart => exact ⟨0, Nat.zero_le _, rfl, Below.refl _ _, (by (repeat' (first | refine KeptC.cons ?_ ?_ | refine KeptC.consF ?_ ?_ ?_ | refine KeptC.mk0 ?_)); all_goals (first | with_reducible assumption | (go_simp; done) | (simp; omega) | exact (by repeat (first | with_reducible refine Below.setCell ?_ (by first | (simp; done) | (simp; omega) | omega) _ | with_reducible refine Below.alloc ?_ (by first | (simp; done) | (simp; omega) | omega) _ | with_reducible refine Below.drew ?_ | with_reducible refine below_drewN ?_ _ | with_reducible exact Below.refl _ _ | with_reducible refine Below.trans ?_ (Below.mono kb6 (by first | (simp; done) | (simp; omega) | omega))))))⟩
      case round =>
        obtain ⟨q, hq, rfl, kB6_r, hK2⟩ := hrel
        have kbr := hK2.1
        clear hK2 kb6
        have ks6r : w6.heap.size ≤ wr.heap.size := kB6_r.size
        have ksr : w.heap.size ≤ wr.heap.size := kbr.size
        by_cases hlt2 : q < ls.length
        rotate_left
        · obtain rfl : q = ls.length := by omega
          go_wp2
          go_roundw
          case rel => exact ⟨k + 1, by omega, by go_num, Lib.hid (HL6.out.below hsz6 kB6_r), kB5_6.trans (kB6_r.mono (by omega)), by omega, HK6.out.below kB6_r⟩
          case measure => simp [intOf]; omega
        · obtain ⟨ad, d, hA, hab, hx, hdz, hc6⟩ := HR.out.get hlt2
          subst hA
          obtain ⟨p, hp⟩ : ∃ p, ad.add (q * 6) = p := ⟨_, rfl⟩
          have hpb : p.block < w.heap.size := by rw [← hp, block_of_add]; exact hab
          rw [hp] at hc6
          have hpw : p.block < wr.heap.size := by omega
          obtain ⟨c0, c1, c2', c3', c4, c5⟩ := hc6.below hpb kbr
          obtain ⟨nd, hnd, hst⟩ := HRI.out d (List.mem_of_getElem? hx)
          obtain ⟨ds, de, dm, da, dk, dc⟩ := d
          obtain ⟨ns, ne, nw', na, nk, nc⟩ := nd
          simp only [] at c0 c1 c2' c3' c4 c5 hnd hst
          have hF3 := fun W h => find_any A2 n2 c2 ms ds W h hm2
          simp only [hnd, Option.getD_some, Option.isSome_some] at hF3
          have hN3 := fun W => newerC_any ds de dm da dk dc ns ne nw' na nk nc W
          simp only [hst] at hN3
          have HF3 := Lib.hid hF3; have HN3 := Lib.hid hN3
          clear hF3 hN3 hnd hst hx hdz hc6
          go_wp2_with (fail)
          refine (HF3.out _ ((HM.out.below (by repeat (first | with_reducible refine Below.setCell ?_ (by first | (simp; done) | (simp; omega) | omega) _ | with_reducible refine Below.alloc ?_ (by first | (simp; done) | (simp; omega) | omega) _ | with_reducible refine Below.drew ?_ | with_reducible refine below_drewN ?_ _ | with_reducible exact Below.refl _ _ | with_reducible refine Below.trans ?_ (Below.mono kB6_r (by first | (simp; done) | (simp; omega) | omega))))).more (by first | (simp; done) | (simp; omega) | omega))).mono ?_; rintro x w7 ⟨rfl, hbn⟩
          have hk7 : KeptC w [(⟨wr.heap.size, 0, none⟩, .string ds), (⟨wr.heap.size, 1, none⟩, .int .i64 de), (⟨wr.heap.size, 2, none⟩, .int .i64 dm), (⟨wr.heap.size, 3, none⟩, .bool da), (⟨wr.heap.size, 4, none⟩, .int .i64 dk), (⟨wr.heap.size, 5, none⟩, .int .i64 dc)] [] w7 := KeptC.below (by (repeat' (first | refine KeptC.cons ?_ ?_ | refine KeptC.consF ?_ ?_ ?_ | refine KeptC.mk0 ?_)); all_goals (first | with_reducible assumption | (go_simp; done) | (simp; omega) | exact (by repeat (first | with_reducible refine Below.setCell ?_ (by first | (simp; done) | (simp; omega) | omega) _ | with_reducible refine Below.alloc ?_ (by first | (simp; done) | (simp; omega) | omega) _ | with_reducible refine Below.drew ?_ | with_reducible refine below_drewN ?_ _ | with_reducible exact Below.refl _ _ | with_reducible refine Below.trans ?_ (Below.mono kbr (by first | (simp; done) | (simp; omega) | omega)))))) hbn
          have kB6_7 : Below w6.heap.size w6 w7 := (by repeat (first | with_reducible refine Below.setCell ?_ (by first | (simp; done) | (simp; omega) | omega) _ | with_reducible refine Below.alloc ?_ (by first | (simp; done) | (simp; omega) | omega) _ | with_reducible refine Below.drew ?_ | with_reducible refine below_drewN ?_ _ | with_reducible exact Below.refl _ _ | with_reducible refine Below.trans ?_ (Below.mono kB6_r (by first | (simp; done) | (simp; omega) | omega)) | with_reducible refine Below.trans ?_ (Below.mono hbn (by first | (simp; done) | (simp; omega) | omega))))
          simp only [KeptC, List.forall_mem_cons] at hk7; obtain ⟨kb7, ⟨kc7_0, kc7_1, kc7_2, kc7_3, kc7_4, kc7_5, _⟩, _⟩ := hk7
          have kx7 : wr.heap.size < w7.heap.size := cell_lt kc7_0
          have ks6_7 : w6.heap.size ≤ w7.heap.size := kB6_7.size
          clear hbn
          go_wp2_with (fail)
          refine (HN3.out _).mono ?_; rintro x w8 ⟨rfl, hbn⟩
          have kb8 : Below w.heap.size w w8 := (by repeat (first | with_reducible refine Below.setCell ?_ (by first | (simp; done) | (simp; omega) | omega) _ | with_reducible refine Below.alloc ?_ (by first | (simp; done) | (simp; omega) | omega) _ | with_reducible refine Below.drew ?_ | with_reducible refine below_drewN ?_ _ | with_reducible exact Below.refl _ _ | with_reducible refine Below.trans ?_ (Below.mono kb7 (by first | (simp; done) | (simp; omega) | omega)) | with_reducible refine Below.trans ?_ (Below.mono hbn (by first | (simp; done) | (simp; omega) | omega))))
          have kB6_8 : Below w6.heap.size w6 w8 := (by repeat (first | with_reducible refine Below.setCell ?_ (by first | (simp; done) | (simp; omega) | omega) _ | with_reducible refine Below.alloc ?_ (by first | (simp; done) | (simp; omega) | omega) _ | with_reducible refine Below.drew ?_ | with_reducible refine below_drewN ?_ _ | with_reducible exact Below.refl _ _ | with_reducible refine Below.trans ?_ (Below.mono kB6_7 (by first | (simp; done) | (simp; omega) | omega)) | with_reducible refine Below.trans ?_ (Below.mono hbn (by first | (simp; done) | (simp; omega) | omega))))
          clear hbn kb7 kB6_7
          go_wp2
          go_roundw
          case rel => exact ⟨q + 1, by omega, by go_num, kB6_8, (by (repeat' (first | refine KeptC.cons ?_ ?_ | refine KeptC.consF ?_ ?_ ?_ | refine KeptC.mk0 ?_)); all_goals (first | with_reducible assumption | (go_simp; done) | (simp; omega) | exact (by repeat (first | with_reducible refine Below.setCell ?_ (by first | (simp; done) | (simp; omega) | omega) _ | with_reducible refine Below.alloc ?_ (by first | (simp; done) | (simp; omega) | omega) _ | with_reducible refine Below.drew ?_ | with_reducible refine below_drewN ?_ _ | with_reducible exact Below.refl _ _ | with_reducible refine Below.trans ?_ (Below.mono kb8 (by first | (simp; done) | (simp; omega) | omega))))))⟩
          case measure => simp [intOf]; omega
    · obtain rfl : k = 3 := by omega
      clear HLr hszr
      rcases HP.out with ⟨he, hd⟩ | ⟨he, hd, ep, hfy, hold⟩ | ⟨he, hd, o, hfo, hoa, hfz, hst⟩
      · have heb : (ec == 0) = false := by simpa using he
        have hdb : (ed == 0) = false := by simpa using hd
        have hO := C4.out
        generalize fo.isSome = fb at hO
        generalize fo.getD Ch0 = fr at hO
        obtain ⟨os, oe, om, oa, ok, oc⟩ := fr
        simp only [] at hO
        go_wp2_with (fail)
        refine (hO _ (by repeat (first | with_reducible refine Below.setCell ?_ (by first | (simp; done) | (simp; omega) | omega) _ | with_reducible refine Below.alloc ?_ (by first | (simp; done) | (simp; omega) | omega) _ | with_reducible refine Below.drew ?_ | with_reducible refine below_drewN ?_ _ | with_reducible exact Below.refl _ _ | with_reducible refine Below.trans ?_ (Below.mono kbr (by first | (simp; done) | (simp; omega) | omega))))).mono ?_; rintro x w7 ⟨rfl, hbn⟩
        have hk : KeptC w [(⟨w.heap.size, 0, none⟩, .string s), (⟨w.heap.size, 1, none⟩, .int .i64 e), (⟨w.heap.size, 2, none⟩, .int .i64 m), (⟨w.heap.size, 3, none⟩, .bool al), (⟨w.heap.size, 4, none⟩, .int .i64 k0), (⟨w.heap.size, 5, none⟩, .int .i64 sc)] [] w7 := KeptC.below (by (repeat' (first | refine KeptC.cons ?_ ?_ | refine KeptC.consF ?_ ?_ ?_ | refine KeptC.mk0 ?_)); all_goals (first | with_reducible assumption | (go_simp; done) | (simp; omega) | exact (by repeat (first | with_reducible refine Below.setCell ?_ (by first | (simp; done) | (simp; omega) | omega) _ | with_reducible refine Below.alloc ?_ (by first | (simp; done) | (simp; omega) | omega) _ | with_reducible refine Below.drew ?_ | with_reducible refine below_drewN ?_ _ | with_reducible exact Below.refl _ _ | with_reducible refine Below.trans ?_ (Below.mono kbr (by first | (simp; done) | (simp; omega) | omega)))))) hbn
        simp only [KeptC, List.forall_mem_cons] at hk; obtain ⟨kb7, ⟨kc7_0, kc7_1, kc7_2, kc7_3, kc7_4, kc7_5, _⟩, _⟩ := hk
        have ks7 : w.heap.size ≤ w7.heap.size := kb7.size
        have kB3_7 : Below w3.heap.size w3 w7 := (by repeat (first | with_reducible refine Below.setCell ?_ (by first | (simp; done) | (simp; omega) | omega) _ | with_reducible refine Below.alloc ?_ (by first | (simp; done) | (simp; omega) | omega) _ | with_reducible refine Below.drew ?_ | with_reducible refine below_drewN ?_ _ | with_reducible exact Below.refl _ _ | with_reducible refine Below.trans ?_ (Below.mono kB3_r (by first | (simp; done) | (simp; omega) | omega)) | with_reducible refine Below.trans ?_ (Below.mono hbn (by first | (simp; done) | (simp; omega) | omega))))
        have ks3_7 : w3.heap.size ≤ w7.heap.size := kB3_7.size
        have kB4_7 : Below w4.heap.size w4 w7 := (by repeat (first | with_reducible refine Below.setCell ?_ (by first | (simp; done) | (simp; omega) | omega) _ | with_reducible refine Below.alloc ?_ (by first | (simp; done) | (simp; omega) | omega) _ | with_reducible refine Below.drew ?_ | with_reducible refine below_drewN ?_ _ | with_reducible exact Below.refl _ _ | with_reducible refine Below.trans ?_ (Below.mono kB4_r (by first | (simp; done) | (simp; omega) | omega)) | with_reducible refine Below.trans ?_ (Below.mono hbn (by first | (simp; done) | (simp; omega) | omega))))
        have ks4_7 : w4.heap.size ≤ w7.heap.size := kB4_7.size
        have kB5_7 : Below w5.heap.size w5 w7 := (by repeat (first | with_reducible refine Below.setCell ?_ (by first | (simp; done) | (simp; omega) | omega) _ | with_reducible refine Below.alloc ?_ (by first | (simp; done) | (simp; omega) | omega) _ | with_reducible refine Below.drew ?_ | with_reducible refine below_drewN ?_ _ | with_reducible exact Below.refl _ _ | with_reducible refine Below.trans ?_ (Below.mono kB5_r (by first | (simp; done) | (simp; omega) | omega)) | with_reducible refine Below.trans ?_ (Below.mono hbn (by first | (simp; done) | (simp; omega) | omega))))
        have ks5_7 : w5.heap.size ≤ w7.heap.size := kB5_7.size
        have kx7_w : w.heap.size < w7.heap.size := cell_lt kc7_0
        clear hbn kbr kB3_r kB4_r kB5_r kxr_w kcr_0 kcr_1 kcr_2 kcr_3 kcr_4 kcr_5
        clear hO
        go_wp2_with (fail)
        rcases HT.out with ⟨hwh, hfx, hne⟩ | ⟨hw3, hw4, hXe⟩
        · have HNE := Lib.hid hne
          have hfx' := fun W h => find_any B3 _ d3 X s W h (fit_hm HX.out.1)
          simp only [hfx, Option.getD_some, Option.isSome_some] at hfx'
          have HFX := Lib.hid hfx'
          clear hfx hfx' hne
          rcases hwh with rfl | rfl
          · refine (HFX.out _ ((HR3.out.below (by repeat (first | with_reducible refine Below.setCell ?_ (by first | (simp; done) | (simp; omega) | omega) _ | with_reducible refine Below.alloc ?_ (by first | (simp; done) | (simp; omega) | omega) _ | with_reducible refine Below.drew ?_ | with_reducible refine below_drewN ?_ _ | with_reducible exact Below.refl _ _ | with_reducible refine Below.trans ?_ (Below.mono kB3_7 (by first | (simp; done) | (simp; omega) | omega))))).more (by first | (simp; done) | (simp; omega) | omega))).mono ?_; rintro x w20 ⟨rfl, hbn⟩
            have hk : KeptC w [(⟨w.heap.size, 0, none⟩, .string s), (⟨w.heap.size, 1, none⟩, .int .i64 e), (⟨w.heap.size, 2, none⟩, .int .i64 m), (⟨w.heap.size, 3, none⟩, .bool al), (⟨w.heap.size, 4, none⟩, .int .i64 k0), (⟨w.heap.size, 5, none⟩, .int .i64 sc)] [] w20 := KeptC.below (by (repeat' (first | refine KeptC.cons ?_ ?_ | refine KeptC.consF ?_ ?_ ?_ | refine KeptC.mk0 ?_)); all_goals (first | with_reducible assumption | (go_simp; done) | (simp; omega) | exact (by repeat (first | with_reducible refine Below.setCell ?_ (by first | (simp; done) | (simp; omega) | omega) _ | with_reducible refine Below.alloc ?_ (by first | (simp; done) | (simp; omega) | omega) _ | with_reducible refine Below.drew ?_ | with_reducible refine below_drewN ?_ _ | with_reducible exact Below.refl _ _ | with_reducible refine Below.trans ?_ (Below.mono kb7 (by first | (simp; done) | (simp; omega) | omega)))))) hbn
            simp only [KeptC, List.forall_mem_cons] at hk; obtain ⟨kb20, ⟨kc20_0, kc20_1, kc20_2, kc20_3, kc20_4, kc20_5, _⟩, _⟩ := hk
            have ks20 : w.heap.size ≤ w20.heap.size := kb20.size
            have kB3_20 : Below w3.heap.size w3 w20 := (by repeat (first | with_reducible refine Below.setCell ?_ (by first | (simp; done) | (simp; omega) | omega) _ | with_reducible refine Below.alloc ?_ (by first | (simp; done) | (simp; omega) | omega) _ | with_reducible refine Below.drew ?_ | with_reducible refine below_drewN ?_ _ | with_reducible exact Below.refl _ _ | with_reducible refine Below.trans ?_ (Below.mono kB3_7 (by first | (simp; done) | (simp; omega) | omega)) | with_reducible refine Below.trans ?_ (Below.mono hbn (by first | (simp; done) | (simp; omega) | omega))))
            have ks3_20 : w3.heap.size ≤ w20.heap.size := kB3_20.size
            have kx20_w : w.heap.size < w20.heap.size := cell_lt kc20_0
            clear hbn kb7 kc7_0 kc7_1 kc7_2 kc7_3 kc7_4 kc7_5 kB3_7 kB4_7 kB5_7 kx7_w
            go_wp2_with (fail)
            have hS := fun W (h3 : Below w3.heap.size w3 W) (h : Below w.heap.size w W) => same_any B3 _ d3 X A _ cp ls W ((HR3.out.below h3).more h3.size) ((HR.out.below h).more h.size) (fit_hm HX.out.1) hm
            simp only [sameB_ne HNE.out] at hS
            refine (hS _ (by repeat (first | with_reducible refine Below.setCell ?_ (by first | (simp; done) | (simp; omega) | omega) _ | with_reducible refine Below.alloc ?_ (by first | (simp; done) | (simp; omega) | omega) _ | with_reducible refine Below.drew ?_ | with_reducible refine below_drewN ?_ _ | with_reducible exact Below.refl _ _ | with_reducible refine Below.trans ?_ (Below.mono kB3_20 (by first | (simp; done) | (simp; omega) | omega)))) (by repeat (first | with_reducible refine Below.setCell ?_ (by first | (simp; done) | (simp; omega) | omega) _ | with_reducible refine Below.alloc ?_ (by first | (simp; done) | (simp; omega) | omega) _ | with_reducible refine Below.drew ?_ | with_reducible refine below_drewN ?_ _ | with_reducible exact Below.refl _ _ | with_reducible refine Below.trans ?_ (Below.mono kb20 (by first | (simp; done) | (simp; omega) | omega))))).mono ?_; rintro x w21 ⟨rfl, hbn⟩
            have kb21 : Below w.heap.size w w21 := (by repeat (first | with_reducible refine Below.setCell ?_ (by first | (simp; done) | (simp; omega) | omega) _ | with_reducible refine Below.alloc ?_ (by first | (simp; done) | (simp; omega) | omega) _ | with_reducible refine Below.drew ?_ | with_reducible refine below_drewN ?_ _ | with_reducible exact Below.refl _ _ | with_reducible refine Below.trans ?_ (Below.mono kb20 (by first | (simp; done) | (simp; omega) | omega)) | with_reducible refine Below.trans ?_ (Below.mono hbn (by first | (simp; done) | (simp; omega) | omega))))
            have ks21 : w.heap.size ≤ w21.heap.size := kb21.size
            clear hbn kb20 kc20_0 kc20_1 kc20_2 kc20_3 kc20_4 kc20_5 kB3_20 kx20_w
            clear hS
            go_wp2_with (fail)
            refine (awake_any _).mono ?_; rintro x w22 ⟨rfl, hbn⟩
            have kb22 : Below w.heap.size w w22 := (by repeat (first | with_reducible refine Below.setCell ?_ (by first | (simp; done) | (simp; omega) | omega) _ | with_reducible refine Below.alloc ?_ (by first | (simp; done) | (simp; omega) | omega) _ | with_reducible refine Below.drew ?_ | with_reducible refine below_drewN ?_ _ | with_reducible exact Below.refl _ _ | with_reducible refine Below.trans ?_ (Below.mono kb21 (by first | (simp; done) | (simp; omega) | omega)) | with_reducible refine Below.trans ?_ (Below.mono hbn (by first | (simp; done) | (simp; omega) | omega))))
            have ks22 : w.heap.size ≤ w22.heap.size := kb22.size
            clear hbn kb21
            go_wp2
            go_ret
            exact ⟨rfl, kb22⟩
          · refine (HFX.out _ ((HR3.out.below (by repeat (first | with_reducible refine Below.setCell ?_ (by first | (simp; done) | (simp; omega) | omega) _ | with_reducible refine Below.alloc ?_ (by first | (simp; done) | (simp; omega) | omega) _ | with_reducible refine Below.drew ?_ | with_reducible refine below_drewN ?_ _ | with_reducible exact Below.refl _ _ | with_reducible refine Below.trans ?_ (Below.mono kB3_7 (by first | (simp; done) | (simp; omega) | omega))))).more (by first | (simp; done) | (simp; omega) | omega))).mono ?_; rintro x w20 ⟨rfl, hbn⟩
            have hk : KeptC w [(⟨w.heap.size, 0, none⟩, .string s), (⟨w.heap.size, 1, none⟩, .int .i64 e), (⟨w.heap.size, 2, none⟩, .int .i64 m), (⟨w.heap.size, 3, none⟩, .bool al), (⟨w.heap.size, 4, none⟩, .int .i64 k0), (⟨w.heap.size, 5, none⟩, .int .i64 sc)] [] w20 := KeptC.below (by (repeat' (first | refine KeptC.cons ?_ ?_ | refine KeptC.consF ?_ ?_ ?_ | refine KeptC.mk0 ?_)); all_goals (first | with_reducible assumption | (go_simp; done) | (simp; omega) | exact (by repeat (first | with_reducible refine Below.setCell ?_ (by first | (simp; done) | (simp; omega) | omega) _ | with_reducible refine Below.alloc ?_ (by first | (simp; done) | (simp; omega) | omega) _ | with_reducible refine Below.drew ?_ | with_reducible refine below_drewN ?_ _ | with_reducible exact Below.refl _ _ | with_reducible refine Below.trans ?_ (Below.mono kb7 (by first | (simp; done) | (simp; omega) | omega)))))) hbn
            simp only [KeptC, List.forall_mem_cons] at hk; obtain ⟨kb20, ⟨kc20_0, kc20_1, kc20_2, kc20_3, kc20_4, kc20_5, _⟩, _⟩ := hk
            have ks20 : w.heap.size ≤ w20.heap.size := kb20.size
            have kB3_20 : Below w3.heap.size w3 w20 := (by repeat (first | with_reducible refine Below.setCell ?_ (by first | (simp; done) | (simp; omega) | omega) _ | with_reducible refine Below.alloc ?_ (by first | (simp; done) | (simp; omega) | omega) _ | with_reducible refine Below.drew ?_ | with_reducible refine below_drewN ?_ _ | with_reducible exact Below.refl _ _ | with_reducible refine Below.trans ?_ (Below.mono kB3_7 (by first | (simp; done) | (simp; omega) | omega)) | with_reducible refine Below.trans ?_ (Below.mono hbn (by first | (simp; done) | (simp; omega) | omega))))
            have ks3_20 : w3.heap.size ≤ w20.heap.size := kB3_20.size
            have kx20_w : w.heap.size < w20.heap.size := cell_lt kc20_0
            clear hbn kb7 kc7_0 kc7_1 kc7_2 kc7_3 kc7_4 kc7_5 kB3_7 kB4_7 kB5_7 kx7_w
            go_wp2_with (fail)
            have hS := fun W (h3 : Below w3.heap.size w3 W) (h : Below w.heap.size w W) => same_any B3 _ d3 X A _ cp ls W ((HR3.out.below h3).more h3.size) ((HR.out.below h).more h.size) (fit_hm HX.out.1) hm
            simp only [sameB_ne HNE.out] at hS
            refine (hS _ (by repeat (first | with_reducible refine Below.setCell ?_ (by first | (simp; done) | (simp; omega) | omega) _ | with_reducible refine Below.alloc ?_ (by first | (simp; done) | (simp; omega) | omega) _ | with_reducible refine Below.drew ?_ | with_reducible refine below_drewN ?_ _ | with_reducible exact Below.refl _ _ | with_reducible refine Below.trans ?_ (Below.mono kB3_20 (by first | (simp; done) | (simp; omega) | omega)))) (by repeat (first | with_reducible refine Below.setCell ?_ (by first | (simp; done) | (simp; omega) | omega) _ | with_reducible refine Below.alloc ?_ (by first | (simp; done) | (simp; omega) | omega) _ | with_reducible refine Below.drew ?_ | with_reducible refine below_drewN ?_ _ | with_reducible exact Below.refl _ _ | with_reducible refine Below.trans ?_ (Below.mono kb20 (by first | (simp; done) | (simp; omega) | omega))))).mono ?_; rintro x w21 ⟨rfl, hbn⟩
            have kb21 : Below w.heap.size w w21 := (by repeat (first | with_reducible refine Below.setCell ?_ (by first | (simp; done) | (simp; omega) | omega) _ | with_reducible refine Below.alloc ?_ (by first | (simp; done) | (simp; omega) | omega) _ | with_reducible refine Below.drew ?_ | with_reducible refine below_drewN ?_ _ | with_reducible exact Below.refl _ _ | with_reducible refine Below.trans ?_ (Below.mono kb20 (by first | (simp; done) | (simp; omega) | omega)) | with_reducible refine Below.trans ?_ (Below.mono hbn (by first | (simp; done) | (simp; omega) | omega))))
            have ks21 : w.heap.size ≤ w21.heap.size := kb21.size
            clear hbn kb20 kc20_0 kc20_1 kc20_2 kc20_3 kc20_4 kc20_5 kB3_20 kx20_w
            clear hS
            go_wp2_with (fail)
            refine (awake_any _).mono ?_; rintro x w22 ⟨rfl, hbn⟩
            have kb22 : Below w.heap.size w w22 := (by repeat (first | with_reducible refine Below.setCell ?_ (by first | (simp; done) | (simp; omega) | omega) _ | with_reducible refine Below.alloc ?_ (by first | (simp; done) | (simp; omega) | omega) _ | with_reducible refine Below.drew ?_ | with_reducible refine below_drewN ?_ _ | with_reducible exact Below.refl _ _ | with_reducible refine Below.trans ?_ (Below.mono kb21 (by first | (simp; done) | (simp; omega) | omega)) | with_reducible refine Below.trans ?_ (Below.mono hbn (by first | (simp; done) | (simp; omega) | omega))))
            have ks22 : w.heap.size ≤ w22.heap.size := kb22.size
            clear hbn kb21
            go_wp2
            go_ret
            exact ⟨rfl, kb22⟩
        · have hb3 : (wh == 3) = false := by simpa using hw3
          have hb4 : (wh == 4) = false := by simpa using hw4
          have HXE := Lib.hid hXe
          have hfx' := fun W h => find_any B3 _ d3 X s W h (fit_hm HX.out.1)
          generalize (findL X s).isSome = fsm at hfx'
          generalize (findL X s).getD Ch0 = fr2 at hfx'
          have hcs := ch_cases fr2 ⟨s, e, m, al, k0, sc⟩
          obtain ⟨ns, ne, nw', na, nk, nc⟩ := fr2
          simp only [] at hfx' hcs
          have HFX := Lib.hid hfx'
          clear hfx' hXe
          rcases hcs with h | h | h | h | h | h | h
          · obtain ⟨g0, g1, g2, g3, g4, g5⟩ := Ch.mk.inj h
            clear h
            replace g0 := g0.symm; replace g1 := g1.symm; replace g2 := g2.symm; replace g3 := g3.symm; replace g4 := g4.symm; replace g5 := g5.symm
            subst g0 g1 g2 g3 g4 g5
            refine (HFX.out _ ((HR3.out.below (by repeat (first | with_reducible refine Below.setCell ?_ (by first | (simp; done) | (simp; omega) | omega) _ | with_reducible refine Below.alloc ?_ (by first | (simp; done) | (simp; omega) | omega) _ | with_reducible refine Below.drew ?_ | with_reducible refine below_drewN ?_ _ | with_reducible exact Below.refl _ _ | with_reducible refine Below.trans ?_ (Below.mono kB3_7 (by first | (simp; done) | (simp; omega) | omega))))).more (by first | (simp; done) | (simp; omega) | omega))).mono ?_; rintro x w20 ⟨rfl, hbn⟩
            have hk : KeptC w [(⟨w.heap.size, 0, none⟩, .string s), (⟨w.heap.size, 1, none⟩, .int .i64 e), (⟨w.heap.size, 2, none⟩, .int .i64 m), (⟨w.heap.size, 3, none⟩, .bool al), (⟨w.heap.size, 4, none⟩, .int .i64 k0), (⟨w.heap.size, 5, none⟩, .int .i64 sc)] [] w20 := KeptC.below (by (repeat' (first | refine KeptC.cons ?_ ?_ | refine KeptC.consF ?_ ?_ ?_ | refine KeptC.mk0 ?_)); all_goals (first | with_reducible assumption | (go_simp; done) | (simp; omega) | exact (by repeat (first | with_reducible refine Below.setCell ?_ (by first | (simp; done) | (simp; omega) | omega) _ | with_reducible refine Below.alloc ?_ (by first | (simp; done) | (simp; omega) | omega) _ | with_reducible refine Below.drew ?_ | with_reducible refine below_drewN ?_ _ | with_reducible exact Below.refl _ _ | with_reducible refine Below.trans ?_ (Below.mono kb7 (by first | (simp; done) | (simp; omega) | omega)))))) hbn
            simp only [KeptC, List.forall_mem_cons] at hk; obtain ⟨kb20, ⟨kc20_0, kc20_1, kc20_2, kc20_3, kc20_4, kc20_5, _⟩, _⟩ := hk
            have ks20 : w.heap.size ≤ w20.heap.size := kb20.size
            have kB3_20 : Below w3.heap.size w3 w20 := (by repeat (first | with_reducible refine Below.setCell ?_ (by first | (simp; done) | (simp; omega) | omega) _ | with_reducible refine Below.alloc ?_ (by first | (simp; done) | (simp; omega) | omega) _ | with_reducible refine Below.drew ?_ | with_reducible refine below_drewN ?_ _ | with_reducible exact Below.refl _ _ | with_reducible refine Below.trans ?_ (Below.mono kB3_7 (by first | (simp; done) | (simp; omega) | omega)) | with_reducible refine Below.trans ?_ (Below.mono hbn (by first | (simp; done) | (simp; omega) | omega))))
            have ks3_20 : w3.heap.size ≤ w20.heap.size := kB3_20.size
            have kx20_w : w.heap.size < w20.heap.size := cell_lt kc20_0
            clear hbn kb7 kc7_0 kc7_1 kc7_2 kc7_3 kc7_4 kc7_5 kB3_7 kB4_7 kB5_7 kx7_w
            go_wp2_with (fail)
            have hS := fun W (h3 : Below w3.heap.size w3 W) (h : Below w.heap.size w W) => same_any B3 _ d3 X A _ cp ls W ((HR3.out.below h3).more h3.size) ((HR.out.below h).more h.size) (fit_hm HX.out.1) hm
            simp only [sameB_eq HXE.out] at hS
            refine (hS _ (by repeat (first | with_reducible refine Below.setCell ?_ (by first | (simp; done) | (simp; omega) | omega) _ | with_reducible refine Below.alloc ?_ (by first | (simp; done) | (simp; omega) | omega) _ | with_reducible refine Below.drew ?_ | with_reducible refine below_drewN ?_ _ | with_reducible exact Below.refl _ _ | with_reducible refine Below.trans ?_ (Below.mono kB3_20 (by first | (simp; done) | (simp; omega) | omega)))) (by repeat (first | with_reducible refine Below.setCell ?_ (by first | (simp; done) | (simp; omega) | omega) _ | with_reducible refine Below.alloc ?_ (by first | (simp; done) | (simp; omega) | omega) _ | with_reducible refine Below.drew ?_ | with_reducible refine below_drewN ?_ _ | with_reducible exact Below.refl _ _ | with_reducible refine Below.trans ?_ (Below.mono kb20 (by first | (simp; done) | (simp; omega) | omega))))).mono ?_; rintro x w21 ⟨rfl, hbn⟩
            have kb21 : Below w.heap.size w w21 := (by repeat (first | with_reducible refine Below.setCell ?_ (by first | (simp; done) | (simp; omega) | omega) _ | with_reducible refine Below.alloc ?_ (by first | (simp; done) | (simp; omega) | omega) _ | with_reducible refine Below.drew ?_ | with_reducible refine below_drewN ?_ _ | with_reducible exact Below.refl _ _ | with_reducible refine Below.trans ?_ (Below.mono kb20 (by first | (simp; done) | (simp; omega) | omega)) | with_reducible refine Below.trans ?_ (Below.mono hbn (by first | (simp; done) | (simp; omega) | omega))))
            have ks21 : w.heap.size ≤ w21.heap.size := kb21.size
            clear hbn kb20 kc20_0 kc20_1 kc20_2 kc20_3 kc20_4 kc20_5 kB3_20 kx20_w
            clear hS
            go_wp2_with (fail)
            refine (awake_any _).mono ?_; rintro x w22 ⟨rfl, hbn⟩
            have kb22 : Below w.heap.size w w22 := (by repeat (first | with_reducible refine Below.setCell ?_ (by first | (simp; done) | (simp; omega) | omega) _ | with_reducible refine Below.alloc ?_ (by first | (simp; done) | (simp; omega) | omega) _ | with_reducible refine Below.drew ?_ | with_reducible refine below_drewN ?_ _ | with_reducible exact Below.refl _ _ | with_reducible refine Below.trans ?_ (Below.mono kb21 (by first | (simp; done) | (simp; omega) | omega)) | with_reducible refine Below.trans ?_ (Below.mono hbn (by first | (simp; done) | (simp; omega) | omega))))
            have ks22 : w.heap.size ≤ w22.heap.size := kb22.size
            clear hbn kb21
            go_wp2
            go_ret
            exact ⟨rfl, kb22⟩
          · refine (HFX.out _ ((HR3.out.below (by repeat (first | with_reducible refine Below.setCell ?_ (by first | (simp; done) | (simp; omega) | omega) _ | with_reducible refine Below.alloc ?_ (by first | (simp; done) | (simp; omega) | omega) _ | with_reducible refine Below.drew ?_ | with_reducible refine below_drewN ?_ _ | with_reducible exact Below.refl _ _ | with_reducible refine Below.trans ?_ (Below.mono kB3_7 (by first | (simp; done) | (simp; omega) | omega))))).more (by first | (simp; done) | (simp; omega) | omega))).mono ?_; rintro x w20 ⟨rfl, hbn⟩
            have hk : KeptC w [(⟨w.heap.size, 0, none⟩, .string s), (⟨w.heap.size, 1, none⟩, .int .i64 e), (⟨w.heap.size, 2, none⟩, .int .i64 m), (⟨w.heap.size, 3, none⟩, .bool al), (⟨w.heap.size, 4, none⟩, .int .i64 k0), (⟨w.heap.size, 5, none⟩, .int .i64 sc)] [] w20 := KeptC.below (by (repeat' (first | refine KeptC.cons ?_ ?_ | refine KeptC.consF ?_ ?_ ?_ | refine KeptC.mk0 ?_)); all_goals (first | with_reducible assumption | (go_simp; done) | (simp; omega) | exact (by repeat (first | with_reducible refine Below.setCell ?_ (by first | (simp; done) | (simp; omega) | omega) _ | with_reducible refine Below.alloc ?_ (by first | (simp; done) | (simp; omega) | omega) _ | with_reducible refine Below.drew ?_ | with_reducible refine below_drewN ?_ _ | with_reducible exact Below.refl _ _ | with_reducible refine Below.trans ?_ (Below.mono kb7 (by first | (simp; done) | (simp; omega) | omega)))))) hbn
            simp only [KeptC, List.forall_mem_cons] at hk; obtain ⟨kb20, ⟨kc20_0, kc20_1, kc20_2, kc20_3, kc20_4, kc20_5, _⟩, _⟩ := hk
            have ks20 : w.heap.size ≤ w20.heap.size := kb20.size
            have kB3_20 : Below w3.heap.size w3 w20 := (by repeat (first | with_reducible refine Below.setCell ?_ (by first | (simp; done) | (simp; omega) | omega) _ | with_reducible refine Below.alloc ?_ (by first | (simp; done) | (simp; omega) | omega) _ | with_reducible refine Below.drew ?_ | with_reducible refine below_drewN ?_ _ | with_reducible exact Below.refl _ _ | with_reducible refine Below.trans ?_ (Below.mono kB3_7 (by first | (simp; done) | (simp; omega) | omega)) | with_reducible refine Below.trans ?_ (Below.mono hbn (by first | (simp; done) | (simp; omega) | omega))))
            have ks3_20 : w3.heap.size ≤ w20.heap.size := kB3_20.size
            have kx20_w : w.heap.size < w20.heap.size := cell_lt kc20_0
            clear hbn kb7 kc7_0 kc7_1 kc7_2 kc7_3 kc7_4 kc7_5 kB3_7 kB4_7 kB5_7 kx7_w
            go_wp2_with (fail)
            refine (awake_any _).mono ?_; rintro x w22 ⟨rfl, hbn⟩
            have kb22 : Below w.heap.size w w22 := (by repeat (first | with_reducible refine Below.setCell ?_ (by first | (simp; done) | (simp; omega) | omega) _ | with_reducible refine Below.alloc ?_ (by first | (simp; done) | (simp; omega) | omega) _ | with_reducible refine Below.drew ?_ | with_reducible refine below_drewN ?_ _ | with_reducible exact Below.refl _ _ | with_reducible refine Below.trans ?_ (Below.mono kb20 (by first | (simp; done) | (simp; omega) | omega)) | with_reducible refine Below.trans ?_ (Below.mono hbn (by first | (simp; done) | (simp; omega) | omega))))
            have ks22 : w.heap.size ≤ w22.heap.size := kb22.size
            clear hbn kb20 kc20_0 kc20_1 kc20_2 kc20_3 kc20_4 kc20_5 kB3_20 kx20_w
            go_wp2
            go_ret
            exact ⟨rfl, kb22⟩
          · obtain ⟨g0, h⟩ := h
            replace g0 := g0.symm
            subst g0
            have hbq : (ne == e) = false := by simpa using h
            refine (HFX.out _ ((HR3.out.below (by repeat (first | with_reducible refine Below.setCell ?_ (by first | (simp; done) | (simp; omega) | omega) _ | with_reducible refine Below.alloc ?_ (by first | (simp; done) | (simp; omega) | omega) _ | with_reducible refine Below.drew ?_ | with_reducible refine below_drewN ?_ _ | with_reducible exact Below.refl _ _ | with_reducible refine Below.trans ?_ (Below.mono kB3_7 (by first | (simp; done) | (simp; omega) | omega))))).more (by first | (simp; done) | (simp; omega) | omega))).mono ?_; rintro x w20 ⟨rfl, hbn⟩
            have hk : KeptC w [(⟨w.heap.size, 0, none⟩, .string s), (⟨w.heap.size, 1, none⟩, .int .i64 e), (⟨w.heap.size, 2, none⟩, .int .i64 m), (⟨w.heap.size, 3, none⟩, .bool al), (⟨w.heap.size, 4, none⟩, .int .i64 k0), (⟨w.heap.size, 5, none⟩, .int .i64 sc)] [] w20 := KeptC.below (by (repeat' (first | refine KeptC.cons ?_ ?_ | refine KeptC.consF ?_ ?_ ?_ | refine KeptC.mk0 ?_)); all_goals (first | with_reducible assumption | (go_simp; done) | (simp; omega) | exact (by repeat (first | with_reducible refine Below.setCell ?_ (by first | (simp; done) | (simp; omega) | omega) _ | with_reducible refine Below.alloc ?_ (by first | (simp; done) | (simp; omega) | omega) _ | with_reducible refine Below.drew ?_ | with_reducible refine below_drewN ?_ _ | with_reducible exact Below.refl _ _ | with_reducible refine Below.trans ?_ (Below.mono kb7 (by first | (simp; done) | (simp; omega) | omega)))))) hbn
            simp only [KeptC, List.forall_mem_cons] at hk; obtain ⟨kb20, ⟨kc20_0, kc20_1, kc20_2, kc20_3, kc20_4, kc20_5, _⟩, _⟩ := hk
            have ks20 : w.heap.size ≤ w20.heap.size := kb20.size
            have kB3_20 : Below w3.heap.size w3 w20 := (by repeat (first | with_reducible refine Below.setCell ?_ (by first | (simp; done) | (simp; omega) | omega) _ | with_reducible refine Below.alloc ?_ (by first | (simp; done) | (simp; omega) | omega) _ | with_reducible refine Below.drew ?_ | with_reducible refine below_drewN ?_ _ | with_reducible exact Below.refl _ _ | with_reducible refine Below.trans ?_ (Below.mono kB3_7 (by first | (simp; done) | (simp; omega) | omega)) | with_reducible refine Below.trans ?_ (Below.mono hbn (by first | (simp; done) | (simp; omega) | omega))))
            have ks3_20 : w3.heap.size ≤ w20.heap.size := kB3_20.size
            have kx20_w : w.heap.size < w20.heap.size := cell_lt kc20_0
            clear hbn kb7 kc7_0 kc7_1 kc7_2 kc7_3 kc7_4 kc7_5 kB3_7 kB4_7 kB5_7 kx7_w
            go_wp2_with (fail)
            refine (awake_any _).mono ?_; rintro x w22 ⟨rfl, hbn⟩
            have kb22 : Below w.heap.size w w22 := (by repeat (first | with_reducible refine Below.setCell ?_ (by first | (simp; done) | (simp; omega) | omega) _ | with_reducible refine Below.alloc ?_ (by first | (simp; done) | (simp; omega) | omega) _ | with_reducible refine Below.drew ?_ | with_reducible refine below_drewN ?_ _ | with_reducible exact Below.refl _ _ | with_reducible refine Below.trans ?_ (Below.mono kb20 (by first | (simp; done) | (simp; omega) | omega)) | with_reducible refine Below.trans ?_ (Below.mono hbn (by first | (simp; done) | (simp; omega) | omega))))
            have ks22 : w.heap.size ≤ w22.heap.size := kb22.size
            clear hbn kb20 kc20_0 kc20_1 kc20_2 kc20_3 kc20_4 kc20_5 kB3_20 kx20_w
            go_wp2
            go_ret
            exact ⟨rfl, kb22⟩
          · obtain ⟨g0, g1, h⟩ := h
            replace g0 := g0.symm; replace g1 := g1.symm
            subst g0 g1
            have hbq : (nw' == m) = false := by simpa using h
            refine (HFX.out _ ((HR3.out.below (by repeat (first | with_reducible refine Below.setCell ?_ (by first | (simp; done) | (simp; omega) | omega) _ | with_reducible refine Below.alloc ?_ (by first | (simp; done) | (simp; omega) | omega) _ | with_reducible refine Below.drew ?_ | with_reducible refine below_drewN ?_ _ | with_reducible exact Below.refl _ _ | with_reducible refine Below.trans ?_ (Below.mono kB3_7 (by first | (simp; done) | (simp; omega) | omega))))).more (by first | (simp; done) | (simp; omega) | omega))).mono ?_; rintro x w20 ⟨rfl, hbn⟩
            have hk : KeptC w [(⟨w.heap.size, 0, none⟩, .string s), (⟨w.heap.size, 1, none⟩, .int .i64 e), (⟨w.heap.size, 2, none⟩, .int .i64 m), (⟨w.heap.size, 3, none⟩, .bool al), (⟨w.heap.size, 4, none⟩, .int .i64 k0), (⟨w.heap.size, 5, none⟩, .int .i64 sc)] [] w20 := KeptC.below (by (repeat' (first | refine KeptC.cons ?_ ?_ | refine KeptC.consF ?_ ?_ ?_ | refine KeptC.mk0 ?_)); all_goals (first | with_reducible assumption | (go_simp; done) | (simp; omega) | exact (by repeat (first | with_reducible refine Below.setCell ?_ (by first | (simp; done) | (simp; omega) | omega) _ | with_reducible refine Below.alloc ?_ (by first | (simp; done) | (simp; omega) | omega) _ | with_reducible refine Below.drew ?_ | with_reducible refine below_drewN ?_ _ | with_reducible exact Below.refl _ _ | with_reducible refine Below.trans ?_ (Below.mono kb7 (by first | (simp; done) | (simp; omega) | omega)))))) hbn
            simp only [KeptC, List.forall_mem_cons] at hk; obtain ⟨kb20, ⟨kc20_0, kc20_1, kc20_2, kc20_3, kc20_4, kc20_5, _⟩, _⟩ := hk
            have ks20 : w.heap.size ≤ w20.heap.size := kb20.size
            have kB3_20 : Below w3.heap.size w3 w20 := (by repeat (first | with_reducible refine Below.setCell ?_ (by first | (simp; done) | (simp; omega) | omega) _ | with_reducible refine Below.alloc ?_ (by first | (simp; done) | (simp; omega) | omega) _ | with_reducible refine Below.drew ?_ | with_reducible refine below_drewN ?_ _ | with_reducible exact Below.refl _ _ | with_reducible refine Below.trans ?_ (Below.mono kB3_7 (by first | (simp; done) | (simp; omega) | omega)) | with_reducible refine Below.trans ?_ (Below.mono hbn (by first | (simp; done) | (simp; omega) | omega))))
            have ks3_20 : w3.heap.size ≤ w20.heap.size := kB3_20.size
            have kx20_w : w.heap.size < w20.heap.size := cell_lt kc20_0
            clear hbn kb7 kc7_0 kc7_1 kc7_2 kc7_3 kc7_4 kc7_5 kB3_7 kB4_7 kB5_7 kx7_w
            go_wp2_with (fail)
            refine (awake_any _).mono ?_; rintro x w22 ⟨rfl, hbn⟩
            have kb22 : Below w.heap.size w w22 := (by repeat (first | with_reducible refine Below.setCell ?_ (by first | (simp; done) | (simp; omega) | omega) _ | with_reducible refine Below.alloc ?_ (by first | (simp; done) | (simp; omega) | omega) _ | with_reducible refine Below.drew ?_ | with_reducible refine below_drewN ?_ _ | with_reducible exact Below.refl _ _ | with_reducible refine Below.trans ?_ (Below.mono kb20 (by first | (simp; done) | (simp; omega) | omega)) | with_reducible refine Below.trans ?_ (Below.mono hbn (by first | (simp; done) | (simp; omega) | omega))))
            have ks22 : w.heap.size ≤ w22.heap.size := kb22.size
            clear hbn kb20 kc20_0 kc20_1 kc20_2 kc20_3 kc20_4 kc20_5 kB3_20 kx20_w
            go_wp2
            go_ret
            exact ⟨rfl, kb22⟩
          · obtain ⟨g0, g1, g2, h⟩ := h
            replace g0 := g0.symm; replace g1 := g1.symm; replace g2 := g2.symm
            subst g0 g1 g2
            subst h
            refine (HFX.out _ ((HR3.out.below (by repeat (first | with_reducible refine Below.setCell ?_ (by first | (simp; done) | (simp; omega) | omega) _ | with_reducible refine Below.alloc ?_ (by first | (simp; done) | (simp; omega) | omega) _ | with_reducible refine Below.drew ?_ | with_reducible refine below_drewN ?_ _ | with_reducible exact Below.refl _ _ | with_reducible refine Below.trans ?_ (Below.mono kB3_7 (by first | (simp; done) | (simp; omega) | omega))))).more (by first | (simp; done) | (simp; omega) | omega))).mono ?_; rintro x w20 ⟨rfl, hbn⟩
            have hk : KeptC w [(⟨w.heap.size, 0, none⟩, .string s), (⟨w.heap.size, 1, none⟩, .int .i64 e), (⟨w.heap.size, 2, none⟩, .int .i64 m), (⟨w.heap.size, 3, none⟩, .bool al), (⟨w.heap.size, 4, none⟩, .int .i64 k0), (⟨w.heap.size, 5, none⟩, .int .i64 sc)] [] w20 := KeptC.below (by (repeat' (first | refine KeptC.cons ?_ ?_ | refine KeptC.consF ?_ ?_ ?_ | refine KeptC.mk0 ?_)); all_goals (first | with_reducible assumption | (go_simp; done) | (simp; omega) | exact (by repeat (first | with_reducible refine Below.setCell ?_ (by first | (simp; done) | (simp; omega) | omega) _ | with_reducible refine Below.alloc ?_ (by first | (simp; done) | (simp; omega) | omega) _ | with_reducible refine Below.drew ?_ | with_reducible refine below_drewN ?_ _ | with_reducible exact Below.refl _ _ | with_reducible refine Below.trans ?_ (Below.mono kb7 (by first | (simp; done) | (simp; omega) | omega)))))) hbn
            simp only [KeptC, List.forall_mem_cons] at hk; obtain ⟨kb20, ⟨kc20_0, kc20_1, kc20_2, kc20_3, kc20_4, kc20_5, _⟩, _⟩ := hk
            have ks20 : w.heap.size ≤ w20.heap.size := kb20.size
            have kB3_20 : Below w3.heap.size w3 w20 := (by repeat (first | with_reducible refine Below.setCell ?_ (by first | (simp; done) | (simp; omega) | omega) _ | with_reducible refine Below.alloc ?_ (by first | (simp; done) | (simp; omega) | omega) _ | with_reducible refine Below.drew ?_ | with_reducible refine below_drewN ?_ _ | with_reducible exact Below.refl _ _ | with_reducible refine Below.trans ?_ (Below.mono kB3_7 (by first | (simp; done) | (simp; omega) | omega)) | with_reducible refine Below.trans ?_ (Below.mono hbn (by first | (simp; done) | (simp; omega) | omega))))
            have ks3_20 : w3.heap.size ≤ w20.heap.size := kB3_20.size
            have kx20_w : w.heap.size < w20.heap.size := cell_lt kc20_0
            clear hbn kb7 kc7_0 kc7_1 kc7_2 kc7_3 kc7_4 kc7_5 kB3_7 kB4_7 kB5_7 kx7_w
            go_wp2_with (fail)
            refine (awake_any _).mono ?_; rintro x w22 ⟨rfl, hbn⟩
            have kb22 : Below w.heap.size w w22 := (by repeat (first | with_reducible refine Below.setCell ?_ (by first | (simp; done) | (simp; omega) | omega) _ | with_reducible refine Below.alloc ?_ (by first | (simp; done) | (simp; omega) | omega) _ | with_reducible refine Below.drew ?_ | with_reducible refine below_drewN ?_ _ | with_reducible exact Below.refl _ _ | with_reducible refine Below.trans ?_ (Below.mono kb20 (by first | (simp; done) | (simp; omega) | omega)) | with_reducible refine Below.trans ?_ (Below.mono hbn (by first | (simp; done) | (simp; omega) | omega))))
            have ks22 : w.heap.size ≤ w22.heap.size := kb22.size
            clear hbn kb20 kc20_0 kc20_1 kc20_2 kc20_3 kc20_4 kc20_5 kB3_20 kx20_w
            go_wp2
            go_ret
            exact ⟨rfl, kb22⟩
          · obtain ⟨g0, g1, g2, g3, h⟩ := h
            replace g0 := g0.symm; replace g1 := g1.symm; replace g2 := g2.symm; replace g3 := g3.symm
            subst g0 g1 g2 g3
            have hbq : (nk == k0) = false := by simpa using h
            refine (HFX.out _ ((HR3.out.below (by repeat (first | with_reducible refine Below.setCell ?_ (by first | (simp; done) | (simp; omega) | omega) _ | with_reducible refine Below.alloc ?_ (by first | (simp; done) | (simp; omega) | omega) _ | with_reducible refine Below.drew ?_ | with_reducible refine below_drewN ?_ _ | with_reducible exact Below.refl _ _ | with_reducible refine Below.trans ?_ (Below.mono kB3_7 (by first | (simp; done) | (simp; omega) | omega))))).more (by first | (simp; done) | (simp; omega) | omega))).mono ?_; rintro x w20 ⟨rfl, hbn⟩
            have hk : KeptC w [(⟨w.heap.size, 0, none⟩, .string s), (⟨w.heap.size, 1, none⟩, .int .i64 e), (⟨w.heap.size, 2, none⟩, .int .i64 m), (⟨w.heap.size, 3, none⟩, .bool al), (⟨w.heap.size, 4, none⟩, .int .i64 k0), (⟨w.heap.size, 5, none⟩, .int .i64 sc)] [] w20 := KeptC.below (by (repeat' (first | refine KeptC.cons ?_ ?_ | refine KeptC.consF ?_ ?_ ?_ | refine KeptC.mk0 ?_)); all_goals (first | with_reducible assumption | (go_simp; done) | (simp; omega) | exact (by repeat (first | with_reducible refine Below.setCell ?_ (by first | (simp; done) | (simp; omega) | omega) _ | with_reducible refine Below.alloc ?_ (by first | (simp; done) | (simp; omega) | omega) _ | with_reducible refine Below.drew ?_ | with_reducible refine below_drewN ?_ _ | with_reducible exact Below.refl _ _ | with_reducible refine Below.trans ?_ (Below.mono kb7 (by first | (simp; done) | (simp; omega) | omega)))))) hbn
            simp only [KeptC, List.forall_mem_cons] at hk; obtain ⟨kb20, ⟨kc20_0, kc20_1, kc20_2, kc20_3, kc20_4, kc20_5, _⟩, _⟩ := hk
            have ks20 : w.heap.size ≤ w20.heap.size := kb20.size
            have kB3_20 : Below w3.heap.size w3 w20 := (by repeat (first | with_reducible refine Below.setCell ?_ (by first | (simp; done) | (simp; omega) | omega) _ | with_reducible refine Below.alloc ?_ (by first | (simp; done) | (simp; omega) | omega) _ | with_reducible refine Below.drew ?_ | with_reducible refine below_drewN ?_ _ | with_reducible exact Below.refl _ _ | with_reducible refine Below.trans ?_ (Below.mono kB3_7 (by first | (simp; done) | (simp; omega) | omega)) | with_reducible refine Below.trans ?_ (Below.mono hbn (by first | (simp; done) | (simp; omega) | omega))))
            have ks3_20 : w3.heap.size ≤ w20.heap.size := kB3_20.size
            have kx20_w : w.heap.size < w20.heap.size := cell_lt kc20_0
            clear hbn kb7 kc7_0 kc7_1 kc7_2 kc7_3 kc7_4 kc7_5 kB3_7 kB4_7 kB5_7 kx7_w
            go_wp2_with (fail)
            refine (awake_any _).mono ?_; rintro x w22 ⟨rfl, hbn⟩
            have kb22 : Below w.heap.size w w22 := (by repeat (first | with_reducible refine Below.setCell ?_ (by first | (simp; done) | (simp; omega) | omega) _ | with_reducible refine Below.alloc ?_ (by first | (simp; done) | (simp; omega) | omega) _ | with_reducible refine Below.drew ?_ | with_reducible refine below_drewN ?_ _ | with_reducible exact Below.refl _ _ | with_reducible refine Below.trans ?_ (Below.mono kb20 (by first | (simp; done) | (simp; omega) | omega)) | with_reducible refine Below.trans ?_ (Below.mono hbn (by first | (simp; done) | (simp; omega) | omega))))
            have ks22 : w.heap.size ≤ w22.heap.size := kb22.size
            clear hbn kb20 kc20_0 kc20_1 kc20_2 kc20_3 kc20_4 kc20_5 kB3_20 kx20_w
            go_wp2
            go_ret
            exact ⟨rfl, kb22⟩
          · obtain ⟨g0, g1, g2, g3, g4, h⟩ := h
            replace g0 := g0.symm; replace g1 := g1.symm; replace g2 := g2.symm; replace g3 := g3.symm; replace g4 := g4.symm
            subst g0 g1 g2 g3 g4
            have hbq : (nc == sc) = false := by simpa using h
            refine (HFX.out _ ((HR3.out.below (by repeat (first | with_reducible refine Below.setCell ?_ (by first | (simp; done) | (simp; omega) | omega) _ | with_reducible refine Below.alloc ?_ (by first | (simp; done) | (simp; omega) | omega) _ | with_reducible refine Below.drew ?_ | with_reducible refine below_drewN ?_ _ | with_reducible exact Below.refl _ _ | with_reducible refine Below.trans ?_ (Below.mono kB3_7 (by first | (simp; done) | (simp; omega) | omega))))).more (by first | (simp; done) | (simp; omega) | omega))).mono ?_; rintro x w20 ⟨rfl, hbn⟩
            have hk : KeptC w [(⟨w.heap.size, 0, none⟩, .string s), (⟨w.heap.size, 1, none⟩, .int .i64 e), (⟨w.heap.size, 2, none⟩, .int .i64 m), (⟨w.heap.size, 3, none⟩, .bool al), (⟨w.heap.size, 4, none⟩, .int .i64 k0), (⟨w.heap.size, 5, none⟩, .int .i64 sc)] [] w20 := KeptC.below (by (repeat' (first | refine KeptC.cons ?_ ?_ | refine KeptC.consF ?_ ?_ ?_ | refine KeptC.mk0 ?_)); all_goals (first | with_reducible assumption | (go_simp; done) | (simp; omega) | exact (by repeat (first | with_reducible refine Below.setCell ?_ (by first | (simp; done) | (simp; omega) | omega) _ | with_reducible refine Below.alloc ?_ (by first | (simp; done) | (simp; omega) | omega) _ | with_reducible refine Below.drew ?_ | with_reducible refine below_drewN ?_ _ | with_reducible exact Below.refl _ _ | with_reducible refine Below.trans ?_ (Below.mono kb7 (by first | (simp; done) | (simp; omega) | omega)))))) hbn
            simp only [KeptC, List.forall_mem_cons] at hk; obtain ⟨kb20, ⟨kc20_0, kc20_1, kc20_2, kc20_3, kc20_4, kc20_5, _⟩, _⟩ := hk
            have ks20 : w.heap.size ≤ w20.heap.size := kb20.size
            have kB3_20 : Below w3.heap.size w3 w20 := (by repeat (first | with_reducible refine Below.setCell ?_ (by first | (simp; done) | (simp; omega) | omega) _ | with_reducible refine Below.alloc ?_ (by first | (simp; done) | (simp; omega) | omega) _ | with_reducible refine Below.drew ?_ | with_reducible refine below_drewN ?_ _ | with_reducible exact Below.refl _ _ | with_reducible refine Below.trans ?_ (Below.mono kB3_7 (by first | (simp; done) | (simp; omega) | omega)) | with_reducible refine Below.trans ?_ (Below.mono hbn (by first | (simp; done) | (simp; omega) | omega))))
            have ks3_20 : w3.heap.size ≤ w20.heap.size := kB3_20.size
            have kx20_w : w.heap.size < w20.heap.size := cell_lt kc20_0
            clear hbn kb7 kc7_0 kc7_1 kc7_2 kc7_3 kc7_4 kc7_5 kB3_7 kB4_7 kB5_7 kx7_w
            go_wp2_with (fail)
            refine (awake_any _).mono ?_; rintro x w22 ⟨rfl, hbn⟩
            have kb22 : Below w.heap.size w w22 := (by repeat (first | with_reducible refine Below.setCell ?_ (by first | (simp; done) | (simp; omega) | omega) _ | with_reducible refine Below.alloc ?_ (by first | (simp; done) | (simp; omega) | omega) _ | with_reducible refine Below.drew ?_ | with_reducible refine below_drewN ?_ _ | with_reducible exact Below.refl _ _ | with_reducible refine Below.trans ?_ (Below.mono kb20 (by first | (simp; done) | (simp; omega) | omega)) | with_reducible refine Below.trans ?_ (Below.mono hbn (by first | (simp; done) | (simp; omega) | omega))))
            have ks22 : w.heap.size ≤ w22.heap.size := kb22.size
            clear hbn kb20 kc20_0 kc20_1 kc20_2 kc20_3 kc20_4 kc20_5 kB3_20 kx20_w
            go_wp2
            go_ret
            exact ⟨rfl, kb22⟩
      · have hdb : (ed == 0) = false := by simpa using hd
        have hfy' := fun W h => find_any B4 _ d4 Y nm W h (fit_hm HY.out.1)
        simp only [hfy, Option.getD_some, Option.isSome_some] at hfy'
        have HFY := Lib.hid hfy'
        clear hfy hfy'
        subst he
        rcases hold with hfo | ⟨o, hfo, hoa, hst⟩
        · have hO := C4.out
          simp only [hfo, Option.getD_none, Option.isSome_none] at hO
          go_wp2_with (fail)
          refine (hO _ (by repeat (first | with_reducible refine Below.setCell ?_ (by first | (simp; done) | (simp; omega) | omega) _ | with_reducible refine Below.alloc ?_ (by first | (simp; done) | (simp; omega) | omega) _ | with_reducible refine Below.drew ?_ | with_reducible refine below_drewN ?_ _ | with_reducible exact Below.refl _ _ | with_reducible refine Below.trans ?_ (Below.mono kbr (by first | (simp; done) | (simp; omega) | omega))))).mono ?_; rintro x w7 ⟨rfl, hbn⟩
          have hk : KeptC w [(⟨w.heap.size, 0, none⟩, .string s), (⟨w.heap.size, 1, none⟩, .int .i64 e), (⟨w.heap.size, 2, none⟩, .int .i64 m), (⟨w.heap.size, 3, none⟩, .bool al), (⟨w.heap.size, 4, none⟩, .int .i64 k0), (⟨w.heap.size, 5, none⟩, .int .i64 sc)] [] w7 := KeptC.below (by (repeat' (first | refine KeptC.cons ?_ ?_ | refine KeptC.consF ?_ ?_ ?_ | refine KeptC.mk0 ?_)); all_goals (first | with_reducible assumption | (go_simp; done) | (simp; omega) | exact (by repeat (first | with_reducible refine Below.setCell ?_ (by first | (simp; done) | (simp; omega) | omega) _ | with_reducible refine Below.alloc ?_ (by first | (simp; done) | (simp; omega) | omega) _ | with_reducible refine Below.drew ?_ | with_reducible refine below_drewN ?_ _ | with_reducible exact Below.refl _ _ | with_reducible refine Below.trans ?_ (Below.mono kbr (by first | (simp; done) | (simp; omega) | omega)))))) hbn
          simp only [KeptC, List.forall_mem_cons] at hk; obtain ⟨kb7, ⟨kc7_0, kc7_1, kc7_2, kc7_3, kc7_4, kc7_5, _⟩, _⟩ := hk
          have ks7 : w.heap.size ≤ w7.heap.size := kb7.size
          have kB3_7 : Below w3.heap.size w3 w7 := (by repeat (first | with_reducible refine Below.setCell ?_ (by first | (simp; done) | (simp; omega) | omega) _ | with_reducible refine Below.alloc ?_ (by first | (simp; done) | (simp; omega) | omega) _ | with_reducible refine Below.drew ?_ | with_reducible refine below_drewN ?_ _ | with_reducible exact Below.refl _ _ | with_reducible refine Below.trans ?_ (Below.mono kB3_r (by first | (simp; done) | (simp; omega) | omega)) | with_reducible refine Below.trans ?_ (Below.mono hbn (by first | (simp; done) | (simp; omega) | omega))))
          have ks3_7 : w3.heap.size ≤ w7.heap.size := kB3_7.size
          have kB4_7 : Below w4.heap.size w4 w7 := (by repeat (first | with_reducible refine Below.setCell ?_ (by first | (simp; done) | (simp; omega) | omega) _ | with_reducible refine Below.alloc ?_ (by first | (simp; done) | (simp; omega) | omega) _ | with_reducible refine Below.drew ?_ | with_reducible refine below_drewN ?_ _ | with_reducible exact Below.refl _ _ | with_reducible refine Below.trans ?_ (Below.mono kB4_r (by first | (simp; done) | (simp; omega) | omega)) | with_reducible refine Below.trans ?_ (Below.mono hbn (by first | (simp; done) | (simp; omega) | omega))))
          have ks4_7 : w4.heap.size ≤ w7.heap.size := kB4_7.size
          have kB5_7 : Below w5.heap.size w5 w7 := (by repeat (first | with_reducible refine Below.setCell ?_ (by first | (simp; done) | (simp; omega) | omega) _ | with_reducible refine Below.alloc ?_ (by first | (simp; done) | (simp; omega) | omega) _ | with_reducible refine Below.drew ?_ | with_reducible refine below_drewN ?_ _ | with_reducible exact Below.refl _ _ | with_reducible refine Below.trans ?_ (Below.mono kB5_r (by first | (simp; done) | (simp; omega) | omega)) | with_reducible refine Below.trans ?_ (Below.mono hbn (by first | (simp; done) | (simp; omega) | omega))))
          have ks5_7 : w5.heap.size ≤ w7.heap.size := kB5_7.size
          have kx7_w : w.heap.size < w7.heap.size := cell_lt kc7_0
          clear hbn kbr kB3_r kB4_r kB5_r kxr_w kcr_0 kcr_1 kcr_2 kcr_3 kcr_4 kcr_5
          clear hO
          go_wp2_with (fail)
          refine (HFY.out _ ((HR4.out.below (by repeat (first | with_reducible refine Below.setCell ?_ (by first | (simp; done) | (simp; omega) | omega) _ | with_reducible refine Below.alloc ?_ (by first | (simp; done) | (simp; omega) | omega) _ | with_reducible refine Below.drew ?_ | with_reducible refine below_drewN ?_ _ | with_reducible exact Below.refl _ _ | with_reducible refine Below.trans ?_ (Below.mono kB4_7 (by first | (simp; done) | (simp; omega) | omega))))).more (by first | (simp; done) | (simp; omega) | omega))).mono ?_; rintro x w8 ⟨rfl, hbn⟩
          have hk : KeptC w [(⟨w.heap.size, 0, none⟩, .string s), (⟨w.heap.size, 1, none⟩, .int .i64 e), (⟨w.heap.size, 2, none⟩, .int .i64 m), (⟨w.heap.size, 3, none⟩, .bool al), (⟨w.heap.size, 4, none⟩, .int .i64 k0), (⟨w.heap.size, 5, none⟩, .int .i64 sc)] [] w8 := KeptC.below (by (repeat' (first | refine KeptC.cons ?_ ?_ | refine KeptC.consF ?_ ?_ ?_ | refine KeptC.mk0 ?_)); all_goals (first | with_reducible assumption | (go_simp; done) | (simp; omega) | exact (by repeat (first | with_reducible refine Below.setCell ?_ (by first | (simp; done) | (simp; omega) | omega) _ | with_reducible refine Below.alloc ?_ (by first | (simp; done) | (simp; omega) | omega) _ | with_reducible refine Below.drew ?_ | with_reducible refine below_drewN ?_ _ | with_reducible exact Below.refl _ _ | with_reducible refine Below.trans ?_ (Below.mono kb7 (by first | (simp; done) | (simp; omega) | omega)))))) hbn
          simp only [KeptC, List.forall_mem_cons] at hk; obtain ⟨kb8, ⟨kc8_0, kc8_1, kc8_2, kc8_3, kc8_4, kc8_5, _⟩, _⟩ := hk
          have ks8 : w.heap.size ≤ w8.heap.size := kb8.size
          have kB3_8 : Below w3.heap.size w3 w8 := (by repeat (first | with_reducible refine Below.setCell ?_ (by first | (simp; done) | (simp; omega) | omega) _ | with_reducible refine Below.alloc ?_ (by first | (simp; done) | (simp; omega) | omega) _ | with_reducible refine Below.drew ?_ | with_reducible refine below_drewN ?_ _ | with_reducible exact Below.refl _ _ | with_reducible refine Below.trans ?_ (Below.mono kB3_7 (by first | (simp; done) | (simp; omega) | omega)) | with_reducible refine Below.trans ?_ (Below.mono hbn (by first | (simp; done) | (simp; omega) | omega))))
          have ks3_8 : w3.heap.size ≤ w8.heap.size := kB3_8.size
          have kB4_8 : Below w4.heap.size w4 w8 := (by repeat (first | with_reducible refine Below.setCell ?_ (by first | (simp; done) | (simp; omega) | omega) _ | with_reducible refine Below.alloc ?_ (by first | (simp; done) | (simp; omega) | omega) _ | with_reducible refine Below.drew ?_ | with_reducible refine below_drewN ?_ _ | with_reducible exact Below.refl _ _ | with_reducible refine Below.trans ?_ (Below.mono kB4_7 (by first | (simp; done) | (simp; omega) | omega)) | with_reducible refine Below.trans ?_ (Below.mono hbn (by first | (simp; done) | (simp; omega) | omega))))
          have ks4_8 : w4.heap.size ≤ w8.heap.size := kB4_8.size
          have kB5_8 : Below w5.heap.size w5 w8 := (by repeat (first | with_reducible refine Below.setCell ?_ (by first | (simp; done) | (simp; omega) | omega) _ | with_reducible refine Below.alloc ?_ (by first | (simp; done) | (simp; omega) | omega) _ | with_reducible refine Below.drew ?_ | with_reducible refine below_drewN ?_ _ | with_reducible exact Below.refl _ _ | with_reducible refine Below.trans ?_ (Below.mono kB5_7 (by first | (simp; done) | (simp; omega) | omega)) | with_reducible refine Below.trans ?_ (Below.mono hbn (by first | (simp; done) | (simp; omega) | omega))))
          have ks5_8 : w5.heap.size ≤ w8.heap.size := kB5_8.size
          have kx8_w : w.heap.size < w8.heap.size := cell_lt kc8_0
          clear hbn kb7 kc7_0 kc7_1 kc7_2 kc7_3 kc7_4 kc7_5 kB3_7 kB4_7 kB5_7 kx7_w
          go_wp2_with (fail)
          rcases HT.out with ⟨hwh, hfx, hne⟩ | ⟨hw3, hw4, hXe⟩
          · have HNE := Lib.hid hne
            have hfx' := fun W h => find_any B3 _ d3 X s W h (fit_hm HX.out.1)
            simp only [hfx, Option.getD_some, Option.isSome_some] at hfx'
            have HFX := Lib.hid hfx'
            clear hfx hfx' hne
            rcases hwh with rfl | rfl
            · refine (HFX.out _ ((HR3.out.below (by repeat (first | with_reducible refine Below.setCell ?_ (by first | (simp; done) | (simp; omega) | omega) _ | with_reducible refine Below.alloc ?_ (by first | (simp; done) | (simp; omega) | omega) _ | with_reducible refine Below.drew ?_ | with_reducible refine below_drewN ?_ _ | with_reducible exact Below.refl _ _ | with_reducible refine Below.trans ?_ (Below.mono kB3_8 (by first | (simp; done) | (simp; omega) | omega))))).more (by first | (simp; done) | (simp; omega) | omega))).mono ?_; rintro x w20 ⟨rfl, hbn⟩
              have hk : KeptC w [(⟨w.heap.size, 0, none⟩, .string s), (⟨w.heap.size, 1, none⟩, .int .i64 e), (⟨w.heap.size, 2, none⟩, .int .i64 m), (⟨w.heap.size, 3, none⟩, .bool al), (⟨w.heap.size, 4, none⟩, .int .i64 k0), (⟨w.heap.size, 5, none⟩, .int .i64 sc)] [] w20 := KeptC.below (by (repeat' (first | refine KeptC.cons ?_ ?_ | refine KeptC.consF ?_ ?_ ?_ | refine KeptC.mk0 ?_)); all_goals (first | with_reducible assumption | (go_simp; done) | (simp; omega) | exact (by repeat (first | with_reducible refine Below.setCell ?_ (by first | (simp; done) | (simp; omega) | omega) _ | with_reducible refine Below.alloc ?_ (by first | (simp; done) | (simp; omega) | omega) _ | with_reducible refine Below.drew ?_ | with_reducible refine below_drewN ?_ _ | with_reducible exact Below.refl _ _ | with_reducible refine Below.trans ?_ (Below.mono kb8 (by first | (simp; done) | (simp; omega) | omega)))))) hbn
              simp only [KeptC, List.forall_mem_cons] at hk; obtain ⟨kb20, ⟨kc20_0, kc20_1, kc20_2, kc20_3, kc20_4, kc20_5, _⟩, _⟩ := hk
              have ks20 : w.heap.size ≤ w20.heap.size := kb20.size
              have kB3_20 : Below w3.heap.size w3 w20 := (by repeat (first | with_reducible refine Below.setCell ?_ (by first | (simp; done) | (simp; omega) | omega) _ | with_reducible refine Below.alloc ?_ (by first | (simp; done) | (simp; omega) | omega) _ | with_reducible refine Below.drew ?_ | with_reducible refine below_drewN ?_ _ | with_reducible exact Below.refl _ _ | with_reducible refine Below.trans ?_ (Below.mono kB3_8 (by first | (simp; done) | (simp; omega) | omega)) | with_reducible refine Below.trans ?_ (Below.mono hbn (by first | (simp; done) | (simp; omega) | omega))))
              have ks3_20 : w3.heap.size ≤ w20.heap.size := kB3_20.size
              have kx20_w : w.heap.size < w20.heap.size := cell_lt kc20_0
              clear hbn kb8 kc8_0 kc8_1 kc8_2 kc8_3 kc8_4 kc8_5 kB3_8 kB4_8 kB5_8 kx8_w
              go_wp2_with (fail)
              have hS := fun W (h3 : Below w3.heap.size w3 W) (h : Below w.heap.size w W) => same_any B3 _ d3 X A _ cp ls W ((HR3.out.below h3).more h3.size) ((HR.out.below h).more h.size) (fit_hm HX.out.1) hm
              simp only [sameB_ne HNE.out] at hS
              refine (hS _ (by repeat (first | with_reducible refine Below.setCell ?_ (by first | (simp; done) | (simp; omega) | omega) _ | with_reducible refine Below.alloc ?_ (by first | (simp; done) | (simp; omega) | omega) _ | with_reducible refine Below.drew ?_ | with_reducible refine below_drewN ?_ _ | with_reducible exact Below.refl _ _ | with_reducible refine Below.trans ?_ (Below.mono kB3_20 (by first | (simp; done) | (simp; omega) | omega)))) (by repeat (first | with_reducible refine Below.setCell ?_ (by first | (simp; done) | (simp; omega) | omega) _ | with_reducible refine Below.alloc ?_ (by first | (simp; done) | (simp; omega) | omega) _ | with_reducible refine Below.drew ?_ | with_reducible refine below_drewN ?_ _ | with_reducible exact Below.refl _ _ | with_reducible refine Below.trans ?_ (Below.mono kb20 (by first | (simp; done) | (simp; omega) | omega))))).mono ?_; rintro x w21 ⟨rfl, hbn⟩
              have kb21 : Below w.heap.size w w21 := (by repeat (first | with_reducible refine Below.setCell ?_ (by first | (simp; done) | (simp; omega) | omega) _ | with_reducible refine Below.alloc ?_ (by first | (simp; done) | (simp; omega) | omega) _ | with_reducible refine Below.drew ?_ | with_reducible refine below_drewN ?_ _ | with_reducible exact Below.refl _ _ | with_reducible refine Below.trans ?_ (Below.mono kb20 (by first | (simp; done) | (simp; omega) | omega)) | with_reducible refine Below.trans ?_ (Below.mono hbn (by first | (simp; done) | (simp; omega) | omega))))
              have ks21 : w.heap.size ≤ w21.heap.size := kb21.size
              clear hbn kb20 kc20_0 kc20_1 kc20_2 kc20_3 kc20_4 kc20_5 kB3_20 kx20_w
              clear hS
              go_wp2_with (fail)
              refine (awake_any _).mono ?_; rintro x w22 ⟨rfl, hbn⟩
              have kb22 : Below w.heap.size w w22 := (by repeat (first | with_reducible refine Below.setCell ?_ (by first | (simp; done) | (simp; omega) | omega) _ | with_reducible refine Below.alloc ?_ (by first | (simp; done) | (simp; omega) | omega) _ | with_reducible refine Below.drew ?_ | with_reducible refine below_drewN ?_ _ | with_reducible exact Below.refl _ _ | with_reducible refine Below.trans ?_ (Below.mono kb21 (by first | (simp; done) | (simp; omega) | omega)) | with_reducible refine Below.trans ?_ (Below.mono hbn (by first | (simp; done) | (simp; omega) | omega))))
              have ks22 : w.heap.size ≤ w22.heap.size := kb22.size
              clear hbn kb21
              go_wp2
              go_ret
              exact ⟨rfl, kb22⟩
            · refine (HFX.out _ ((HR3.out.below (by repeat (first | with_reducible refine Below.setCell ?_ (by first | (simp; done) | (simp; omega) | omega) _ | with_reducible refine Below.alloc ?_ (by first | (simp; done) | (simp; omega) | omega) _ | with_reducible refine Below.drew ?_ | with_reducible refine below_drewN ?_ _ | with_reducible exact Below.refl _ _ | with_reducible refine Below.trans ?_ (Below.mono kB3_8 (by first | (simp; done) | (simp; omega) | omega))))).more (by first | (simp; done) | (simp; omega) | omega))).mono ?_; rintro x w20 ⟨rfl, hbn⟩
              have hk : KeptC w [(⟨w.heap.size, 0, none⟩, .string s), (⟨w.heap.size, 1, none⟩, .int .i64 e), (⟨w.heap.size, 2, none⟩, .int .i64 m), (⟨w.heap.size, 3, none⟩, .bool al), (⟨w.heap.size, 4, none⟩, .int .i64 k0), (⟨w.heap.size, 5, none⟩, .int .i64 sc)] [] w20 := KeptC.below (by (repeat' (first | refine KeptC.cons ?_ ?_ | refine KeptC.consF ?_ ?_ ?_ | refine KeptC.mk0 ?_)); all_goals (first | with_reducible assumption | (go_simp; done) | (simp; omega) | exact (by repeat (first | with_reducible refine Below.setCell ?_ (by first | (simp; done) | (simp; omega) | omega) _ | with_reducible refine Below.alloc ?_ (by first | (simp; done) | (simp; omega) | omega) _ | with_reducible refine Below.drew ?_ | with_reducible refine below_drewN ?_ _ | with_reducible exact Below.refl _ _ | with_reducible refine Below.trans ?_ (Below.mono kb8 (by first | (simp; done) | (simp; omega) | omega)))))) hbn
              simp only [KeptC, List.forall_mem_cons] at hk; obtain ⟨kb20, ⟨kc20_0, kc20_1, kc20_2, kc20_3, kc20_4, kc20_5, _⟩, _⟩ := hk
              have ks20 : w.heap.size ≤ w20.heap.size := kb20.size
              have kB3_20 : Below w3.heap.size w3 w20 := (by repeat (first | with_reducible refine Below.setCell ?_ (by first | (simp; done) | (simp; omega) | omega) _ | with_reducible refine Below.alloc ?_ (by first | (simp; done) | (simp; omega) | omega) _ | with_reducible refine Below.drew ?_ | with_reducible refine below_drewN ?_ _ | with_reducible exact Below.refl _ _ | with_reducible refine Below.trans ?_ (Below.mono kB3_8 (by first | (simp; done) | (simp; omega) | omega)) | with_reducible refine Below.trans ?_ (Below.mono hbn (by first | (simp; done) | (simp; omega) | omega))))
              have ks3_20 : w3.heap.size ≤ w20.heap.size := kB3_20.size
              have kx20_w : w.heap.size < w20.heap.size := cell_lt kc20_0
              clear hbn kb8 kc8_0 kc8_1 kc8_2 kc8_3 kc8_4 kc8_5 kB3_8 kB4_8 kB5_8 kx8_w
              go_wp2_with (fail)
              have hS := fun W (h3 : Below w3.heap.size w3 W) (h : Below w.heap.size w W) => same_any B3 _ d3 X A _ cp ls W ((HR3.out.below h3).more h3.size) ((HR.out.below h).more h.size) (fit_hm HX.out.1) hm
              simp only [sameB_ne HNE.out] at hS
              refine (hS _ (by repeat (first | with_reducible refine Below.setCell ?_ (by first | (simp; done) | (simp; omega) | omega) _ | with_reducible refine Below.alloc ?_ (by first | (simp; done) | (simp; omega) | omega) _ | with_reducible refine Below.drew ?_ | with_reducible refine below_drewN ?_ _ | with_reducible exact Below.refl _ _ | with_reducible refine Below.trans ?_ (Below.mono kB3_20 (by first | (simp; done) | (simp; omega) | omega)))) (by repeat (first | with_reducible refine Below.setCell ?_ (by first | (simp; done) | (simp; omega) | omega) _ | with_reducible refine Below.alloc ?_ (by first | (simp; done) | (simp; omega) | omega) _ | with_reducible refine Below.drew ?_ | with_reducible refine below_drewN ?_ _ | with_reducible exact Below.refl _ _ | with_reducible refine Below.trans ?_ (Below.mono kb20 (by first | (simp; done) | (simp; omega) | omega))))).mono ?_; rintro x w21 ⟨rfl, hbn⟩
              have kb21 : Below w.heap.size w w21 := (by repeat (first | with_reducible refine Below.setCell ?_ (by first | (simp; done) | (simp; omega) | omega) _ | with_reducible refine Below.alloc ?_ (by first | (simp; done) | (simp; omega) | omega) _ | with_reducible refine Below.drew ?_ | with_reducible refine below_drewN ?_ _ | with_reducible exact Below.refl _ _ | with_reducible refine Below.trans ?_ (Below.mono kb20 (by first | (simp; done) | (simp; omega) | omega)) | with_reducible refine Below.trans ?_ (Below.mono hbn (by first | (simp; done) | (simp; omega) | omega))))
              have ks21 : w.heap.size ≤ w21.heap.size := kb21.size
              clear hbn kb20 kc20_0 kc20_1 kc20_2 kc20_3 kc20_4 kc20_5 kB3_20 kx20_w
              clear hS
              go_wp2_with (fail)
              refine (awake_any _).mono ?_; rintro x w22 ⟨rfl, hbn⟩
              have kb22 : Below w.heap.size w w22 := (by repeat (first | with_reducible refine Below.setCell ?_ (by first | (simp; done) | (simp; omega) | omega) _ | with_reducible refine Below.alloc ?_ (by first | (simp; done) | (simp; omega) | omega) _ | with_reducible refine Below.drew ?_ | with_reducible refine below_drewN ?_ _ | with_reducible exact Below.refl _ _ | with_reducible refine Below.trans ?_ (Below.mono kb21 (by first | (simp; done) | (simp; omega) | omega)) | with_reducible refine Below.trans ?_ (Below.mono hbn (by first | (simp; done) | (simp; omega) | omega))))
              have ks22 : w.heap.size ≤ w22.heap.size := kb22.size
              clear hbn kb21
              go_wp2
              go_ret
              exact ⟨rfl, kb22⟩
          · have hb3 : (wh == 3) = false := by simpa using hw3
            have hb4 : (wh == 4) = false := by simpa using hw4
            have HXE := Lib.hid hXe
            have hfx' := fun W h => find_any B3 _ d3 X s W h (fit_hm HX.out.1)
            generalize (findL X s).isSome = fsm at hfx'
            generalize (findL X s).getD Ch0 = fr2 at hfx'
            have hcs := ch_cases fr2 ⟨s, e, m, al, k0, sc⟩
            obtain ⟨ns, ne, nw', na, nk, nc⟩ := fr2
            simp only [] at hfx' hcs
            have HFX := Lib.hid hfx'
            clear hfx' hXe
            rcases hcs with h | h | h | h | h | h | h
            · obtain ⟨g0, g1, g2, g3, g4, g5⟩ := Ch.mk.inj h
              clear h
              replace g0 := g0.symm; replace g1 := g1.symm; replace g2 := g2.symm; replace g3 := g3.symm; replace g4 := g4.symm; replace g5 := g5.symm
              subst g0 g1 g2 g3 g4 g5
              refine (HFX.out _ ((HR3.out.below (by repeat (first | with_reducible refine Below.setCell ?_ (by first | (simp; done) | (simp; omega) | omega) _ | with_reducible refine Below.alloc ?_ (by first | (simp; done) | (simp; omega) | omega) _ | with_reducible refine Below.drew ?_ | with_reducible refine below_drewN ?_ _ | with_reducible exact Below.refl _ _ | with_reducible refine Below.trans ?_ (Below.mono kB3_8 (by first | (simp; done) | (simp; omega) | omega))))).more (by first | (simp; done) | (simp; omega) | omega))).mono ?_; rintro x w20 ⟨rfl, hbn⟩
              have hk : KeptC w [(⟨w.heap.size, 0, none⟩, .string s), (⟨w.heap.size, 1, none⟩, .int .i64 e), (⟨w.heap.size, 2, none⟩, .int .i64 m), (⟨w.heap.size, 3, none⟩, .bool al), (⟨w.heap.size, 4, none⟩, .int .i64 k0), (⟨w.heap.size, 5, none⟩, .int .i64 sc)] [] w20 := KeptC.below (by (repeat' (first | refine KeptC.cons ?_ ?_ | refine KeptC.consF ?_ ?_ ?_ | refine KeptC.mk0 ?_)); all_goals (first | with_reducible assumption | (go_simp; done) | (simp; omega) | exact (by repeat (first | with_reducible refine Below.setCell ?_ (by first | (simp; done) | (simp; omega) | omega) _ | with_reducible refine Below.alloc ?_ (by first | (simp; done) | (simp; omega) | omega) _ | with_reducible refine Below.drew ?_ | with_reducible refine below_drewN ?_ _ | with_reducible exact Below.refl _ _ | with_reducible refine Below.trans ?_ (Below.mono kb8 (by first | (simp; done) | (simp; omega) | omega)))))) hbn
              simp only [KeptC, List.forall_mem_cons] at hk; obtain ⟨kb20, ⟨kc20_0, kc20_1, kc20_2, kc20_3, kc20_4, kc20_5, _⟩, _⟩ := hk
              have ks20 : w.heap.size ≤ w20.heap.size := kb20.size
              have kB3_20 : Below w3.heap.size w3 w20 := (by repeat (first | with_reducible refine Below.setCell ?_ (by first | (simp; done) | (simp; omega) | omega) _ | with_reducible refine Below.alloc ?_ (by first | (simp; done) | (simp; omega) | omega) _ | with_reducible refine Below.drew ?_ | with_reducible refine below_drewN ?_ _ | with_reducible exact Below.refl _ _ | with_reducible refine Below.trans ?_ (Below.mono kB3_8 (by first | (simp; done) | (simp; omega) | omega)) | with_reducible refine Below.trans ?_ (Below.mono hbn (by first | (simp; done) | (simp; omega) | omega))))
              have ks3_20 : w3.heap.size ≤ w20.heap.size := kB3_20.size
              have kx20_w : w.heap.size < w20.heap.size := cell_lt kc20_0
              clear hbn kb8 kc8_0 kc8_1 kc8_2 kc8_3 kc8_4 kc8_5 kB3_8 kB4_8 kB5_8 kx8_w
              go_wp2_with (fail)
              have hS := fun W (h3 : Below w3.heap.size w3 W) (h : Below w.heap.size w W) => same_any B3 _ d3 X A _ cp ls W ((HR3.out.below h3).more h3.size) ((HR.out.below h).more h.size) (fit_hm HX.out.1) hm
              simp only [sameB_eq HXE.out] at hS
              refine (hS _ (by repeat (first | with_reducible refine Below.setCell ?_ (by first | (simp; done) | (simp; omega) | omega) _ | with_reducible refine Below.alloc ?_ (by first | (simp; done) | (simp; omega) | omega) _ | with_reducible refine Below.drew ?_ | with_reducible refine below_drewN ?_ _ | with_reducible exact Below.refl _ _ | with_reducible refine Below.trans ?_ (Below.mono kB3_20 (by first | (simp; done) | (simp; omega) | omega)))) (by repeat (first | with_reducible refine Below.setCell ?_ (by first | (simp; done) | (simp; omega) | omega) _ | with_reducible refine Below.alloc ?_ (by first | (simp; done) | (simp; omega) | omega) _ | with_reducible refine Below.drew ?_ | with_reducible refine below_drewN ?_ _ | with_reducible exact Below.refl _ _ | with_reducible refine Below.trans ?_ (Below.mono kb20 (by first | (simp; done) | (simp; omega) | omega))))).mono ?_; rintro x w21 ⟨rfl, hbn⟩
              have kb21 : Below w.heap.size w w21 := (by repeat (first | with_reducible refine Below.setCell ?_ (by first | (simp; done) | (simp; omega) | omega) _ | with_reducible refine Below.alloc ?_ (by first | (simp; done) | (simp; omega) | omega) _ | with_reducible refine Below.drew ?_ | with_reducible refine below_drewN ?_ _ | with_reducible exact Below.refl _ _ | with_reducible refine Below.trans ?_ (Below.mono kb20 (by first | (simp; done) | (simp; omega) | omega)) | with_reducible refine Below.trans ?_ (Below.mono hbn (by first | (simp; done) | (simp; omega) | omega))))
              have ks21 : w.heap.size ≤ w21.heap.size := kb21.size
              clear hbn kb20 kc20_0 kc20_1 kc20_2 kc20_3 kc20_4 kc20_5 kB3_20 kx20_w
              clear hS
              go_wp2_with (fail)
              refine (awake_any _).mono ?_; rintro x w22 ⟨rfl, hbn⟩
              have kb22 : Below w.heap.size w w22 := (by repeat (first | with_reducible refine Below.setCell ?_ (by first | (simp; done) | (simp; omega) | omega) _ | with_reducible refine Below.alloc ?_ (by first | (simp; done) | (simp; omega) | omega) _ | with_reducible refine Below.drew ?_ | with_reducible refine below_drewN ?_ _ | with_reducible exact Below.refl _ _ | with_reducible refine Below.trans ?_ (Below.mono kb21 (by first | (simp; done) | (simp; omega) | omega)) | with_reducible refine Below.trans ?_ (Below.mono hbn (by first | (simp; done) | (simp; omega) | omega))))
              have ks22 : w.heap.size ≤ w22.heap.size := kb22.size
              clear hbn kb21
              go_wp2
              go_ret
              exact ⟨rfl, kb22⟩
            · refine (HFX.out _ ((HR3.out.below (by repeat (first | with_reducible refine Below.setCell ?_ (by first | (simp; done) | (simp; omega) | omega) _ | with_reducible refine Below.alloc ?_ (by first | (simp; done) | (simp; omega) | omega) _ | with_reducible refine Below.drew ?_ | with_reducible refine below_drewN ?_ _ | with_reducible exact Below.refl _ _ | with_reducible refine Below.trans ?_ (Below.mono kB3_8 (by first | (simp; done) | (simp; omega) | omega))))).more (by first | (simp; done) | (simp; omega) | omega))).mono ?_; rintro x w20 ⟨rfl, hbn⟩
              have hk : KeptC w [(⟨w.heap.size, 0, none⟩, .string s), (⟨w.heap.size, 1, none⟩, .int .i64 e), (⟨w.heap.size, 2, none⟩, .int .i64 m), (⟨w.heap.size, 3, none⟩, .bool al), (⟨w.heap.size, 4, none⟩, .int .i64 k0), (⟨w.heap.size, 5, none⟩, .int .i64 sc)] [] w20 := KeptC.below (by (repeat' (first | refine KeptC.cons ?_ ?_ | refine KeptC.consF ?_ ?_ ?_ | refine KeptC.mk0 ?_)); all_goals (first | with_reducible assumption | (go_simp; done) | (simp; omega) | exact (by repeat (first | with_reducible refine Below.setCell ?_ (by first | (simp; done) | (simp; omega) | omega) _ | with_reducible refine Below.alloc ?_ (by first | (simp; done) | (simp; omega) | omega) _ | with_reducible refine Below.drew ?_ | with_reducible refine below_drewN ?_ _ | with_reducible exact Below.refl _ _ | with_reducible refine Below.trans ?_ (Below.mono kb8 (by first | (simp; done) | (simp; omega) | omega)))))) hbn
              simp only [KeptC, List.forall_mem_cons] at hk; obtain ⟨kb20, ⟨kc20_0, kc20_1, kc20_2, kc20_3, kc20_4, kc20_5, _⟩, _⟩ := hk
              have ks20 : w.heap.size ≤ w20.heap.size := kb20.size
              have kB3_20 : Below w3.heap.size w3 w20 := (by repeat (first | with_reducible refine Below.setCell ?_ (by first | (simp; done) | (simp; omega) | omega) _ | with_reducible refine Below.alloc ?_ (by first | (simp; done) | (simp; omega) | omega) _ | with_reducible refine Below.drew ?_ | with_reducible refine below_drewN ?_ _ | with_reducible exact Below.refl _ _ | with_reducible refine Below.trans ?_ (Below.mono kB3_8 (by first | (simp; done) | (simp; omega) | omega)) | with_reducible refine Below.trans ?_ (Below.mono hbn (by first | (simp; done) | (simp; omega) | omega))))
              have ks3_20 : w3.heap.size ≤ w20.heap.size := kB3_20.size
              have kx20_w : w.heap.size < w20.heap.size := cell_lt kc20_0
              clear hbn kb8 kc8_0 kc8_1 kc8_2 kc8_3 kc8_4 kc8_5 kB3_8 kB4_8 kB5_8 kx8_w
              go_wp2_with (fail)
              refine (awake_any _).mono ?_; rintro x w22 ⟨rfl, hbn⟩
              have kb22 : Below w.heap.size w w22 := (by repeat (first | with_reducible refine Below.setCell ?_ (by first | (simp; done) | (simp; omega) | omega) _ | with_reducible refine Below.alloc ?_ (by first | (simp; done) | (simp; omega) | omega) _ | with_reducible refine Below.drew ?_ | with_reducible refine below_drewN ?_ _ | with_reducible exact Below.refl _ _ | with_reducible refine Below.trans ?_ (Below.mono kb20 (by first | (simp; done) | (simp; omega) | omega)) | with_reducible refine Below.trans ?_ (Below.mono hbn (by first | (simp; done) | (simp; omega) | omega))))
              have ks22 : w.heap.size ≤ w22.heap.size := kb22.size
              clear hbn kb20 kc20_0 kc20_1 kc20_2 kc20_3 kc20_4 kc20_5 kB3_20 kx20_w
              go_wp2
              go_ret
              exact ⟨rfl, kb22⟩
            · obtain ⟨g0, h⟩ := h
              replace g0 := g0.symm
              subst g0
              have hbq : (ne == e) = false := by simpa using h
              refine (HFX.out _ ((HR3.out.below (by repeat (first | with_reducible refine Below.setCell ?_ (by first | (simp; done) | (simp; omega) | omega) _ | with_reducible refine Below.alloc ?_ (by first | (simp; done) | (simp; omega) | omega) _ | with_reducible refine Below.drew ?_ | with_reducible refine below_drewN ?_ _ | with_reducible exact Below.refl _ _ | with_reducible refine Below.trans ?_ (Below.mono kB3_8 (by first | (simp; done) | (simp; omega) | omega))))).more (by first | (simp; done) | (simp; omega) | omega))).mono ?_; rintro x w20 ⟨rfl, hbn⟩
              have hk : KeptC w [(⟨w.heap.size, 0, none⟩, .string s), (⟨w.heap.size, 1, none⟩, .int .i64 e), (⟨w.heap.size, 2, none⟩, .int .i64 m), (⟨w.heap.size, 3, none⟩, .bool al), (⟨w.heap.size, 4, none⟩, .int .i64 k0), (⟨w.heap.size, 5, none⟩, .int .i64 sc)] [] w20 := KeptC.below (by (repeat' (first | refine KeptC.cons ?_ ?_ | refine KeptC.consF ?_ ?_ ?_ | refine KeptC.mk0 ?_)); all_goals (first | with_reducible assumption | (go_simp; done) | (simp; omega) | exact (by repeat (first | with_reducible refine Below.setCell ?_ (by first | (simp; done) | (simp; omega) | omega) _ | with_reducible refine Below.alloc ?_ (by first | (simp; done) | (simp; omega) | omega) _ | with_reducible refine Below.drew ?_ | with_reducible refine below_drewN ?_ _ | with_reducible exact Below.refl _ _ | with_reducible refine Below.trans ?_ (Below.mono kb8 (by first | (simp; done) | (simp; omega) | omega)))))) hbn
              simp only [KeptC, List.forall_mem_cons] at hk; obtain ⟨kb20, ⟨kc20_0, kc20_1, kc20_2, kc20_3, kc20_4, kc20_5, _⟩, _⟩ := hk
              have ks20 : w.heap.size ≤ w20.heap.size := kb20.size
              have kB3_20 : Below w3.heap.size w3 w20 := (by repeat (first | with_reducible refine Below.setCell ?_ (by first | (simp; done) | (simp; omega) | omega) _ | with_reducible refine Below.alloc ?_ (by first | (simp; done) | (simp; omega) | omega) _ | with_reducible refine Below.drew ?_ | with_reducible refine below_drewN ?_ _ | with_reducible exact Below.refl _ _ | with_reducible refine Below.trans ?_ (Below.mono kB3_8 (by first | (simp; done) | (simp; omega) | omega)) | with_reducible refine Below.trans ?_ (Below.mono hbn (by first | (simp; done) | (simp; omega) | omega))))
              have ks3_20 : w3.heap.size ≤ w20.heap.size := kB3_20.size
              have kx20_w : w.heap.size < w20.heap.size := cell_lt kc20_0
              clear hbn kb8 kc8_0 kc8_1 kc8_2 kc8_3 kc8_4 kc8_5 kB3_8 kB4_8 kB5_8 kx8_w
              go_wp2_with (fail)
              refine (awake_any _).mono ?_; rintro x w22 ⟨rfl, hbn⟩
              have kb22 : Below w.heap.size w w22 := (by repeat (first | with_reducible refine Below.setCell ?_ (by first | (simp; done) | (simp; omega) | omega) _ | with_reducible refine Below.alloc ?_ (by first | (simp; done) | (simp; omega) | omega) _ | with_reducible refine Below.drew ?_ | with_reducible refine below_drewN ?_ _ | with_reducible exact Below.refl _ _ | with_reducible refine Below.trans ?_ (Below.mono kb20 (by first | (simp; done) | (simp; omega) | omega)) | with_reducible refine Below.trans ?_ (Below.mono hbn (by first | (simp; done) | (simp; omega) | omega))))
              have ks22 : w.heap.size ≤ w22.heap.size := kb22.size
              clear hbn kb20 kc20_0 kc20_1 kc20_2 kc20_3 kc20_4 kc20_5 kB3_20 kx20_w
              go_wp2
              go_ret
              exact ⟨rfl, kb22⟩
            · obtain ⟨g0, g1, h⟩ := h
              replace g0 := g0.symm; replace g1 := g1.symm
              subst g0 g1
              have hbq : (nw' == m) = false := by simpa using h
              refine (HFX.out _ ((HR3.out.below (by repeat (first | with_reducible refine Below.setCell ?_ (by first | (simp; done) | (simp; omega) | omega) _ | with_reducible refine Below.alloc ?_ (by first | (simp; done) | (simp; omega) | omega) _ | with_reducible refine Below.drew ?_ | with_reducible refine below_drewN ?_ _ | with_reducible exact Below.refl _ _ | with_reducible refine Below.trans ?_ (Below.mono kB3_8 (by first | (simp; done) | (simp; omega) | omega))))).more (by first | (simp; done) | (simp; omega) | omega))).mono ?_; rintro x w20 ⟨rfl, hbn⟩
              have hk : KeptC w [(⟨w.heap.size, 0, none⟩, .string s), (⟨w.heap.size, 1, none⟩, .int .i64 e), (⟨w.heap.size, 2, none⟩, .int .i64 m), (⟨w.heap.size, 3, none⟩, .bool al), (⟨w.heap.size, 4, none⟩, .int .i64 k0), (⟨w.heap.size, 5, none⟩, .int .i64 sc)] [] w20 := KeptC.below (by (repeat' (first | refine KeptC.cons ?_ ?_ | refine KeptC.consF ?_ ?_ ?_ | refine KeptC.mk0 ?_)); all_goals (first | with_reducible assumption | (go_simp; done) | (simp; omega) | exact (by repeat (first | with_reducible refine Below.setCell ?_ (by first | (simp; done) | (simp; omega) | omega) _ | with_reducible refine Below.alloc ?_ (by first | (simp; done) | (simp; omega) | omega) _ | with_reducible refine Below.drew ?_ | with_reducible refine below_drewN ?_ _ | with_reducible exact Below.refl _ _ | with_reducible refine Below.trans ?_ (Below.mono kb8 (by first | (simp; done) | (simp; omega) | omega)))))) hbn
              simp only [KeptC, List.forall_mem_cons] at hk; obtain ⟨kb20, ⟨kc20_0, kc20_1, kc20_2, kc20_3, kc20_4, kc20_5, _⟩, _⟩ := hk
              have ks20 : w.heap.size ≤ w20.heap.size := kb20.size
              have kB3_20 : Below w3.heap.size w3 w20 := (by repeat (first | with_reducible refine Below.setCell ?_ (by first | (simp; done) | (simp; omega) | omega) _ | with_reducible refine Below.alloc ?_ (by first | (simp; done) | (simp; omega) | omega) _ | with_reducible refine Below.drew ?_ | with_reducible refine below_drewN ?_ _ | with_reducible exact Below.refl _ _ | with_reducible refine Below.trans ?_ (Below.mono kB3_8 (by first | (simp; done) | (simp; omega) | omega)) | with_reducible refine Below.trans ?_ (Below.mono hbn (by first | (simp; done) | (simp; omega) | omega))))
              have ks3_20 : w3.heap.size ≤ w20.heap.size := kB3_20.size
              have kx20_w : w.heap.size < w20.heap.size := cell_lt kc20_0
              clear hbn kb8 kc8_0 kc8_1 kc8_2 kc8_3 kc8_4 kc8_5 kB3_8 kB4_8 kB5_8 kx8_w
              go_wp2_with (fail)
              refine (awake_any _).mono ?_; rintro x w22 ⟨rfl, hbn⟩
              have kb22 : Below w.heap.size w w22 := (by repeat (first | with_reducible refine Below.setCell ?_ (by first | (simp; done) | (simp; omega) | omega) _ | with_reducible refine Below.alloc ?_ (by first | (simp; done) | (simp; omega) | omega) _ | with_reducible refine Below.drew ?_ | with_reducible refine below_drewN ?_ _ | with_reducible exact Below.refl _ _ | with_reducible refine Below.trans ?_ (Below.mono kb20 (by first | (simp; done) | (simp; omega) | omega)) | with_reducible refine Below.trans ?_ (Below.mono hbn (by first | (simp; done) | (simp; omega) | omega))))
              have ks22 : w.heap.size ≤ w22.heap.size := kb22.size
              clear hbn kb20 kc20_0 kc20_1 kc20_2 kc20_3 kc20_4 kc20_5 kB3_20 kx20_w
              go_wp2
              go_ret
              exact ⟨rfl, kb22⟩
            · obtain ⟨g0, g1, g2, h⟩ := h
              replace g0 := g0.symm; replace g1 := g1.symm; replace g2 := g2.symm
              subst g0 g1 g2
              subst h
              refine (HFX.out _ ((HR3.out.below (by repeat (first | with_reducible refine Below.setCell ?_ (by first | (simp; done) | (simp; omega) | omega) _ | with_reducible refine Below.alloc ?_ (by first | (simp; done) | (simp; omega) | omega) _ | with_reducible refine Below.drew ?_ | with_reducible refine below_drewN ?_ _ | with_reducible exact Below.refl _ _ | with_reducible refine Below.trans ?_ (Below.mono kB3_8 (by first | (simp; done) | (simp; omega) | omega))))).more (by first | (simp; done) | (simp; omega) | omega))).mono ?_; rintro x w20 ⟨rfl, hbn⟩
              have hk : KeptC w [(⟨w.heap.size, 0, none⟩, .string s), (⟨w.heap.size, 1, none⟩, .int .i64 e), (⟨w.heap.size, 2, none⟩, .int .i64 m), (⟨w.heap.size, 3, none⟩, .bool al), (⟨w.heap.size, 4, none⟩, .int .i64 k0), (⟨w.heap.size, 5, none⟩, .int .i64 sc)] [] w20 := KeptC.below (by (repeat' (first | refine KeptC.cons ?_ ?_ | refine KeptC.consF ?_ ?_ ?_ | refine KeptC.mk0 ?_)); all_goals (first | with_reducible assumption | (go_simp; done) | (simp; omega) | exact (by repeat (first | with_reducible refine Below.setCell ?_ (by first | (simp; done) | (simp; omega) | omega) _ | with_reducible refine Below.alloc ?_ (by first | (simp; done) | (simp; omega) | omega) _ | with_reducible refine Below.drew ?_ | with_reducible refine below_drewN ?_ _ | with_reducible exact Below.refl _ _ | with_reducible refine Below.trans ?_ (Below.mono kb8 (by first | (simp; done) | (simp; omega) | omega)))))) hbn
              simp only [KeptC, List.forall_mem_cons] at hk; obtain ⟨kb20, ⟨kc20_0, kc20_1, kc20_2, kc20_3, kc20_4, kc20_5, _⟩, _⟩ := hk
              have ks20 : w.heap.size ≤ w20.heap.size := kb20.size
              have kB3_20 : Below w3.heap.size w3 w20 := (by repeat (first | with_reducible refine Below.setCell ?_ (by first | (simp; done) | (simp; omega) | omega) _ | with_reducible refine Below.alloc ?_ (by first | (simp; done) | (simp; omega) | omega) _ | with_reducible refine Below.drew ?_ | with_reducible refine below_drewN ?_ _ | with_reducible exact Below.refl _ _ | with_reducible refine Below.trans ?_ (Below.mono kB3_8 (by first | (simp; done) | (simp; omega) | omega)) | with_reducible refine Below.trans ?_ (Below.mono hbn (by first | (simp; done) | (simp; omega) | omega))))
              have ks3_20 : w3.heap.size ≤ w20.heap.size := kB3_20.size
              have kx20_w : w.heap.size < w20.heap.size := cell_lt kc20_0
              clear hbn kb8 kc8_0 kc8_1 kc8_2 kc8_3 kc8_4 kc8_5 kB3_8 kB4_8 kB5_8 kx8_w
              go_wp2_with (fail)
              refine (awake_any _).mono ?_; rintro x w22 ⟨rfl, hbn⟩
              have kb22 : Below w.heap.size w w22 := (by repeat (first | with_reducible refine Below.setCell ?_ (by first | (simp; done) | (simp; omega) | omega) _ | with_reducible refine Below.alloc ?_ (by first | (simp; done) | (simp; omega) | omega) _ | with_reducible refine Below.drew ?_ | with_reducible refine below_drewN ?_ _ | with_reducible exact Below.refl _ _ | with_reducible refine Below.trans ?_ (Below.mono kb20 (by first | (simp; done) | (simp; omega) | omega)) | with_reducible refine Below.trans ?_ (Below.mono hbn (by first | (simp; done) | (simp; omega) | omega))))
              have ks22 : w.heap.size ≤ w22.heap.size := kb22.size
              clear hbn kb20 kc20_0 kc20_1 kc20_2 kc20_3 kc20_4 kc20_5 kB3_20 kx20_w
              go_wp2
              go_ret
              exact ⟨rfl, kb22⟩
            · obtain ⟨g0, g1, g2, g3, h⟩ := h
              replace g0 := g0.symm; replace g1 := g1.symm; replace g2 := g2.symm; replace g3 := g3.symm
              subst g0 g1 g2 g3
              have hbq : (nk == k0) = false := by simpa using h
              refine (HFX.out _ ((HR3.out.below (by repeat (first | with_reducible refine Below.setCell ?_ (by first | (simp; done) | (simp; omega) | omega) _ | with_reducible refine Below.alloc ?_ (by first | (simp; done) | (simp; omega) | omega) _ | with_reducible refine Below.drew ?_ | with_reducible refine below_drewN ?_ _ | with_reducible exact Below.refl _ _ | with_reducible refine Below.trans ?_ (Below.mono kB3_8 (by first | (simp; done) | (simp; omega) | omega))))).more (by first | (simp; done) | (simp; omega) | omega))).mono ?_; rintro x w20 ⟨rfl, hbn⟩
              have hk : KeptC w [(⟨w.heap.size, 0, none⟩, .string s), (⟨w.heap.size, 1, none⟩, .int .i64 e), (⟨w.heap.size, 2, none⟩, .int .i64 m), (⟨w.heap.size, 3, none⟩, .bool al), (⟨w.heap.size, 4, none⟩, .int .i64 k0), (⟨w.heap.size, 5, none⟩, .int .i64 sc)] [] w20 := KeptC.below (by (repeat' (first | refine KeptC.cons ?_ ?_ | refine KeptC.consF ?_ ?_ ?_ | refine KeptC.mk0 ?_)); all_goals (first | with_reducible assumption | (go_simp; done) | (simp; omega) | exact (by repeat (first | with_reducible refine Below.setCell ?_ (by first | (simp; done) | (simp; omega) | omega) _ | with_reducible refine Below.alloc ?_ (by first | (simp; done) | (simp; omega) | omega) _ | with_reducible refine Below.drew ?_ | with_reducible refine below_drewN ?_ _ | with_reducible exact Below.refl _ _ | with_reducible refine Below.trans ?_ (Below.mono kb8 (by first | (simp; done) | (simp; omega) | omega)))))) hbn
              simp only [KeptC, List.forall_mem_cons] at hk; obtain ⟨kb20, ⟨kc20_0, kc20_1, kc20_2, kc20_3, kc20_4, kc20_5, _⟩, _⟩ := hk
              have ks20 : w.heap.size ≤ w20.heap.size := kb20.size
              have kB3_20 : Below w3.heap.size w3 w20 := (by repeat (first | with_reducible refine Below.setCell ?_ (by first | (simp; done) | (simp; omega) | omega) _ | with_reducible refine Below.alloc ?_ (by first | (simp; done) | (simp; omega) | omega) _ | with_reducible refine Below.drew ?_ | with_reducible refine below_drewN ?_ _ | with_reducible exact Below.refl _ _ | with_reducible refine Below.trans ?_ (Below.mono kB3_8 (by first | (simp; done) | (simp; omega) | omega)) | with_reducible refine Below.trans ?_ (Below.mono hbn (by first | (simp; done) | (simp; omega) | omega))))
              have ks3_20 : w3.heap.size ≤ w20.heap.size := kB3_20.size
              have kx20_w : w.heap.size < w20.heap.size := cell_lt kc20_0
              clear hbn kb8 kc8_0 kc8_1 kc8_2 kc8_3 kc8_4 kc8_5 kB3_8 kB4_8 kB5_8 kx8_w
              go_wp2_with (fail)
              refine (awake_any _).mono ?_; rintro x w22 ⟨rfl, hbn⟩
              have kb22 : Below w.heap.size w w22 := (by repeat (first | with_reducible refine Below.setCell ?_ (by first | (simp; done) | (simp; omega) | omega) _ | with_reducible refine Below.alloc ?_ (by first | (simp; done) | (simp; omega) | omega) _ | with_reducible refine Below.drew ?_ | with_reducible refine below_drewN ?_ _ | with_reducible exact Below.refl _ _ | with_reducible refine Below.trans ?_ (Below.mono kb20 (by first | (simp; done) | (simp; omega) | omega)) | with_reducible refine Below.trans ?_ (Below.mono hbn (by first | (simp; done) | (simp; omega) | omega))))
              have ks22 : w.heap.size ≤ w22.heap.size := kb22.size
              clear hbn kb20 kc20_0 kc20_1 kc20_2 kc20_3 kc20_4 kc20_5 kB3_20 kx20_w
              go_wp2
              go_ret
              exact ⟨rfl, kb22⟩
            · obtain ⟨g0, g1, g2, g3, g4, h⟩ := h
              replace g0 := g0.symm; replace g1 := g1.symm; replace g2 := g2.symm; replace g3 := g3.symm; replace g4 := g4.symm
              subst g0 g1 g2 g3 g4
              have hbq : (nc == sc) = false := by simpa using h
              refine (HFX.out _ ((HR3.out.below (by repeat (first | with_reducible refine Below.setCell ?_ (by first | (simp; done) | (simp; omega) | omega) _ | with_reducible refine Below.alloc ?_ (by first | (simp; done) | (simp; omega) | omega) _ | with_reducible refine Below.drew ?_ | with_reducible refine below_drewN ?_ _ | with_reducible exact Below.refl _ _ | with_reducible refine Below.trans ?_ (Below.mono kB3_8 (by first | (simp; done) | (simp; omega) | omega))))).more (by first | (simp; done) | (simp; omega) | omega))).mono ?_; rintro x w20 ⟨rfl, hbn⟩
              have hk : KeptC w [(⟨w.heap.size, 0, none⟩, .string s), (⟨w.heap.size, 1, none⟩, .int .i64 e), (⟨w.heap.size, 2, none⟩, .int .i64 m), (⟨w.heap.size, 3, none⟩, .bool al), (⟨w.heap.size, 4, none⟩, .int .i64 k0), (⟨w.heap.size, 5, none⟩, .int .i64 sc)] [] w20 := KeptC.below (by (repeat' (first | refine KeptC.cons ?_ ?_ | refine KeptC.consF ?_ ?_ ?_ | refine KeptC.mk0 ?_)); all_goals (first | with_reducible assumption | (go_simp; done) | (simp; omega) | exact (by repeat (first | with_reducible refine Below.setCell ?_ (by first | (simp; done) | (simp; omega) | omega) _ | with_reducible refine Below.alloc ?_ (by first | (simp; done) | (simp; omega) | omega) _ | with_reducible refine Below.drew ?_ | with_reducible refine below_drewN ?_ _ | with_reducible exact Below.refl _ _ | with_reducible refine Below.trans ?_ (Below.mono kb8 (by first | (simp; done) | (simp; omega) | omega)))))) hbn
              simp only [KeptC, List.forall_mem_cons] at hk; obtain ⟨kb20, ⟨kc20_0, kc20_1, kc20_2, kc20_3, kc20_4, kc20_5, _⟩, _⟩ := hk
              have ks20 : w.heap.size ≤ w20.heap.size := kb20.size
              have kB3_20 : Below w3.heap.size w3 w20 := (by repeat (first | with_reducible refine Below.setCell ?_ (by first | (simp; done) | (simp; omega) | omega) _ | with_reducible refine Below.alloc ?_ (by first | (simp; done) | (simp; omega) | omega) _ | with_reducible refine Below.drew ?_ | with_reducible refine below_drewN ?_ _ | with_reducible exact Below.refl _ _ | with_reducible refine Below.trans ?_ (Below.mono kB3_8 (by first | (simp; done) | (simp; omega) | omega)) | with_reducible refine Below.trans ?_ (Below.mono hbn (by first | (simp; done) | (simp; omega) | omega))))
              have ks3_20 : w3.heap.size ≤ w20.heap.size := kB3_20.size
              have kx20_w : w.heap.size < w20.heap.size := cell_lt kc20_0
              clear hbn kb8 kc8_0 kc8_1 kc8_2 kc8_3 kc8_4 kc8_5 kB3_8 kB4_8 kB5_8 kx8_w
              go_wp2_with (fail)
              refine (awake_any _).mono ?_; rintro x w22 ⟨rfl, hbn⟩
              have kb22 : Below w.heap.size w w22 := (by repeat (first | with_reducible refine Below.setCell ?_ (by first | (simp; done) | (simp; omega) | omega) _ | with_reducible refine Below.alloc ?_ (by first | (simp; done) | (simp; omega) | omega) _ | with_reducible refine Below.drew ?_ | with_reducible refine below_drewN ?_ _ | with_reducible exact Below.refl _ _ | with_reducible refine Below.trans ?_ (Below.mono kb20 (by first | (simp; done) | (simp; omega) | omega)) | with_reducible refine Below.trans ?_ (Below.mono hbn (by first | (simp; done) | (simp; omega) | omega))))
              have ks22 : w.heap.size ≤ w22.heap.size := kb22.size
              clear hbn kb20 kc20_0 kc20_1 kc20_2 kc20_3 kc20_4 kc20_5 kB3_20 kx20_w
              go_wp2
              go_ret
              exact ⟨rfl, kb22⟩
        · obtain ⟨os, oe, om, oa, ok, oc⟩ := o
          simp only [] at hoa hst
          subst hoa
          have hO := C4.out
          simp only [hfo, Option.getD_some, Option.isSome_some] at hO
          have hN := fun W => newerC_any nm ep mk true k1 sc1 os oe om false ok oc W
          simp only [hst] at hN
          have HN := Lib.hid hN
          clear hN hst
          go_wp2_with (fail)
          refine (hO _ (by repeat (first | with_reducible refine Below.setCell ?_ (by first | (simp; done) | (simp; omega) | omega) _ | with_reducible refine Below.alloc ?_ (by first | (simp; done) | (simp; omega) | omega) _ | with_reducible refine Below.drew ?_ | with_reducible refine below_drewN ?_ _ | with_reducible exact Below.refl _ _ | with_reducible refine Below.trans ?_ (Below.mono kbr (by first | (simp; done) | (simp; omega) | omega))))).mono ?_; rintro x w7 ⟨rfl, hbn⟩
          have hk : KeptC w [(⟨w.heap.size, 0, none⟩, .string s), (⟨w.heap.size, 1, none⟩, .int .i64 e), (⟨w.heap.size, 2, none⟩, .int .i64 m), (⟨w.heap.size, 3, none⟩, .bool al), (⟨w.heap.size, 4, none⟩, .int .i64 k0), (⟨w.heap.size, 5, none⟩, .int .i64 sc)] [] w7 := KeptC.below (by (repeat' (first | refine KeptC.cons ?_ ?_ | refine KeptC.consF ?_ ?_ ?_ | refine KeptC.mk0 ?_)); all_goals (first | with_reducible assumption | (go_simp; done) | (simp; omega) | exact (by repeat (first | with_reducible refine Below.setCell ?_ (by first | (simp; done) | (simp; omega) | omega) _ | with_reducible refine Below.alloc ?_ (by first | (simp; done) | (simp; omega) | omega) _ | with_reducible refine Below.drew ?_ | with_reducible refine below_drewN ?_ _ | with_reducible exact Below.refl _ _ | with_reducible refine Below.trans ?_ (Below.mono kbr (by first | (simp; done) | (simp; omega) | omega)))))) hbn
          simp only [KeptC, List.forall_mem_cons] at hk; obtain ⟨kb7, ⟨kc7_0, kc7_1, kc7_2, kc7_3, kc7_4, kc7_5, _⟩, _⟩ := hk
          have ks7 : w.heap.size ≤ w7.heap.size := kb7.size
          have kB3_7 : Below w3.heap.size w3 w7 := (by repeat (first | with_reducible refine Below.setCell ?_ (by first | (simp; done) | (simp; omega) | omega) _ | with_reducible refine Below.alloc ?_ (by first | (simp; done) | (simp; omega) | omega) _ | with_reducible refine Below.drew ?_ | with_reducible refine below_drewN ?_ _ | with_reducible exact Below.refl _ _ | with_reducible refine Below.trans ?_ (Below.mono kB3_r (by first | (simp; done) | (simp; omega) | omega)) | with_reducible refine Below.trans ?_ (Below.mono hbn (by first | (simp; done) | (simp; omega) | omega))))
          have ks3_7 : w3.heap.size ≤ w7.heap.size := kB3_7.size
          have kB4_7 : Below w4.heap.size w4 w7 := (by repeat (first | with_reducible refine Below.setCell ?_ (by first | (simp; done) | (simp; omega) | omega) _ | with_reducible refine Below.alloc ?_ (by first | (simp; done) | (simp; omega) | omega) _ | with_reducible refine Below.drew ?_ | with_reducible refine below_drewN ?_ _ | with_reducible exact Below.refl _ _ | with_reducible refine Below.trans ?_ (Below.mono kB4_r (by first | (simp; done) | (simp; omega) | omega)) | with_reducible refine Below.trans ?_ (Below.mono hbn (by first | (simp; done) | (simp; omega) | omega))))
          have ks4_7 : w4.heap.size ≤ w7.heap.size := kB4_7.size
          have kB5_7 : Below w5.heap.size w5 w7 := (by repeat (first | with_reducible refine Below.setCell ?_ (by first | (simp; done) | (simp; omega) | omega) _ | with_reducible refine Below.alloc ?_ (by first | (simp; done) | (simp; omega) | omega) _ | with_reducible refine Below.drew ?_ | with_reducible refine below_drewN ?_ _ | with_reducible exact Below.refl _ _ | with_reducible refine Below.trans ?_ (Below.mono kB5_r (by first | (simp; done) | (simp; omega) | omega)) | with_reducible refine Below.trans ?_ (Below.mono hbn (by first | (simp; done) | (simp; omega) | omega))))
          have ks5_7 : w5.heap.size ≤ w7.heap.size := kB5_7.size
          have kx7_w : w.heap.size < w7.heap.size := cell_lt kc7_0
          clear hbn kbr kB3_r kB4_r kB5_r kxr_w kcr_0 kcr_1 kcr_2 kcr_3 kcr_4 kcr_5
          clear hO
          go_wp2_with (fail)
          refine (HFY.out _ ((HR4.out.below (by repeat (first | with_reducible refine Below.setCell ?_ (by first | (simp; done) | (simp; omega) | omega) _ | with_reducible refine Below.alloc ?_ (by first | (simp; done) | (simp; omega) | omega) _ | with_reducible refine Below.drew ?_ | with_reducible refine below_drewN ?_ _ | with_reducible exact Below.refl _ _ | with_reducible refine Below.trans ?_ (Below.mono kB4_7 (by first | (simp; done) | (simp; omega) | omega))))).more (by first | (simp; done) | (simp; omega) | omega))).mono ?_; rintro x w8 ⟨rfl, hbn⟩
          have hk : KeptC w [(⟨w.heap.size, 0, none⟩, .string s), (⟨w.heap.size, 1, none⟩, .int .i64 e), (⟨w.heap.size, 2, none⟩, .int .i64 m), (⟨w.heap.size, 3, none⟩, .bool al), (⟨w.heap.size, 4, none⟩, .int .i64 k0), (⟨w.heap.size, 5, none⟩, .int .i64 sc), (⟨w7.heap.size, 0, none⟩, .string os), (⟨w7.heap.size, 1, none⟩, .int .i64 oe), (⟨w7.heap.size, 2, none⟩, .int .i64 om), (⟨w7.heap.size, 3, none⟩, .bool false), (⟨w7.heap.size, 4, none⟩, .int .i64 ok), (⟨w7.heap.size, 5, none⟩, .int .i64 oc)] [] w8 := KeptC.below (by (repeat' (first | refine KeptC.cons ?_ ?_ | refine KeptC.consF ?_ ?_ ?_ | refine KeptC.mk0 ?_)); all_goals (first | with_reducible assumption | (go_simp; done) | (simp; omega) | exact (by repeat (first | with_reducible refine Below.setCell ?_ (by first | (simp; done) | (simp; omega) | omega) _ | with_reducible refine Below.alloc ?_ (by first | (simp; done) | (simp; omega) | omega) _ | with_reducible refine Below.drew ?_ | with_reducible refine below_drewN ?_ _ | with_reducible exact Below.refl _ _ | with_reducible refine Below.trans ?_ (Below.mono kb7 (by first | (simp; done) | (simp; omega) | omega)))))) hbn
          simp only [KeptC, List.forall_mem_cons] at hk; obtain ⟨kb8, ⟨kc8_0, kc8_1, kc8_2, kc8_3, kc8_4, kc8_5, kc8_6, kc8_7, kc8_8, kc8_9, kc8_10, kc8_11, _⟩, _⟩ := hk
          have ks8 : w.heap.size ≤ w8.heap.size := kb8.size
          have kB3_8 : Below w3.heap.size w3 w8 := (by repeat (first | with_reducible refine Below.setCell ?_ (by first | (simp; done) | (simp; omega) | omega) _ | with_reducible refine Below.alloc ?_ (by first | (simp; done) | (simp; omega) | omega) _ | with_reducible refine Below.drew ?_ | with_reducible refine below_drewN ?_ _ | with_reducible exact Below.refl _ _ | with_reducible refine Below.trans ?_ (Below.mono kB3_7 (by first | (simp; done) | (simp; omega) | omega)) | with_reducible refine Below.trans ?_ (Below.mono hbn (by first | (simp; done) | (simp; omega) | omega))))
          have ks3_8 : w3.heap.size ≤ w8.heap.size := kB3_8.size
          have kB4_8 : Below w4.heap.size w4 w8 := (by repeat (first | with_reducible refine Below.setCell ?_ (by first | (simp; done) | (simp; omega) | omega) _ | with_reducible refine Below.alloc ?_ (by first | (simp; done) | (simp; omega) | omega) _ | with_reducible refine Below.drew ?_ | with_reducible refine below_drewN ?_ _ | with_reducible exact Below.refl _ _ | with_reducible refine Below.trans ?_ (Below.mono kB4_7 (by first | (simp; done) | (simp; omega) | omega)) | with_reducible refine Below.trans ?_ (Below.mono hbn (by first | (simp; done) | (simp; omega) | omega))))
          have ks4_8 : w4.heap.size ≤ w8.heap.size := kB4_8.size
          have kB5_8 : Below w5.heap.size w5 w8 := (by repeat (first | with_reducible refine Below.setCell ?_ (by first | (simp; done) | (simp; omega) | omega) _ | with_reducible refine Below.alloc ?_ (by first | (simp; done) | (simp; omega) | omega) _ | with_reducible refine Below.drew ?_ | with_reducible refine below_drewN ?_ _ | with_reducible exact Below.refl _ _ | with_reducible refine Below.trans ?_ (Below.mono kB5_7 (by first | (simp; done) | (simp; omega) | omega)) | with_reducible refine Below.trans ?_ (Below.mono hbn (by first | (simp; done) | (simp; omega) | omega))))
          have ks5_8 : w5.heap.size ≤ w8.heap.size := kB5_8.size
          have kx8_w : w.heap.size < w8.heap.size := cell_lt kc8_0
          have kx8_w7 : w7.heap.size < w8.heap.size := cell_lt kc8_6
          clear hbn kb7 kc7_0 kc7_1 kc7_2 kc7_3 kc7_4 kc7_5 kB3_7 kB4_7 kB5_7 kx7_w
          go_wp2_with (fail)
          refine (HN.out _).mono ?_; rintro x w9 ⟨rfl, hbn⟩
          have hk : KeptC w [(⟨w.heap.size, 0, none⟩, .string s), (⟨w.heap.size, 1, none⟩, .int .i64 e), (⟨w.heap.size, 2, none⟩, .int .i64 m), (⟨w.heap.size, 3, none⟩, .bool al), (⟨w.heap.size, 4, none⟩, .int .i64 k0), (⟨w.heap.size, 5, none⟩, .int .i64 sc), (⟨w7.heap.size, 0, none⟩, .string os), (⟨w7.heap.size, 1, none⟩, .int .i64 oe), (⟨w7.heap.size, 2, none⟩, .int .i64 om), (⟨w7.heap.size, 3, none⟩, .bool false), (⟨w7.heap.size, 4, none⟩, .int .i64 ok), (⟨w7.heap.size, 5, none⟩, .int .i64 oc)] [] w9 := KeptC.below (by (repeat' (first | refine KeptC.cons ?_ ?_ | refine KeptC.consF ?_ ?_ ?_ | refine KeptC.mk0 ?_)); all_goals (first | with_reducible assumption | (go_simp; done) | (simp; omega) | exact (by repeat (first | with_reducible refine Below.setCell ?_ (by first | (simp; done) | (simp; omega) | omega) _ | with_reducible refine Below.alloc ?_ (by first | (simp; done) | (simp; omega) | omega) _ | with_reducible refine Below.drew ?_ | with_reducible refine below_drewN ?_ _ | with_reducible exact Below.refl _ _ | with_reducible refine Below.trans ?_ (Below.mono kb8 (by first | (simp; done) | (simp; omega) | omega)))))) hbn
          simp only [KeptC, List.forall_mem_cons] at hk; obtain ⟨kb9, ⟨kc9_0, kc9_1, kc9_2, kc9_3, kc9_4, kc9_5, kc9_6, kc9_7, kc9_8, kc9_9, kc9_10, kc9_11, _⟩, _⟩ := hk
          have ks9 : w.heap.size ≤ w9.heap.size := kb9.size
          have kB3_9 : Below w3.heap.size w3 w9 := (by repeat (first | with_reducible refine Below.setCell ?_ (by first | (simp; done) | (simp; omega) | omega) _ | with_reducible refine Below.alloc ?_ (by first | (simp; done) | (simp; omega) | omega) _ | with_reducible refine Below.drew ?_ | with_reducible refine below_drewN ?_ _ | with_reducible exact Below.refl _ _ | with_reducible refine Below.trans ?_ (Below.mono kB3_8 (by first | (simp; done) | (simp; omega) | omega)) | with_reducible refine Below.trans ?_ (Below.mono hbn (by first | (simp; done) | (simp; omega) | omega))))
          have ks3_9 : w3.heap.size ≤ w9.heap.size := kB3_9.size
          have kB4_9 : Below w4.heap.size w4 w9 := (by repeat (first | with_reducible refine Below.setCell ?_ (by first | (simp; done) | (simp; omega) | omega) _ | with_reducible refine Below.alloc ?_ (by first | (simp; done) | (simp; omega) | omega) _ | with_reducible refine Below.drew ?_ | with_reducible refine below_drewN ?_ _ | with_reducible exact Below.refl _ _ | with_reducible refine Below.trans ?_ (Below.mono kB4_8 (by first | (simp; done) | (simp; omega) | omega)) | with_reducible refine Below.trans ?_ (Below.mono hbn (by first | (simp; done) | (simp; omega) | omega))))
          have ks4_9 : w4.heap.size ≤ w9.heap.size := kB4_9.size
          have kB5_9 : Below w5.heap.size w5 w9 := (by repeat (first | with_reducible refine Below.setCell ?_ (by first | (simp; done) | (simp; omega) | omega) _ | with_reducible refine Below.alloc ?_ (by first | (simp; done) | (simp; omega) | omega) _ | with_reducible refine Below.drew ?_ | with_reducible refine below_drewN ?_ _ | with_reducible exact Below.refl _ _ | with_reducible refine Below.trans ?_ (Below.mono kB5_8 (by first | (simp; done) | (simp; omega) | omega)) | with_reducible refine Below.trans ?_ (Below.mono hbn (by first | (simp; done) | (simp; omega) | omega))))
          have ks5_9 : w5.heap.size ≤ w9.heap.size := kB5_9.size
          have kx9_w : w.heap.size < w9.heap.size := cell_lt kc9_0
          have kx9_w7 : w7.heap.size < w9.heap.size := cell_lt kc9_6
          clear hbn kb8 kc8_0 kc8_1 kc8_2 kc8_3 kc8_4 kc8_5 kc8_6 kc8_7 kc8_8 kc8_9 kc8_10 kc8_11 kB3_8 kB4_8 kB5_8 kx8_w kx8_w7
          go_wp2_with (fail)
          rcases HT.out with ⟨hwh, hfx, hne⟩ | ⟨hw3, hw4, hXe⟩
          · have HNE := Lib.hid hne
            have hfx' := fun W h => find_any B3 _ d3 X s W h (fit_hm HX.out.1)
            simp only [hfx, Option.getD_some, Option.isSome_some] at hfx'
            have HFX := Lib.hid hfx'
            clear hfx hfx' hne
            rcases hwh with rfl | rfl
            · refine (HFX.out _ ((HR3.out.below (by repeat (first | with_reducible refine Below.setCell ?_ (by first | (simp; done) | (simp; omega) | omega) _ | with_reducible refine Below.alloc ?_ (by first | (simp; done) | (simp; omega) | omega) _ | with_reducible refine Below.drew ?_ | with_reducible refine below_drewN ?_ _ | with_reducible exact Below.refl _ _ | with_reducible refine Below.trans ?_ (Below.mono kB3_9 (by first | (simp; done) | (simp; omega) | omega))))).more (by first | (simp; done) | (simp; omega) | omega))).mono ?_; rintro x w20 ⟨rfl, hbn⟩
              have hk : KeptC w [(⟨w.heap.size, 0, none⟩, .string s), (⟨w.heap.size, 1, none⟩, .int .i64 e), (⟨w.heap.size, 2, none⟩, .int .i64 m), (⟨w.heap.size, 3, none⟩, .bool al), (⟨w.heap.size, 4, none⟩, .int .i64 k0), (⟨w.heap.size, 5, none⟩, .int .i64 sc)] [] w20 := KeptC.below (by (repeat' (first | refine KeptC.cons ?_ ?_ | refine KeptC.consF ?_ ?_ ?_ | refine KeptC.mk0 ?_)); all_goals (first | with_reducible assumption | (go_simp; done) | (simp; omega) | exact (by repeat (first | with_reducible refine Below.setCell ?_ (by first | (simp; done) | (simp; omega) | omega) _ | with_reducible refine Below.alloc ?_ (by first | (simp; done) | (simp; omega) | omega) _ | with_reducible refine Below.drew ?_ | with_reducible refine below_drewN ?_ _ | with_reducible exact Below.refl _ _ | with_reducible refine Below.trans ?_ (Below.mono kb9 (by first | (simp; done) | (simp; omega) | omega)))))) hbn
              simp only [KeptC, List.forall_mem_cons] at hk; obtain ⟨kb20, ⟨kc20_0, kc20_1, kc20_2, kc20_3, kc20_4, kc20_5, _⟩, _⟩ := hk
              have ks20 : w.heap.size ≤ w20.heap.size := kb20.size
              have kB3_20 : Below w3.heap.size w3 w20 := (by repeat (first | with_reducible refine Below.setCell ?_ (by first | (simp; done) | (simp; omega) | omega) _ | with_reducible refine Below.alloc ?_ (by first | (simp; done) | (simp; omega) | omega) _ | with_reducible refine Below.drew ?_ | with_reducible refine below_drewN ?_ _ | with_reducible exact Below.refl _ _ | with_reducible refine Below.trans ?_ (Below.mono kB3_9 (by first | (simp; done) | (simp; omega) | omega)) | with_reducible refine Below.trans ?_ (Below.mono hbn (by first | (simp; done) | (simp; omega) | omega))))
              have ks3_20 : w3.heap.size ≤ w20.heap.size := kB3_20.size
              have kx20_w : w.heap.size < w20.heap.size := cell_lt kc20_0
              clear hbn kb9 kc9_0 kc9_1 kc9_2 kc9_3 kc9_4 kc9_5 kc9_6 kc9_7 kc9_8 kc9_9 kc9_10 kc9_11 kB3_9 kB4_9 kB5_9 kx9_w kx9_w7
              go_wp2_with (fail)
              have hS := fun W (h3 : Below w3.heap.size w3 W) (h : Below w.heap.size w W) => same_any B3 _ d3 X A _ cp ls W ((HR3.out.below h3).more h3.size) ((HR.out.below h).more h.size) (fit_hm HX.out.1) hm
              simp only [sameB_ne HNE.out] at hS
              refine (hS _ (by repeat (first | with_reducible refine Below.setCell ?_ (by first | (simp; done) | (simp; omega) | omega) _ | with_reducible refine Below.alloc ?_ (by first | (simp; done) | (simp; omega) | omega) _ | with_reducible refine Below.drew ?_ | with_reducible refine below_drewN ?_ _ | with_reducible exact Below.refl _ _ | with_reducible refine Below.trans ?_ (Below.mono kB3_20 (by first | (simp; done) | (simp; omega) | omega)))) (by repeat (first | with_reducible refine Below.setCell ?_ (by first | (simp; done) | (simp; omega) | omega) _ | with_reducible refine Below.alloc ?_ (by first | (simp; done) | (simp; omega) | omega) _ | with_reducible refine Below.drew ?_ | with_reducible refine below_drewN ?_ _ | with_reducible exact Below.refl _ _ | with_reducible refine Below.trans ?_ (Below.mono kb20 (by first | (simp; done) | (simp; omega) | omega))))).mono ?_; rintro x w21 ⟨rfl, hbn⟩
              have kb21 : Below w.heap.size w w21 := (by repeat (first | with_reducible refine Below.setCell ?_ (by first | (simp; done) | (simp; omega) | omega) _ | with_reducible refine Below.alloc ?_ (by first | (simp; done) | (simp; omega) | omega) _ | with_reducible refine Below.drew ?_ | with_reducible refine below_drewN ?_ _ | with_reducible exact Below.refl _ _ | with_reducible refine Below.trans ?_ (Below.mono kb20 (by first | (simp; done) | (simp; omega) | omega)) | with_reducible refine Below.trans ?_ (Below.mono hbn (by first | (simp; done) | (simp; omega) | omega))))
              have ks21 : w.heap.size ≤ w21.heap.size := kb21.size
              clear hbn kb20 kc20_0 kc20_1 kc20_2 kc20_3 kc20_4 kc20_5 kB3_20 kx20_w
              clear hS
              go_wp2_with (fail)
              refine (awake_any _).mono ?_; rintro x w22 ⟨rfl, hbn⟩
              have kb22 : Below w.heap.size w w22 := (by repeat (first | with_reducible refine Below.setCell ?_ (by first | (simp; done) | (simp; omega) | omega) _ | with_reducible refine Below.alloc ?_ (by first | (simp; done) | (simp; omega) | omega) _ | with_reducible refine Below.drew ?_ | with_reducible refine below_drewN ?_ _ | with_reducible exact Below.refl _ _ | with_reducible refine Below.trans ?_ (Below.mono kb21 (by first | (simp; done) | (simp; omega) | omega)) | with_reducible refine Below.trans ?_ (Below.mono hbn (by first | (simp; done) | (simp; omega) | omega))))
              have ks22 : w.heap.size ≤ w22.heap.size := kb22.size
              clear hbn kb21
              go_wp2
              go_ret
              exact ⟨rfl, kb22⟩
            · refine (HFX.out _ ((HR3.out.below (by repeat (first | with_reducible refine Below.setCell ?_ (by first | (simp; done) | (simp; omega) | omega) _ | with_reducible refine Below.alloc ?_ (by first | (simp; done) | (simp; omega) | omega) _ | with_reducible refine Below.drew ?_ | with_reducible refine below_drewN ?_ _ | with_reducible exact Below.refl _ _ | with_reducible refine Below.trans ?_ (Below.mono kB3_9 (by first | (simp; done) | (simp; omega) | omega))))).more (by first | (simp; done) | (simp; omega) | omega))).mono ?_; rintro x w20 ⟨rfl, hbn⟩
              have hk : KeptC w [(⟨w.heap.size, 0, none⟩, .string s), (⟨w.heap.size, 1, none⟩, .int .i64 e), (⟨w.heap.size, 2, none⟩, .int .i64 m), (⟨w.heap.size, 3, none⟩, .bool al), (⟨w.heap.size, 4, none⟩, .int .i64 k0), (⟨w.heap.size, 5, none⟩, .int .i64 sc)] [] w20 := KeptC.below (by (repeat' (first | refine KeptC.cons ?_ ?_ | refine KeptC.consF ?_ ?_ ?_ | refine KeptC.mk0 ?_)); all_goals (first | with_reducible assumption | (go_simp; done) | (simp; omega) | exact (by repeat (first | with_reducible refine Below.setCell ?_ (by first | (simp; done) | (simp; omega) | omega) _ | with_reducible refine Below.alloc ?_ (by first | (simp; done) | (simp; omega) | omega) _ | with_reducible refine Below.drew ?_ | with_reducible refine below_drewN ?_ _ | with_reducible exact Below.refl _ _ | with_reducible refine Below.trans ?_ (Below.mono kb9 (by first | (simp; done) | (simp; omega) | omega)))))) hbn
              simp only [KeptC, List.forall_mem_cons] at hk; obtain ⟨kb20, ⟨kc20_0, kc20_1, kc20_2, kc20_3, kc20_4, kc20_5, _⟩, _⟩ := hk
              have ks20 : w.heap.size ≤ w20.heap.size := kb20.size
              have kB3_20 : Below w3.heap.size w3 w20 := (by repeat (first | with_reducible refine Below.setCell ?_ (by first | (simp; done) | (simp; omega) | omega) _ | with_reducible refine Below.alloc ?_ (by first | (simp; done) | (simp; omega) | omega) _ | with_reducible refine Below.drew ?_ | with_reducible refine below_drewN ?_ _ | with_reducible exact Below.refl _ _ | with_reducible refine Below.trans ?_ (Below.mono kB3_9 (by first | (simp; done) | (simp; omega) | omega)) | with_reducible refine Below.trans ?_ (Below.mono hbn (by first | (simp; done) | (simp; omega) | omega))))
              have ks3_20 : w3.heap.size ≤ w20.heap.size := kB3_20.size
              have kx20_w : w.heap.size < w20.heap.size := cell_lt kc20_0
              clear hbn kb9 kc9_0 kc9_1 kc9_2 kc9_3 kc9_4 kc9_5 kc9_6 kc9_7 kc9_8 kc9_9 kc9_10 kc9_11 kB3_9 kB4_9 kB5_9 kx9_w kx9_w7
              go_wp2_with (fail)
              have hS := fun W (h3 : Below w3.heap.size w3 W) (h : Below w.heap.size w W) => same_any B3 _ d3 X A _ cp ls W ((HR3.out.below h3).more h3.size) ((HR.out.below h).more h.size) (fit_hm HX.out.1) hm
              simp only [sameB_ne HNE.out] at hS
              refine (hS _ (by repeat (first | with_reducible refine Below.setCell ?_ (by first | (simp; done) | (simp; omega) | omega) _ | with_reducible refine Below.alloc ?_ (by first | (simp; done) | (simp; omega) | omega) _ | with_reducible refine Below.drew ?_ | with_reducible refine below_drewN ?_ _ | with_reducible exact Below.refl _ _ | with_reducible refine Below.trans ?_ (Below.mono kB3_20 (by first | (simp; done) | (simp; omega) | omega)))) (by repeat (first | with_reducible refine Below.setCell ?_ (by first | (simp; done) | (simp; omega) | omega) _ | with_reducible refine Below.alloc ?_ (by first | (simp; done) | (simp; omega) | omega) _ | with_reducible refine Below.drew ?_ | with_reducible refine below_drewN ?_ _ | with_reducible exact Below.refl _ _ | with_reducible refine Below.trans ?_ (Below.mono kb20 (by first | (simp; done) | (simp; omega) | omega))))).mono ?_; rintro x w21 ⟨rfl, hbn⟩
              have kb21 : Below w.heap.size w w21 := (by repeat (first | with_reducible refine Below.setCell ?_ (by first | (simp; done) | (simp; omega) | omega) _ | with_reducible refine Below.alloc ?_ (by first | (simp; done) | (simp; omega) | omega) _ | with_reducible refine Below.drew ?_ | with_reducible refine below_drewN ?_ _ | with_reducible exact Below.refl _ _ | with_reducible refine Below.trans ?_ (Below.mono kb20 (by first | (simp; done) | (simp; omega) | omega)) | with_reducible refine Below.trans ?_ (Below.mono hbn (by first | (simp; done) | (simp; omega) | omega))))
              have ks21 : w.heap.size ≤ w21.heap.size := kb21.size
              clear hbn kb20 kc20_0 kc20_1 kc20_2 kc20_3 kc20_4 kc20_5 kB3_20 kx20_w
              clear hS
              go_wp2_with (fail)
              refine (awake_any _).mono ?_; rintro x w22 ⟨rfl, hbn⟩
              have kb22 : Below w.heap.size w w22 := (by repeat (first | with_reducible refine Below.setCell ?_ (by first | (simp; done) | (simp; omega) | omega) _ | with_reducible refine Below.alloc ?_ (by first | (simp; done) | (simp; omega) | omega) _ | with_reducible refine Below.drew ?_ | with_reducible refine below_drewN ?_ _ | with_reducible exact Below.refl _ _ | with_reducible refine Below.trans ?_ (Below.mono kb21 (by first | (simp; done) | (simp; omega) | omega)) | with_reducible refine Below.trans ?_ (Below.mono hbn (by first | (simp; done) | (simp; omega) | omega))))
              have ks22 : w.heap.size ≤ w22.heap.size := kb22.size
              clear hbn kb21
              go_wp2
              go_ret
              exact ⟨rfl, kb22⟩
          · have hb3 : (wh == 3) = false := by simpa using hw3
            have hb4 : (wh == 4) = false := by simpa using hw4
            have HXE := Lib.hid hXe
            have hfx' := fun W h => find_any B3 _ d3 X s W h (fit_hm HX.out.1)
            generalize (findL X s).isSome = fsm at hfx'
            generalize (findL X s).getD Ch0 = fr2 at hfx'
            have hcs := ch_cases fr2 ⟨s, e, m, al, k0, sc⟩
            obtain ⟨ns, ne, nw', na, nk, nc⟩ := fr2
            simp only [] at hfx' hcs
            have HFX := Lib.hid hfx'
            clear hfx' hXe
            rcases hcs with h | h | h | h | h | h | h
            · obtain ⟨g0, g1, g2, g3, g4, g5⟩ := Ch.mk.inj h
              clear h
              replace g0 := g0.symm; replace g1 := g1.symm; replace g2 := g2.symm; replace g3 := g3.symm; replace g4 := g4.symm; replace g5 := g5.symm
              subst g0 g1 g2 g3 g4 g5
              refine (HFX.out _ ((HR3.out.below (by repeat (first | with_reducible refine Below.setCell ?_ (by first | (simp; done) | (simp; omega) | omega) _ | with_reducible refine Below.alloc ?_ (by first | (simp; done) | (simp; omega) | omega) _ | with_reducible refine Below.drew ?_ | with_reducible refine below_drewN ?_ _ | with_reducible exact Below.refl _ _ | with_reducible refine Below.trans ?_ (Below.mono kB3_9 (by first | (simp; done) | (simp; omega) | omega))))).more (by first | (simp; done) | (simp; omega) | omega))).mono ?_; rintro x w20 ⟨rfl, hbn⟩
              have hk : KeptC w [(⟨w.heap.size, 0, none⟩, .string s), (⟨w.heap.size, 1, none⟩, .int .i64 e), (⟨w.heap.size, 2, none⟩, .int .i64 m), (⟨w.heap.size, 3, none⟩, .bool al), (⟨w.heap.size, 4, none⟩, .int .i64 k0), (⟨w.heap.size, 5, none⟩, .int .i64 sc)] [] w20 := KeptC.below (by (repeat' (first | refine KeptC.cons ?_ ?_ | refine KeptC.consF ?_ ?_ ?_ | refine KeptC.mk0 ?_)); all_goals (first | with_reducible assumption | (go_simp; done) | (simp; omega) | exact (by repeat (first | with_reducible refine Below.setCell ?_ (by first | (simp; done) | (simp; omega) | omega) _ | with_reducible refine Below.alloc ?_ (by first | (simp; done) | (simp; omega) | omega) _ | with_reducible refine Below.drew ?_ | with_reducible refine below_drewN ?_ _ | with_reducible exact Below.refl _ _ | with_reducible refine Below.trans ?_ (Below.mono kb9 (by first | (simp; done) | (simp; omega) | omega)))))) hbn
              simp only [KeptC, List.forall_mem_cons] at hk; obtain ⟨kb20, ⟨kc20_0, kc20_1, kc20_2, kc20_3, kc20_4, kc20_5, _⟩, _⟩ := hk
              have ks20 : w.heap.size ≤ w20.heap.size := kb20.size
              have kB3_20 : Below w3.heap.size w3 w20 := (by repeat (first | with_reducible refine Below.setCell ?_ (by first | (simp; done) | (simp; omega) | omega) _ | with_reducible refine Below.alloc ?_ (by first | (simp; done) | (simp; omega) | omega) _ | with_reducible refine Below.drew ?_ | with_reducible refine below_drewN ?_ _ | with_reducible exact Below.refl _ _ | with_reducible refine Below.trans ?_ (Below.mono kB3_9 (by first | (simp; done) | (simp; omega) | omega)) | with_reducible refine Below.trans ?_ (Below.mono hbn (by first | (simp; done) | (simp; omega) | omega))))
              have ks3_20 : w3.heap.size ≤ w20.heap.size := kB3_20.size
              have kx20_w : w.heap.size < w20.heap.size := cell_lt kc20_0
              clear hbn kb9 kc9_0 kc9_1 kc9_2 kc9_3 kc9_4 kc9_5 kc9_6 kc9_7 kc9_8 kc9_9 kc9_10 kc9_11 kB3_9 kB4_9 kB5_9 kx9_w kx9_w7
              go_wp2_with (fail)
              have hS := fun W (h3 : Below w3.heap.size w3 W) (h : Below w.heap.size w W) => same_any B3 _ d3 X A _ cp ls W ((HR3.out.below h3).more h3.size) ((HR.out.below h).more h.size) (fit_hm HX.out.1) hm
              simp only [sameB_eq HXE.out] at hS
              refine (hS _ (by repeat (first | with_reducible refine Below.setCell ?_ (by first | (simp; done) | (simp; omega) | omega) _ | with_reducible refine Below.alloc ?_ (by first | (simp; done) | (simp; omega) | omega) _ | with_reducible refine Below.drew ?_ | with_reducible refine below_drewN ?_ _ | with_reducible exact Below.refl _ _ | with_reducible refine Below.trans ?_ (Below.mono kB3_20 (by first | (simp; done) | (simp; omega) | omega)))) (by repeat (first | with_reducible refine Below.setCell ?_ (by first | (simp; done) | (simp; omega) | omega) _ | with_reducible refine Below.alloc ?_ (by first | (simp; done) | (simp; omega) | omega) _ | with_reducible refine Below.drew ?_ | with_reducible refine below_drewN ?_ _ | with_reducible exact Below.refl _ _ | with_reducible refine Below.trans ?_ (Below.mono kb20 (by first | (simp; done) | (simp; omega) | omega))))).mono ?_; rintro x w21 ⟨rfl, hbn⟩
              have kb21 : Below w.heap.size w w21 := (by repeat (first | with_reducible refine Below.setCell ?_ (by first | (simp; done) | (simp; omega) | omega) _ | with_reducible refine Below.alloc ?_ (by first | (simp; done) | (simp; omega) | omega) _ | with_reducible refine Below.drew ?_ | with_reducible refine below_drewN ?_ _ | with_reducible exact Below.refl _ _ | with_reducible refine Below.trans ?_ (Below.mono kb20 (by first | (simp; done) | (simp; omega) | omega)) | with_reducible refine Below.trans ?_ (Below.mono hbn (by first | (simp; done) | (simp; omega) | omega))))
              have ks21 : w.heap.size ≤ w21.heap.size := kb21.size
              clear hbn kb20 kc20_0 kc20_1 kc20_2 kc20_3 kc20_4 kc20_5 kB3_20 kx20_w
              clear hS
              go_wp2_with (fail)
              refine (awake_any _).mono ?_; rintro x w22 ⟨rfl, hbn⟩
              have kb22 : Below w.heap.size w w22 := (by repeat (first | with_reducible refine Below.setCell ?_ (by first | (simp; done) | (simp; omega) | omega) _ | with_reducible refine Below.alloc ?_ (by first | (simp; done) | (simp; omega) | omega) _ | with_reducible refine Below.drew ?_ | with_reducible refine below_drewN ?_ _ | with_reducible exact Below.refl _ _ | with_reducible refine Below.trans ?_ (Below.mono kb21 (by first | (simp; done) | (simp; omega) | omega)) | with_reducible refine Below.trans ?_ (Below.mono hbn (by first | (simp; done) | (simp; omega) | omega))))
              have ks22 : w.heap.size ≤ w22.heap.size := kb22.size
              clear hbn kb21
              go_wp2
              go_ret
              exact ⟨rfl, kb22⟩
            · refine (HFX.out _ ((HR3.out.below (by repeat (first | with_reducible refine Below.setCell ?_ (by first | (simp; done) | (simp; omega) | omega) _ | with_reducible refine Below.alloc ?_ (by first | (simp; done) | (simp; omega) | omega) _ | with_reducible refine Below.drew ?_ | with_reducible refine below_drewN ?_ _ | with_reducible exact Below.refl _ _ | with_reducible refine Below.trans ?_ (Below.mono kB3_9 (by first | (simp; done) | (simp; omega) | omega))))).more (by first | (simp; done) | (simp; omega) | omega))).mono ?_; rintro x w20 ⟨rfl, hbn⟩
              have hk : KeptC w [(⟨w.heap.size, 0, none⟩, .string s), (⟨w.heap.size, 1, none⟩, .int .i64 e), (⟨w.heap.size, 2, none⟩, .int .i64 m), (⟨w.heap.size, 3, none⟩, .bool al), (⟨w.heap.size, 4, none⟩, .int .i64 k0), (⟨w.heap.size, 5, none⟩, .int .i64 sc)] [] w20 := KeptC.below (by (repeat' (first | refine KeptC.cons ?_ ?_ | refine KeptC.consF ?_ ?_ ?_ | refine KeptC.mk0 ?_)); all_goals (first | with_reducible assumption | (go_simp; done) | (simp; omega) | exact (by repeat (first | with_reducible refine Below.setCell ?_ (by first | (simp; done) | (simp; omega) | omega) _ | with_reducible refine Below.alloc ?_ (by first | (simp; done) | (simp; omega) | omega) _ | with_reducible refine Below.drew ?_ | with_reducible refine below_drewN ?_ _ | with_reducible exact Below.refl _ _ | with_reducible refine Below.trans ?_ (Below.mono kb9 (by first | (simp; done) | (simp; omega) | omega)))))) hbn
              simp only [KeptC, List.forall_mem_cons] at hk; obtain ⟨kb20, ⟨kc20_0, kc20_1, kc20_2, kc20_3, kc20_4, kc20_5, _⟩, _⟩ := hk
              have ks20 : w.heap.size ≤ w20.heap.size := kb20.size
              have kB3_20 : Below w3.heap.size w3 w20 := (by repeat (first | with_reducible refine Below.setCell ?_ (by first | (simp; done) | (simp; omega) | omega) _ | with_reducible refine Below.alloc ?_ (by first | (simp; done) | (simp; omega) | omega) _ | with_reducible refine Below.drew ?_ | with_reducible refine below_drewN ?_ _ | with_reducible exact Below.refl _ _ | with_reducible refine Below.trans ?_ (Below.mono kB3_9 (by first | (simp; done) | (simp; omega) | omega)) | with_reducible refine Below.trans ?_ (Below.mono hbn (by first | (simp; done) | (simp; omega) | omega))))
              have ks3_20 : w3.heap.size ≤ w20.heap.size := kB3_20.size
              have kx20_w : w.heap.size < w20.heap.size := cell_lt kc20_0
              clear hbn kb9 kc9_0 kc9_1 kc9_2 kc9_3 kc9_4 kc9_5 kc9_6 kc9_7 kc9_8 kc9_9 kc9_10 kc9_11 kB3_9 kB4_9 kB5_9 kx9_w kx9_w7
              go_wp2_with (fail)
              refine (awake_any _).mono ?_; rintro x w22 ⟨rfl, hbn⟩
              have kb22 : Below w.heap.size w w22 := (by repeat (first | with_reducible refine Below.setCell ?_ (by first | (simp; done) | (simp; omega) | omega) _ | with_reducible refine Below.alloc ?_ (by first | (simp; done) | (simp; omega) | omega) _ | with_reducible refine Below.drew ?_ | with_reducible refine below_drewN ?_ _ | with_reducible exact Below.refl _ _ | with_reducible refine Below.trans ?_ (Below.mono kb20 (by first | (simp; done) | (simp; omega) | omega)) | with_reducible refine Below.trans ?_ (Below.mono hbn (by first | (simp; done) | (simp; omega) | omega))))
              have ks22 : w.heap.size ≤ w22.heap.size := kb22.size
              clear hbn kb20 kc20_0 kc20_1 kc20_2 kc20_3 kc20_4 kc20_5 kB3_20 kx20_w
              go_wp2
              go_ret
              exact ⟨rfl, kb22⟩
            · obtain ⟨g0, h⟩ := h
              replace g0 := g0.symm
              subst g0
              have hbq : (ne == e) = false := by simpa using h
              refine (HFX.out _ ((HR3.out.below (by repeat (first | with_reducible refine Below.setCell ?_ (by first | (simp; done) | (simp; omega) | omega) _ | with_reducible refine Below.alloc ?_ (by first | (simp; done) | (simp; omega) | omega) _ | with_reducible refine Below.drew ?_ | with_reducible refine below_drewN ?_ _ | with_reducible exact Below.refl _ _ | with_reducible refine Below.trans ?_ (Below.mono kB3_9 (by first | (simp; done) | (simp; omega) | omega))))).more (by first | (simp; done) | (simp; omega) | omega))).mono ?_; rintro x w20 ⟨rfl, hbn⟩
              have hk : KeptC w [(⟨w.heap.size, 0, none⟩, .string s), (⟨w.heap.size, 1, none⟩, .int .i64 e), (⟨w.heap.size, 2, none⟩, .int .i64 m), (⟨w.heap.size, 3, none⟩, .bool al), (⟨w.heap.size, 4, none⟩, .int .i64 k0), (⟨w.heap.size, 5, none⟩, .int .i64 sc)] [] w20 := KeptC.below (by (repeat' (first | refine KeptC.cons ?_ ?_ | refine KeptC.consF ?_ ?_ ?_ | refine KeptC.mk0 ?_)); all_goals (first | with_reducible assumption | (go_simp; done) | (simp; omega) | exact (by repeat (first | with_reducible refine Below.setCell ?_ (by first | (simp; done) | (simp; omega) | omega) _ | with_reducible refine Below.alloc ?_ (by first | (simp; done) | (simp; omega) | omega) _ | with_reducible refine Below.drew ?_ | with_reducible refine below_drewN ?_ _ | with_reducible exact Below.refl _ _ | with_reducible refine Below.trans ?_ (Below.mono kb9 (by first | (simp; done) | (simp; omega) | omega)))))) hbn
              simp only [KeptC, List.forall_mem_cons] at hk; obtain ⟨kb20, ⟨kc20_0, kc20_1, kc20_2, kc20_3, kc20_4, kc20_5, _⟩, _⟩ := hk
              have ks20 : w.heap.size ≤ w20.heap.size := kb20.size
              have kB3_20 : Below w3.heap.size w3 w20 := (by repeat (first | with_reducible refine Below.setCell ?_ (by first | (simp; done) | (simp; omega) | omega) _ | with_reducible refine Below.alloc ?_ (by first | (simp; done) | (simp; omega) | omega) _ | with_reducible refine Below.drew ?_ | with_reducible refine below_drewN ?_ _ | with_reducible exact Below.refl _ _ | with_reducible refine Below.trans ?_ (Below.mono kB3_9 (by first | (simp; done) | (simp; omega) | omega)) | with_reducible refine Below.trans ?_ (Below.mono hbn (by first | (simp; done) | (simp; omega) | omega))))
              have ks3_20 : w3.heap.size ≤ w20.heap.size := kB3_20.size
              have kx20_w : w.heap.size < w20.heap.size := cell_lt kc20_0
              clear hbn kb9 kc9_0 kc9_1 kc9_2 kc9_3 kc9_4 kc9_5 kc9_6 kc9_7 kc9_8 kc9_9 kc9_10 kc9_11 kB3_9 kB4_9 kB5_9 kx9_w kx9_w7
              go_wp2_with (fail)
              refine (awake_any _).mono ?_; rintro x w22 ⟨rfl, hbn⟩
              have kb22 : Below w.heap.size w w22 := (by repeat (first | with_reducible refine Below.setCell ?_ (by first | (simp; done) | (simp; omega) | omega) _ | with_reducible refine Below.alloc ?_ (by first | (simp; done) | (simp; omega) | omega) _ | with_reducible refine Below.drew ?_ | with_reducible refine below_drewN ?_ _ | with_reducible exact Below.refl _ _ | with_reducible refine Below.trans ?_ (Below.mono kb20 (by first | (simp; done) | (simp; omega) | omega)) | with_reducible refine Below.trans ?_ (Below.mono hbn (by first | (simp; done) | (simp; omega) | omega))))
              have ks22 : w.heap.size ≤ w22.heap.size := kb22.size
              clear hbn kb20 kc20_0 kc20_1 kc20_2 kc20_3 kc20_4 kc20_5 kB3_20 kx20_w
              go_wp2
              go_ret
              exact ⟨rfl, kb22⟩
            · obtain ⟨g0, g1, h⟩ := h
              replace g0 := g0.symm; replace g1 := g1.symm
              subst g0 g1
              have hbq : (nw' == m) = false := by simpa using h
              refine (HFX.out _ ((HR3.out.below (by repeat (first | with_reducible refine Below.setCell ?_ (by first | (simp; done) | (simp; omega) | omega) _ | with_reducible refine Below.alloc ?_ (by first | (simp; done) | (simp; omega) | omega) _ | with_reducible refine Below.drew ?_ | with_reducible refine below_drewN ?_ _ | with_reducible exact Below.refl _ _ | with_reducible refine Below.trans ?_ (Below.mono kB3_9 (by first | (simp; done) | (simp; omega) | omega))))).more (by first | (simp; done) | (simp; omega) | omega))).mono ?_; rintro x w20 ⟨rfl, hbn⟩
              have hk : KeptC w [(⟨w.heap.size, 0, none⟩, .string s), (⟨w.heap.size, 1, none⟩, .int .i64 e), (⟨w.heap.size, 2, none⟩, .int .i64 m), (⟨w.heap.size, 3, none⟩, .bool al), (⟨w.heap.size, 4, none⟩, .int .i64 k0), (⟨w.heap.size, 5, none⟩, .int .i64 sc)] [] w20 := KeptC.below (by (repeat' (first | refine KeptC.cons ?_ ?_ | refine KeptC.consF ?_ ?_ ?_ | refine KeptC.mk0 ?_)); all_goals (first | with_reducible assumption | (go_simp; done) | (simp; omega) | exact (by repeat (first | with_reducible refine Below.setCell ?_ (by first | (simp; done) | (simp; omega) | omega) _ | with_reducible refine Below.alloc ?_ (by first | (simp; done) | (simp; omega) | omega) _ | with_reducible refine Below.drew ?_ | with_reducible refine below_drewN ?_ _ | with_reducible exact Below.refl _ _ | with_reducible refine Below.trans ?_ (Below.mono kb9 (by first | (simp; done) | (simp; omega) | omega)))))) hbn
              simp only [KeptC, List.forall_mem_cons] at hk; obtain ⟨kb20, ⟨kc20_0, kc20_1, kc20_2, kc20_3, kc20_4, kc20_5, _⟩, _⟩ := hk
              have ks20 : w.heap.size ≤ w20.heap.size := kb20.size
              have kB3_20 : Below w3.heap.size w3 w20 := (by repeat (first | with_reducible refine Below.setCell ?_ (by first | (simp; done) | (simp; omega) | omega) _ | with_reducible refine Below.alloc ?_ (by first | (simp; done) | (simp; omega) | omega) _ | with_reducible refine Below.drew ?_ | with_reducible refine below_drewN ?_ _ | with_reducible exact Below.refl _ _ | with_reducible refine Below.trans ?_ (Below.mono kB3_9 (by first | (simp; done) | (simp; omega) | omega)) | with_reducible refine Below.trans ?_ (Below.mono hbn (by first | (simp; done) | (simp; omega) | omega))))
              have ks3_20 : w3.heap.size ≤ w20.heap.size := kB3_20.size
              have kx20_w : w.heap.size < w20.heap.size := cell_lt kc20_0
              clear hbn kb9 kc9_0 kc9_1 kc9_2 kc9_3 kc9_4 kc9_5 kc9_6 kc9_7 kc9_8 kc9_9 kc9_10 kc9_11 kB3_9 kB4_9 kB5_9 kx9_w kx9_w7
              go_wp2_with (fail)
              refine (awake_any _).mono ?_; rintro x w22 ⟨rfl, hbn⟩
              have kb22 : Below w.heap.size w w22 := (by repeat (first | with_reducible refine Below.setCell ?_ (by first | (simp; done) | (simp; omega) | omega) _ | with_reducible refine Below.alloc ?_ (by first | (simp; done) | (simp; omega) | omega) _ | with_reducible refine Below.drew ?_ | with_reducible refine below_drewN ?_ _ | with_reducible exact Below.refl _ _ | with_reducible refine Below.trans ?_ (Below.mono kb20 (by first | (simp; done) | (simp; omega) | omega)) | with_reducible refine Below.trans ?_ (Below.mono hbn (by first | (simp; done) | (simp; omega) | omega))))
              have ks22 : w.heap.size ≤ w22.heap.size := kb22.size
              clear hbn kb20 kc20_0 kc20_1 kc20_2 kc20_3 kc20_4 kc20_5 kB3_20 kx20_w
              go_wp2
              go_ret
              exact ⟨rfl, kb22⟩
            · obtain ⟨g0, g1, g2, h⟩ := h
              replace g0 := g0.symm; replace g1 := g1.symm; replace g2 := g2.symm
              subst g0 g1 g2
              subst h
              refine (HFX.out _ ((HR3.out.below (by repeat (first | with_reducible refine Below.setCell ?_ (by first | (simp; done) | (simp; omega) | omega) _ | with_reducible refine Below.alloc ?_ (by first | (simp; done) | (simp; omega) | omega) _ | with_reducible refine Below.drew ?_ | with_reducible refine below_drewN ?_ _ | with_reducible exact Below.refl _ _ | with_reducible refine Below.trans ?_ (Below.mono kB3_9 (by first | (simp; done) | (simp; omega) | omega))))).more (by first | (simp; done) | (simp; omega) | omega))).mono ?_; rintro x w20 ⟨rfl, hbn⟩
              have hk : KeptC w [(⟨w.heap.size, 0, none⟩, .string s), (⟨w.heap.size, 1, none⟩, .int .i64 e), (⟨w.heap.size, 2, none⟩, .int .i64 m), (⟨w.heap.size, 3, none⟩, .bool al), (⟨w.heap.size, 4, none⟩, .int .i64 k0), (⟨w.heap.size, 5, none⟩, .int .i64 sc)] [] w20 := KeptC.below (by (repeat' (first | refine KeptC.cons ?_ ?_ | refine KeptC.consF ?_ ?_ ?_ | refine KeptC.mk0 ?_)); all_goals (first | with_reducible assumption | (go_simp; done) | (simp; omega) | exact (by repeat (first | with_reducible refine Below.setCell ?_ (by first | (simp; done) | (simp; omega) | omega) _ | with_reducible refine Below.alloc ?_ (by first | (simp; done) | (simp; omega) | omega) _ | with_reducible refine Below.drew ?_ | with_reducible refine below_drewN ?_ _ | with_reducible exact Below.refl _ _ | with_reducible refine Below.trans ?_ (Below.mono kb9 (by first | (simp; done) | (simp; omega) | omega)))))) hbn
              simp only [KeptC, List.forall_mem_cons] at hk; obtain ⟨kb20, ⟨kc20_0, kc20_1, kc20_2, kc20_3, kc20_4, kc20_5, _⟩, _⟩ := hk
              have ks20 : w.heap.size ≤ w20.heap.size := kb20.size
              have kB3_20 : Below w3.heap.size w3 w20 := (by repeat (first | with_reducible refine Below.setCell ?_ (by first | (simp; done) | (simp; omega) | omega) _ | with_reducible refine Below.alloc ?_ (by first | (simp; done) | (simp; omega) | omega) _ | with_reducible refine Below.drew ?_ | with_reducible refine below_drewN ?_ _ | with_reducible exact Below.refl _ _ | with_reducible refine Below.trans ?_ (Below.mono kB3_9 (by first | (simp; done) | (simp; omega) | omega)) | with_reducible refine Below.trans ?_ (Below.mono hbn (by first | (simp; done) | (simp; omega) | omega))))
              have ks3_20 : w3.heap.size ≤ w20.heap.size := kB3_20.size
              have kx20_w : w.heap.size < w20.heap.size := cell_lt kc20_0
              clear hbn kb9 kc9_0 kc9_1 kc9_2 kc9_3 kc9_4 kc9_5 kc9_6 kc9_7 kc9_8 kc9_9 kc9_10 kc9_11 kB3_9 kB4_9 kB5_9 kx9_w kx9_w7
              go_wp2_with (fail)
              refine (awake_any _).mono ?_; rintro x w22 ⟨rfl, hbn⟩
              have kb22 : Below w.heap.size w w22 := (by repeat (first | with_reducible refine Below.setCell ?_ (by first | (simp; done) | (simp; omega) | omega) _ | with_reducible refine Below.alloc ?_ (by first | (simp; done) | (simp; omega) | omega) _ | with_reducible refine Below.drew ?_ | with_reducible refine below_drewN ?_ _ | with_reducible exact Below.refl _ _ | with_reducible refine Below.trans ?_ (Below.mono kb20 (by first | (simp; done) | (simp; omega) | omega)) | with_reducible refine Below.trans ?_ (Below.mono hbn (by first | (simp; done) | (simp; omega) | omega))))
              have ks22 : w.heap.size ≤ w22.heap.size := kb22.size
              clear hbn kb20 kc20_0 kc20_1 kc20_2 kc20_3 kc20_4 kc20_5 kB3_20 kx20_w
              go_wp2
              go_ret
              exact ⟨rfl, kb22⟩
            · obtain ⟨g0, g1, g2, g3, h⟩ := h
              replace g0 := g0.symm; replace g1 := g1.symm; replace g2 := g2.symm; replace g3 := g3.symm
              subst g0 g1 g2 g3
              have hbq : (nk == k0) = false := by simpa using h
              refine (HFX.out _ ((HR3.out.below (by repeat (first | with_reducible refine Below.setCell ?_ (by first | (simp; done) | (simp; omega) | omega) _ | with_reducible refine Below.alloc ?_ (by first | (simp; done) | (simp; omega) | omega) _ | with_reducible refine Below.drew ?_ | with_reducible refine below_drewN ?_ _ | with_reducible exact Below.refl _ _ | with_reducible refine Below.trans ?_ (Below.mono kB3_9 (by first | (simp; done) | (simp; omega) | omega))))).more (by first | (simp; done) | (simp; omega) | omega))).mono ?_; rintro x w20 ⟨rfl, hbn⟩
              have hk : KeptC w [(⟨w.heap.size, 0, none⟩, .string s), (⟨w.heap.size, 1, none⟩, .int .i64 e), (⟨w.heap.size, 2, none⟩, .int .i64 m), (⟨w.heap.size, 3, none⟩, .bool al), (⟨w.heap.size, 4, none⟩, .int .i64 k0), (⟨w.heap.size, 5, none⟩, .int .i64 sc)] [] w20 := KeptC.below (by (repeat' (first | refine KeptC.cons ?_ ?_ | refine KeptC.consF ?_ ?_ ?_ | refine KeptC.mk0 ?_)); all_goals (first | with_reducible assumption | (go_simp; done) | (simp; omega) | exact (by repeat (first | with_reducible refine Below.setCell ?_ (by first | (simp; done) | (simp; omega) | omega) _ | with_reducible refine Below.alloc ?_ (by first | (simp; done) | (simp; omega) | omega) _ | with_reducible refine Below.drew ?_ | with_reducible refine below_drewN ?_ _ | with_reducible exact Below.refl _ _ | with_reducible refine Below.trans ?_ (Below.mono kb9 (by first | (simp; done) | (simp; omega) | omega)))))) hbn
              simp only [KeptC, List.forall_mem_cons] at hk; obtain ⟨kb20, ⟨kc20_0, kc20_1, kc20_2, kc20_3, kc20_4, kc20_5, _⟩, _⟩ := hk
              have ks20 : w.heap.size ≤ w20.heap.size := kb20.size
              have kB3_20 : Below w3.heap.size w3 w20 := (by repeat (first | with_reducible refine Below.setCell ?_ (by first | (simp; done) | (simp; omega) | omega) _ | with_reducible refine Below.alloc ?_ (by first | (simp; done) | (simp; omega) | omega) _ | with_reducible refine Below.drew ?_ | with_reducible refine below_drewN ?_ _ | with_reducible exact Below.refl _ _ | with_reducible refine Below.trans ?_ (Below.mono kB3_9 (by first | (simp; done) | (simp; omega) | omega)) | with_reducible refine Below.trans ?_ (Below.mono hbn (by first | (simp; done) | (simp; omega) | omega))))
              have ks3_20 : w3.heap.size ≤ w20.heap.size := kB3_20.size
              have kx20_w : w.heap.size < w20.heap.size := cell_lt kc20_0
              clear hbn kb9 kc9_0 kc9_1 kc9_2 kc9_3 kc9_4 kc9_5 kc9_6 kc9_7 kc9_8 kc9_9 kc9_10 kc9_11 kB3_9 kB4_9 kB5_9 kx9_w kx9_w7
              go_wp2_with (fail)
              refine (awake_any _).mono ?_; rintro x w22 ⟨rfl, hbn⟩
              have kb22 : Below w.heap.size w w22 := (by repeat (first | with_reducible refine Below.setCell ?_ (by first | (simp; done) | (simp; omega) | omega) _ | with_reducible refine Below.alloc ?_ (by first | (simp; done) | (simp; omega) | omega) _ | with_reducible refine Below.drew ?_ | with_reducible refine below_drewN ?_ _ | with_reducible exact Below.refl _ _ | with_reducible refine Below.trans ?_ (Below.mono kb20 (by first | (simp; done) | (simp; omega) | omega)) | with_reducible refine Below.trans ?_ (Below.mono hbn (by first | (simp; done) | (simp; omega) | omega))))
              have ks22 : w.heap.size ≤ w22.heap.size := kb22.size
              clear hbn kb20 kc20_0 kc20_1 kc20_2 kc20_3 kc20_4 kc20_5 kB3_20 kx20_w
              go_wp2
              go_ret
              exact ⟨rfl, kb22⟩
            · obtain ⟨g0, g1, g2, g3, g4, h⟩ := h
              replace g0 := g0.symm; replace g1 := g1.symm; replace g2 := g2.symm; replace g3 := g3.symm; replace g4 := g4.symm
              subst g0 g1 g2 g3 g4
              have hbq : (nc == sc) = false := by simpa using h
              refine (HFX.out _ ((HR3.out.below (by repeat (first | with_reducible refine Below.setCell ?_ (by first | (simp; done) | (simp; omega) | omega) _ | with_reducible refine Below.alloc ?_ (by first | (simp; done) | (simp; omega) | omega) _ | with_reducible refine Below.drew ?_ | with_reducible refine below_drewN ?_ _ | with_reducible exact Below.refl _ _ | with_reducible refine Below.trans ?_ (Below.mono kB3_9 (by first | (simp; done) | (simp; omega) | omega))))).more (by first | (simp; done) | (simp; omega) | omega))).mono ?_; rintro x w20 ⟨rfl, hbn⟩
              have hk : KeptC w [(⟨w.heap.size, 0, none⟩, .string s), (⟨w.heap.size, 1, none⟩, .int .i64 e), (⟨w.heap.size, 2, none⟩, .int .i64 m), (⟨w.heap.size, 3, none⟩, .bool al), (⟨w.heap.size, 4, none⟩, .int .i64 k0), (⟨w.heap.size, 5, none⟩, .int .i64 sc)] [] w20 := KeptC.below (by (repeat' (first | refine KeptC.cons ?_ ?_ | refine KeptC.consF ?_ ?_ ?_ | refine KeptC.mk0 ?_)); all_goals (first | with_reducible assumption | (go_simp; done) | (simp; omega) | exact (by repeat (first | with_reducible refine Below.setCell ?_ (by first | (simp; done) | (simp; omega) | omega) _ | with_reducible refine Below.alloc ?_ (by first | (simp; done) | (simp; omega) | omega) _ | with_reducible refine Below.drew ?_ | with_reducible refine below_drewN ?_ _ | with_reducible exact Below.refl _ _ | with_reducible refine Below.trans ?_ (Below.mono kb9 (by first | (simp; done) | (simp; omega) | omega)))))) hbn
              simp only [KeptC, List.forall_mem_cons] at hk; obtain ⟨kb20, ⟨kc20_0, kc20_1, kc20_2, kc20_3, kc20_4, kc20_5, _⟩, _⟩ := hk
              have ks20 : w.heap.size ≤ w20.heap.size := kb20.size
              have kB3_20 : Below w3.heap.size w3 w20 := (by repeat (first | with_reducible refine Below.setCell ?_ (by first | (simp; done) | (simp; omega) | omega) _ | with_reducible refine Below.alloc ?_ (by first | (simp; done) | (simp; omega) | omega) _ | with_reducible refine Below.drew ?_ | with_reducible refine below_drewN ?_ _ | with_reducible exact Below.refl _ _ | with_reducible refine Below.trans ?_ (Below.mono kB3_9 (by first | (simp; done) | (simp; omega) | omega)) | with_reducible refine Below.trans ?_ (Below.mono hbn (by first | (simp; done) | (simp; omega) | omega))))
              have ks3_20 : w3.heap.size ≤ w20.heap.size := kB3_20.size
              have kx20_w : w.heap.size < w20.heap.size := cell_lt kc20_0
              clear hbn kb9 kc9_0 kc9_1 kc9_2 kc9_3 kc9_4 kc9_5 kc9_6 kc9_7 kc9_8 kc9_9 kc9_10 kc9_11 kB3_9 kB4_9 kB5_9 kx9_w kx9_w7
              go_wp2_with (fail)
              refine (awake_any _).mono ?_; rintro x w22 ⟨rfl, hbn⟩
              have kb22 : Below w.heap.size w w22 := (by repeat (first | with_reducible refine Below.setCell ?_ (by first | (simp; done) | (simp; omega) | omega) _ | with_reducible refine Below.alloc ?_ (by first | (simp; done) | (simp; omega) | omega) _ | with_reducible refine Below.drew ?_ | with_reducible refine below_drewN ?_ _ | with_reducible exact Below.refl _ _ | with_reducible refine Below.trans ?_ (Below.mono kb20 (by first | (simp; done) | (simp; omega) | omega)) | with_reducible refine Below.trans ?_ (Below.mono hbn (by first | (simp; done) | (simp; omega) | omega))))
              have ks22 : w.heap.size ≤ w22.heap.size := kb22.size
              clear hbn kb20 kc20_0 kc20_1 kc20_2 kc20_3 kc20_4 kc20_5 kB3_20 kx20_w
              go_wp2
              go_ret
              exact ⟨rfl, kb22⟩
      · obtain ⟨os, oe, om, oa, ok, oc⟩ := o
        simp only [] at hoa hst hfz
        subst hoa
        have heb : (ec == 0) = false := by simpa using he
        subst hd
        have hO := C4.out
        simp only [hfo, Option.getD_some, Option.isSome_some] at hO
        have hfz' := fun W h => find_any B5 _ d5 Z nm W h (fit_hm HZ.out.1)
        simp only [hfz, Option.getD_some, Option.isSome_some] at hfz'
        have HFZ := Lib.hid hfz'
        generalize oe + 1 = oe1 at *
        have hN := fun W => newerC_any os oe1 mk false ok oc os oe om true ok oc W
        simp only [hst] at hN
        have HN := Lib.hid hN
        clear hN hst hfz hfz'
        go_wp2_with (fail)
        refine (hO _ (by repeat (first | with_reducible refine Below.setCell ?_ (by first | (simp; done) | (simp; omega) | omega) _ | with_reducible refine Below.alloc ?_ (by first | (simp; done) | (simp; omega) | omega) _ | with_reducible refine Below.drew ?_ | with_reducible refine below_drewN ?_ _ | with_reducible exact Below.refl _ _ | with_reducible refine Below.trans ?_ (Below.mono kbr (by first | (simp; done) | (simp; omega) | omega))))).mono ?_; rintro x w7 ⟨rfl, hbn⟩
        have hk : KeptC w [(⟨w.heap.size, 0, none⟩, .string s), (⟨w.heap.size, 1, none⟩, .int .i64 e), (⟨w.heap.size, 2, none⟩, .int .i64 m), (⟨w.heap.size, 3, none⟩, .bool al), (⟨w.heap.size, 4, none⟩, .int .i64 k0), (⟨w.heap.size, 5, none⟩, .int .i64 sc)] [] w7 := KeptC.below (by (repeat' (first | refine KeptC.cons ?_ ?_ | refine KeptC.consF ?_ ?_ ?_ | refine KeptC.mk0 ?_)); all_goals (first | with_reducible assumption | (go_simp; done) | (simp; omega) | exact (by repeat (first | with_reducible refine Below.setCell ?_ (by first | (simp; done) | (simp; omega) | omega) _ | with_reducible refine Below.alloc ?_ (by first | (simp; done) | (simp; omega) | omega) _ | with_reducible refine Below.drew ?_ | with_reducible refine below_drewN ?_ _ | with_reducible exact Below.refl _ _ | with_reducible refine Below.trans ?_ (Below.mono kbr (by first | (simp; done) | (simp; omega) | omega)))))) hbn
        simp only [KeptC, List.forall_mem_cons] at hk; obtain ⟨kb7, ⟨kc7_0, kc7_1, kc7_2, kc7_3, kc7_4, kc7_5, _⟩, _⟩ := hk
        have ks7 : w.heap.size ≤ w7.heap.size := kb7.size
        have kB3_7 : Below w3.heap.size w3 w7 := (by repeat (first | with_reducible refine Below.setCell ?_ (by first | (simp; done) | (simp; omega) | omega) _ | with_reducible refine Below.alloc ?_ (by first | (simp; done) | (simp; omega) | omega) _ | with_reducible refine Below.drew ?_ | with_reducible refine below_drewN ?_ _ | with_reducible exact Below.refl _ _ | with_reducible refine Below.trans ?_ (Below.mono kB3_r (by first | (simp; done) | (simp; omega) | omega)) | with_reducible refine Below.trans ?_ (Below.mono hbn (by first | (simp; done) | (simp; omega) | omega))))
        have ks3_7 : w3.heap.size ≤ w7.heap.size := kB3_7.size
        have kB4_7 : Below w4.heap.size w4 w7 := (by repeat (first | with_reducible refine Below.setCell ?_ (by first | (simp; done) | (simp; omega) | omega) _ | with_reducible refine Below.alloc ?_ (by first | (simp; done) | (simp; omega) | omega) _ | with_reducible refine Below.drew ?_ | with_reducible refine below_drewN ?_ _ | with_reducible exact Below.refl _ _ | with_reducible refine Below.trans ?_ (Below.mono kB4_r (by first | (simp; done) | (simp; omega) | omega)) | with_reducible refine Below.trans ?_ (Below.mono hbn (by first | (simp; done) | (simp; omega) | omega))))
        have ks4_7 : w4.heap.size ≤ w7.heap.size := kB4_7.size
        have kB5_7 : Below w5.heap.size w5 w7 := (by repeat (first | with_reducible refine Below.setCell ?_ (by first | (simp; done) | (simp; omega) | omega) _ | with_reducible refine Below.alloc ?_ (by first | (simp; done) | (simp; omega) | omega) _ | with_reducible refine Below.drew ?_ | with_reducible refine below_drewN ?_ _ | with_reducible exact Below.refl _ _ | with_reducible refine Below.trans ?_ (Below.mono kB5_r (by first | (simp; done) | (simp; omega) | omega)) | with_reducible refine Below.trans ?_ (Below.mono hbn (by first | (simp; done) | (simp; omega) | omega))))
        have ks5_7 : w5.heap.size ≤ w7.heap.size := kB5_7.size
        have kx7_w : w.heap.size < w7.heap.size := cell_lt kc7_0
        clear hbn kbr kB3_r kB4_r kB5_r kxr_w kcr_0 kcr_1 kcr_2 kcr_3 kcr_4 kcr_5
        clear hO
        go_wp2_with (fail)
        refine (HFZ.out _ ((HR5.out.below (by repeat (first | with_reducible refine Below.setCell ?_ (by first | (simp; done) | (simp; omega) | omega) _ | with_reducible refine Below.alloc ?_ (by first | (simp; done) | (simp; omega) | omega) _ | with_reducible refine Below.drew ?_ | with_reducible refine below_drewN ?_ _ | with_reducible exact Below.refl _ _ | with_reducible refine Below.trans ?_ (Below.mono kB5_7 (by first | (simp; done) | (simp; omega) | omega))))).more (by first | (simp; done) | (simp; omega) | omega))).mono ?_; rintro x w8 ⟨rfl, hbn⟩
        have hk : KeptC w [(⟨w.heap.size, 0, none⟩, .string s), (⟨w.heap.size, 1, none⟩, .int .i64 e), (⟨w.heap.size, 2, none⟩, .int .i64 m), (⟨w.heap.size, 3, none⟩, .bool al), (⟨w.heap.size, 4, none⟩, .int .i64 k0), (⟨w.heap.size, 5, none⟩, .int .i64 sc), (⟨w7.heap.size, 0, none⟩, .string os), (⟨w7.heap.size, 1, none⟩, .int .i64 oe), (⟨w7.heap.size, 2, none⟩, .int .i64 om), (⟨w7.heap.size, 3, none⟩, .bool true), (⟨w7.heap.size, 4, none⟩, .int .i64 ok), (⟨w7.heap.size, 5, none⟩, .int .i64 oc)] [] w8 := KeptC.below (by (repeat' (first | refine KeptC.cons ?_ ?_ | refine KeptC.consF ?_ ?_ ?_ | refine KeptC.mk0 ?_)); all_goals (first | with_reducible assumption | (go_simp; done) | (simp; omega) | exact (by repeat (first | with_reducible refine Below.setCell ?_ (by first | (simp; done) | (simp; omega) | omega) _ | with_reducible refine Below.alloc ?_ (by first | (simp; done) | (simp; omega) | omega) _ | with_reducible refine Below.drew ?_ | with_reducible refine below_drewN ?_ _ | with_reducible exact Below.refl _ _ | with_reducible refine Below.trans ?_ (Below.mono kb7 (by first | (simp; done) | (simp; omega) | omega)))))) hbn
        simp only [KeptC, List.forall_mem_cons] at hk; obtain ⟨kb8, ⟨kc8_0, kc8_1, kc8_2, kc8_3, kc8_4, kc8_5, kc8_6, kc8_7, kc8_8, kc8_9, kc8_10, kc8_11, _⟩, _⟩ := hk
        have ks8 : w.heap.size ≤ w8.heap.size := kb8.size
        have kB3_8 : Below w3.heap.size w3 w8 := (by repeat (first | with_reducible refine Below.setCell ?_ (by first | (simp; done) | (simp; omega) | omega) _ | with_reducible refine Below.alloc ?_ (by first | (simp; done) | (simp; omega) | omega) _ | with_reducible refine Below.drew ?_ | with_reducible refine below_drewN ?_ _ | with_reducible exact Below.refl _ _ | with_reducible refine Below.trans ?_ (Below.mono kB3_7 (by first | (simp; done) | (simp; omega) | omega)) | with_reducible refine Below.trans ?_ (Below.mono hbn (by first | (simp; done) | (simp; omega) | omega))))
        have ks3_8 : w3.heap.size ≤ w8.heap.size := kB3_8.size
        have kB4_8 : Below w4.heap.size w4 w8 := (by repeat (first | with_reducible refine Below.setCell ?_ (by first | (simp; done) | (simp; omega) | omega) _ | with_reducible refine Below.alloc ?_ (by first | (simp; done) | (simp; omega) | omega) _ | with_reducible refine Below.drew ?_ | with_reducible refine below_drewN ?_ _ | with_reducible exact Below.refl _ _ | with_reducible refine Below.trans ?_ (Below.mono kB4_7 (by first | (simp; done) | (simp; omega) | omega)) | with_reducible refine Below.trans ?_ (Below.mono hbn (by first | (simp; done) | (simp; omega) | omega))))
        have ks4_8 : w4.heap.size ≤ w8.heap.size := kB4_8.size
        have kB5_8 : Below w5.heap.size w5 w8 := (by repeat (first | with_reducible refine Below.setCell ?_ (by first | (simp; done) | (simp; omega) | omega) _ | with_reducible refine Below.alloc ?_ (by first | (simp; done) | (simp; omega) | omega) _ | with_reducible refine Below.drew ?_ | with_reducible refine below_drewN ?_ _ | with_reducible exact Below.refl _ _ | with_reducible refine Below.trans ?_ (Below.mono kB5_7 (by first | (simp; done) | (simp; omega) | omega)) | with_reducible refine Below.trans ?_ (Below.mono hbn (by first | (simp; done) | (simp; omega) | omega))))
        have ks5_8 : w5.heap.size ≤ w8.heap.size := kB5_8.size
        have kx8_w : w.heap.size < w8.heap.size := cell_lt kc8_0
        have kx8_w7 : w7.heap.size < w8.heap.size := cell_lt kc8_6
        clear hbn kb7 kc7_0 kc7_1 kc7_2 kc7_3 kc7_4 kc7_5 kB3_7 kB4_7 kB5_7 kx7_w
        go_wp2_with (fail)
        refine (HN.out _).mono ?_; rintro x w9 ⟨rfl, hbn⟩
        have hk : KeptC w [(⟨w.heap.size, 0, none⟩, .string s), (⟨w.heap.size, 1, none⟩, .int .i64 e), (⟨w.heap.size, 2, none⟩, .int .i64 m), (⟨w.heap.size, 3, none⟩, .bool al), (⟨w.heap.size, 4, none⟩, .int .i64 k0), (⟨w.heap.size, 5, none⟩, .int .i64 sc), (⟨w7.heap.size, 0, none⟩, .string os), (⟨w7.heap.size, 1, none⟩, .int .i64 oe), (⟨w7.heap.size, 2, none⟩, .int .i64 om), (⟨w7.heap.size, 3, none⟩, .bool true), (⟨w7.heap.size, 4, none⟩, .int .i64 ok), (⟨w7.heap.size, 5, none⟩, .int .i64 oc)] [] w9 := KeptC.below (by (repeat' (first | refine KeptC.cons ?_ ?_ | refine KeptC.consF ?_ ?_ ?_ | refine KeptC.mk0 ?_)); all_goals (first | with_reducible assumption | (go_simp; done) | (simp; omega) | exact (by repeat (first | with_reducible refine Below.setCell ?_ (by first | (simp; done) | (simp; omega) | omega) _ | with_reducible refine Below.alloc ?_ (by first | (simp; done) | (simp; omega) | omega) _ | with_reducible refine Below.drew ?_ | with_reducible refine below_drewN ?_ _ | with_reducible exact Below.refl _ _ | with_reducible refine Below.trans ?_ (Below.mono kb8 (by first | (simp; done) | (simp; omega) | omega)))))) hbn
        simp only [KeptC, List.forall_mem_cons] at hk; obtain ⟨kb9, ⟨kc9_0, kc9_1, kc9_2, kc9_3, kc9_4, kc9_5, kc9_6, kc9_7, kc9_8, kc9_9, kc9_10, kc9_11, _⟩, _⟩ := hk
        have ks9 : w.heap.size ≤ w9.heap.size := kb9.size
        have kB3_9 : Below w3.heap.size w3 w9 := (by repeat (first | with_reducible refine Below.setCell ?_ (by first | (simp; done) | (simp; omega) | omega) _ | with_reducible refine Below.alloc ?_ (by first | (simp; done) | (simp; omega) | omega) _ | with_reducible refine Below.drew ?_ | with_reducible refine below_drewN ?_ _ | with_reducible exact Below.refl _ _ | with_reducible refine Below.trans ?_ (Below.mono kB3_8 (by first | (simp; done) | (simp; omega) | omega)) | with_reducible refine Below.trans ?_ (Below.mono hbn (by first | (simp; done) | (simp; omega) | omega))))
        have ks3_9 : w3.heap.size ≤ w9.heap.size := kB3_9.size
        have kB4_9 : Below w4.heap.size w4 w9 := (by repeat (first | with_reducible refine Below.setCell ?_ (by first | (simp; done) | (simp; omega) | omega) _ | with_reducible refine Below.alloc ?_ (by first | (simp; done) | (simp; omega) | omega) _ | with_reducible refine Below.drew ?_ | with_reducible refine below_drewN ?_ _ | with_reducible exact Below.refl _ _ | with_reducible refine Below.trans ?_ (Below.mono kB4_8 (by first | (simp; done) | (simp; omega) | omega)) | with_reducible refine Below.trans ?_ (Below.mono hbn (by first | (simp; done) | (simp; omega) | omega))))
        have ks4_9 : w4.heap.size ≤ w9.heap.size := kB4_9.size
        have kB5_9 : Below w5.heap.size w5 w9 := (by repeat (first | with_reducible refine Below.setCell ?_ (by first | (simp; done) | (simp; omega) | omega) _ | with_reducible refine Below.alloc ?_ (by first | (simp; done) | (simp; omega) | omega) _ | with_reducible refine Below.drew ?_ | with_reducible refine below_drewN ?_ _ | with_reducible exact Below.refl _ _ | with_reducible refine Below.trans ?_ (Below.mono kB5_8 (by first | (simp; done) | (simp; omega) | omega)) | with_reducible refine Below.trans ?_ (Below.mono hbn (by first | (simp; done) | (simp; omega) | omega))))
        have ks5_9 : w5.heap.size ≤ w9.heap.size := kB5_9.size
        have kx9_w : w.heap.size < w9.heap.size := cell_lt kc9_0
        have kx9_w7 : w7.heap.size < w9.heap.size := cell_lt kc9_6
        clear hbn kb8 kc8_0 kc8_1 kc8_2 kc8_3 kc8_4 kc8_5 kc8_6 kc8_7 kc8_8 kc8_9 kc8_10 kc8_11 kB3_8 kB4_8 kB5_8 kx8_w kx8_w7
        go_wp2_with (fail)
        rcases HT.out with ⟨hwh, hfx, hne⟩ | ⟨hw3, hw4, hXe⟩
        · have HNE := Lib.hid hne
          have hfx' := fun W h => find_any B3 _ d3 X s W h (fit_hm HX.out.1)
          simp only [hfx, Option.getD_some, Option.isSome_some] at hfx'
          have HFX := Lib.hid hfx'
          clear hfx hfx' hne
          rcases hwh with rfl | rfl
          · refine (HFX.out _ ((HR3.out.below (by repeat (first | with_reducible refine Below.setCell ?_ (by first | (simp; done) | (simp; omega) | omega) _ | with_reducible refine Below.alloc ?_ (by first | (simp; done) | (simp; omega) | omega) _ | with_reducible refine Below.drew ?_ | with_reducible refine below_drewN ?_ _ | with_reducible exact Below.refl _ _ | with_reducible refine Below.trans ?_ (Below.mono kB3_9 (by first | (simp; done) | (simp; omega) | omega))))).more (by first | (simp; done) | (simp; omega) | omega))).mono ?_; rintro x w20 ⟨rfl, hbn⟩
            have hk : KeptC w [(⟨w.heap.size, 0, none⟩, .string s), (⟨w.heap.size, 1, none⟩, .int .i64 e), (⟨w.heap.size, 2, none⟩, .int .i64 m), (⟨w.heap.size, 3, none⟩, .bool al), (⟨w.heap.size, 4, none⟩, .int .i64 k0), (⟨w.heap.size, 5, none⟩, .int .i64 sc)] [] w20 := KeptC.below (by (repeat' (first | refine KeptC.cons ?_ ?_ | refine KeptC.consF ?_ ?_ ?_ | refine KeptC.mk0 ?_)); all_goals (first | with_reducible assumption | (go_simp; done) | (simp; omega) | exact (by repeat (first | with_reducible refine Below.setCell ?_ (by first | (simp; done) | (simp; omega) | omega) _ | with_reducible refine Below.alloc ?_ (by first | (simp; done) | (simp; omega) | omega) _ | with_reducible refine Below.drew ?_ | with_reducible refine below_drewN ?_ _ | with_reducible exact Below.refl _ _ | with_reducible refine Below.trans ?_ (Below.mono kb9 (by first | (simp; done) | (simp; omega) | omega)))))) hbn
            simp only [KeptC, List.forall_mem_cons] at hk; obtain ⟨kb20, ⟨kc20_0, kc20_1, kc20_2, kc20_3, kc20_4, kc20_5, _⟩, _⟩ := hk
            have ks20 : w.heap.size ≤ w20.heap.size := kb20.size
            have kB3_20 : Below w3.heap.size w3 w20 := (by repeat (first | with_reducible refine Below.setCell ?_ (by first | (simp; done) | (simp; omega) | omega) _ | with_reducible refine Below.alloc ?_ (by first | (simp; done) | (simp; omega) | omega) _ | with_reducible refine Below.drew ?_ | with_reducible refine below_drewN ?_ _ | with_reducible exact Below.refl _ _ | with_reducible refine Below.trans ?_ (Below.mono kB3_9 (by first | (simp; done) | (simp; omega) | omega)) | with_reducible refine Below.trans ?_ (Below.mono hbn (by first | (simp; done) | (simp; omega) | omega))))
            have ks3_20 : w3.heap.size ≤ w20.heap.size := kB3_20.size
            have kx20_w : w.heap.size < w20.heap.size := cell_lt kc20_0
            clear hbn kb9 kc9_0 kc9_1 kc9_2 kc9_3 kc9_4 kc9_5 kc9_6 kc9_7 kc9_8 kc9_9 kc9_10 kc9_11 kB3_9 kB4_9 kB5_9 kx9_w kx9_w7
            go_wp2_with (fail)
            have hS := fun W (h3 : Below w3.heap.size w3 W) (h : Below w.heap.size w W) => same_any B3 _ d3 X A _ cp ls W ((HR3.out.below h3).more h3.size) ((HR.out.below h).more h.size) (fit_hm HX.out.1) hm
            simp only [sameB_ne HNE.out] at hS
            refine (hS _ (by repeat (first | with_reducible refine Below.setCell ?_ (by first | (simp; done) | (simp; omega) | omega) _ | with_reducible refine Below.alloc ?_ (by first | (simp; done) | (simp; omega) | omega) _ | with_reducible refine Below.drew ?_ | with_reducible refine below_drewN ?_ _ | with_reducible exact Below.refl _ _ | with_reducible refine Below.trans ?_ (Below.mono kB3_20 (by first | (simp; done) | (simp; omega) | omega)))) (by repeat (first | with_reducible refine Below.setCell ?_ (by first | (simp; done) | (simp; omega) | omega) _ | with_reducible refine Below.alloc ?_ (by first | (simp; done) | (simp; omega) | omega) _ | with_reducible refine Below.drew ?_ | with_reducible refine below_drewN ?_ _ | with_reducible exact Below.refl _ _ | with_reducible refine Below.trans ?_ (Below.mono kb20 (by first | (simp; done) | (simp; omega) | omega))))).mono ?_; rintro x w21 ⟨rfl, hbn⟩
            have kb21 : Below w.heap.size w w21 := (by repeat (first | with_reducible refine Below.setCell ?_ (by first | (simp; done) | (simp; omega) | omega) _ | with_reducible refine Below.alloc ?_ (by first | (simp; done) | (simp; omega) | omega) _ | with_reducible refine Below.drew ?_ | with_reducible refine below_drewN ?_ _ | with_reducible exact Below.refl _ _ | with_reducible refine Below.trans ?_ (Below.mono kb20 (by first | (simp; done) | (simp; omega) | omega)) | with_reducible refine Below.trans ?_ (Below.mono hbn (by first | (simp; done) | (simp; omega) | omega))))
            have ks21 : w.heap.size ≤ w21.heap.size := kb21.size
            clear hbn kb20 kc20_0 kc20_1 kc20_2 kc20_3 kc20_4 kc20_5 kB3_20 kx20_w
            clear hS
            go_wp2_with (fail)
            refine (awake_any _).mono ?_; rintro x w22 ⟨rfl, hbn⟩
            have kb22 : Below w.heap.size w w22 := (by repeat (first | with_reducible refine Below.setCell ?_ (by first | (simp; done) | (simp; omega) | omega) _ | with_reducible refine Below.alloc ?_ (by first | (simp; done) | (simp; omega) | omega) _ | with_reducible refine Below.drew ?_ | with_reducible refine below_drewN ?_ _ | with_reducible exact Below.refl _ _ | with_reducible refine Below.trans ?_ (Below.mono kb21 (by first | (simp; done) | (simp; omega) | omega)) | with_reducible refine Below.trans ?_ (Below.mono hbn (by first | (simp; done) | (simp; omega) | omega))))
            have ks22 : w.heap.size ≤ w22.heap.size := kb22.size
            clear hbn kb21
            go_wp2
            go_ret
            exact ⟨rfl, kb22⟩
          · refine (HFX.out _ ((HR3.out.below (by repeat (first | with_reducible refine Below.setCell ?_ (by first | (simp; done) | (simp; omega) | omega) _ | with_reducible refine Below.alloc ?_ (by first | (simp; done) | (simp; omega) | omega) _ | with_reducible refine Below.drew ?_ | with_reducible refine below_drewN ?_ _ | with_reducible exact Below.refl _ _ | with_reducible refine Below.trans ?_ (Below.mono kB3_9 (by first | (simp; done) | (simp; omega) | omega))))).more (by first | (simp; done) | (simp; omega) | omega))).mono ?_; rintro x w20 ⟨rfl, hbn⟩
            have hk : KeptC w [(⟨w.heap.size, 0, none⟩, .string s), (⟨w.heap.size, 1, none⟩, .int .i64 e), (⟨w.heap.size, 2, none⟩, .int .i64 m), (⟨w.heap.size, 3, none⟩, .bool al), (⟨w.heap.size, 4, none⟩, .int .i64 k0), (⟨w.heap.size, 5, none⟩, .int .i64 sc)] [] w20 := KeptC.below (by (repeat' (first | refine KeptC.cons ?_ ?_ | refine KeptC.consF ?_ ?_ ?_ | refine KeptC.mk0 ?_)); all_goals (first | with_reducible assumption | (go_simp; done) | (simp; omega) | exact (by repeat (first | with_reducible refine Below.setCell ?_ (by first | (simp; done) | (simp; omega) | omega) _ | with_reducible refine Below.alloc ?_ (by first | (simp; done) | (simp; omega) | omega) _ | with_reducible refine Below.drew ?_ | with_reducible refine below_drewN ?_ _ | with_reducible exact Below.refl _ _ | with_reducible refine Below.trans ?_ (Below.mono kb9 (by first | (simp; done) | (simp; omega) | omega)))))) hbn
            simp only [KeptC, List.forall_mem_cons] at hk; obtain ⟨kb20, ⟨kc20_0, kc20_1, kc20_2, kc20_3, kc20_4, kc20_5, _⟩, _⟩ := hk
            have ks20 : w.heap.size ≤ w20.heap.size := kb20.size
            have kB3_20 : Below w3.heap.size w3 w20 := (by repeat (first | with_reducible refine Below.setCell ?_ (by first | (simp; done) | (simp; omega) | omega) _ | with_reducible refine Below.alloc ?_ (by first | (simp; done) | (simp; omega) | omega) _ | with_reducible refine Below.drew ?_ | with_reducible refine below_drewN ?_ _ | with_reducible exact Below.refl _ _ | with_reducible refine Below.trans ?_ (Below.mono kB3_9 (by first | (simp; done) | (simp; omega) | omega)) | with_reducible refine Below.trans ?_ (Below.mono hbn (by first | (simp; done) | (simp; omega) | omega))))
            have ks3_20 : w3.heap.size ≤ w20.heap.size := kB3_20.size
            have kx20_w : w.heap.size < w20.heap.size := cell_lt kc20_0
            clear hbn kb9 kc9_0 kc9_1 kc9_2 kc9_3 kc9_4 kc9_5 kc9_6 kc9_7 kc9_8 kc9_9 kc9_10 kc9_11 kB3_9 kB4_9 kB5_9 kx9_w kx9_w7
            go_wp2_with (fail)
            have hS := fun W (h3 : Below w3.heap.size w3 W) (h : Below w.heap.size w W) => same_any B3 _ d3 X A _ cp ls W ((HR3.out.below h3).more h3.size) ((HR.out.below h).more h.size) (fit_hm HX.out.1) hm
            simp only [sameB_ne HNE.out] at hS
            refine (hS _ (by repeat (first | with_reducible refine Below.setCell ?_ (by first | (simp; done) | (simp; omega) | omega) _ | with_reducible refine Below.alloc ?_ (by first | (simp; done) | (simp; omega) | omega) _ | with_reducible refine Below.drew ?_ | with_reducible refine below_drewN ?_ _ | with_reducible exact Below.refl _ _ | with_reducible refine Below.trans ?_ (Below.mono kB3_20 (by first | (simp; done) | (simp; omega) | omega)))) (by repeat (first | with_reducible refine Below.setCell ?_ (by first | (simp; done) | (simp; omega) | omega) _ | with_reducible refine Below.alloc ?_ (by first | (simp; done) | (simp; omega) | omega) _ | with_reducible refine Below.drew ?_ | with_reducible refine below_drewN ?_ _ | with_reducible exact Below.refl _ _ | with_reducible refine Below.trans ?_ (Below.mono kb20 (by first | (simp; done) | (simp; omega) | omega))))).mono ?_; rintro x w21 ⟨rfl, hbn⟩
            have kb21 : Below w.heap.size w w21 := (by repeat (first | with_reducible refine Below.setCell ?_ (by first | (simp; done) | (simp; omega) | omega) _ | with_reducible refine Below.alloc ?_ (by first | (simp; done) | (simp; omega) | omega) _ | with_reducible refine Below.drew ?_ | with_reducible refine below_drewN ?_ _ | with_reducible exact Below.refl _ _ | with_reducible refine Below.trans ?_ (Below.mono kb20 (by first | (simp; done) | (simp; omega) | omega)) | with_reducible refine Below.trans ?_ (Below.mono hbn (by first | (simp; done) | (simp; omega) | omega))))
            have ks21 : w.heap.size ≤ w21.heap.size := kb21.size
            clear hbn kb20 kc20_0 kc20_1 kc20_2 kc20_3 kc20_4 kc20_5 kB3_20 kx20_w
            clear hS
            go_wp2_with (fail)
            refine (awake_any _).mono ?_; rintro x w22 ⟨rfl, hbn⟩
            have kb22 : Below w.heap.size w w22 := (by repeat (first | with_reducible refine Below.setCell ?_ (by first | (simp; done) | (simp; omega) | omega) _ | with_reducible refine Below.alloc ?_ (by first | (simp; done) | (simp; omega) | omega) _ | with_reducible refine Below.drew ?_ | with_reducible refine below_drewN ?_ _ | with_reducible exact Below.refl _ _ | with_reducible refine Below.trans ?_ (Below.mono kb21 (by first | (simp; done) | (simp; omega) | omega)) | with_reducible refine Below.trans ?_ (Below.mono hbn (by first | (simp; done) | (simp; omega) | omega))))
            have ks22 : w.heap.size ≤ w22.heap.size := kb22.size
            clear hbn kb21
            go_wp2
            go_ret
            exact ⟨rfl, kb22⟩
        · have hb3 : (wh == 3) = false := by simpa using hw3
          have hb4 : (wh == 4) = false := by simpa using hw4
          have HXE := Lib.hid hXe
          have hfx' := fun W h => find_any B3 _ d3 X s W h (fit_hm HX.out.1)
          generalize (findL X s).isSome = fsm at hfx'
          generalize (findL X s).getD Ch0 = fr2 at hfx'
          have hcs := ch_cases fr2 ⟨s, e, m, al, k0, sc⟩
          obtain ⟨ns, ne, nw', na, nk, nc⟩ := fr2
          simp only [] at hfx' hcs
          have HFX := Lib.hid hfx'
          clear hfx' hXe
          rcases hcs with h | h | h | h | h | h | h
          · obtain ⟨g0, g1, g2, g3, g4, g5⟩ := Ch.mk.inj h
            clear h
            replace g0 := g0.symm; replace g1 := g1.symm; replace g2 := g2.symm; replace g3 := g3.symm; replace g4 := g4.symm; replace g5 := g5.symm
            subst g0 g1 g2 g3 g4 g5
            refine (HFX.out _ ((HR3.out.below (by repeat (first | with_reducible refine Below.setCell ?_ (by first | (simp; done) | (simp; omega) | omega) _ | with_reducible refine Below.alloc ?_ (by first | (simp; done) | (simp; omega) | omega) _ | with_reducible refine Below.drew ?_ | with_reducible refine below_drewN ?_ _ | with_reducible exact Below.refl _ _ | with_reducible refine Below.trans ?_ (Below.mono kB3_9 (by first | (simp; done) | (simp; omega) | omega))))).more (by first | (simp; done) | (simp; omega) | omega))).mono ?_; rintro x w20 ⟨rfl, hbn⟩
            have hk : KeptC w [(⟨w.heap.size, 0, none⟩, .string s), (⟨w.heap.size, 1, none⟩, .int .i64 e), (⟨w.heap.size, 2, none⟩, .int .i64 m), (⟨w.heap.size, 3, none⟩, .bool al), (⟨w.heap.size, 4, none⟩, .int .i64 k0), (⟨w.heap.size, 5, none⟩, .int .i64 sc)] [] w20 := KeptC.below (by (repeat' (first | refine KeptC.cons ?_ ?_ | refine KeptC.consF ?_ ?_ ?_ | refine KeptC.mk0 ?_)); all_goals (first | with_reducible assumption | (go_simp; done) | (simp; omega) | exact (by repeat (first | with_reducible refine Below.setCell ?_ (by first | (simp; done) | (simp; omega) | omega) _ | with_reducible refine Below.alloc ?_ (by first | (simp; done) | (simp; omega) | omega) _ | with_reducible refine Below.drew ?_ | with_reducible refine below_drewN ?_ _ | with_reducible exact Below.refl _ _ | with_reducible refine Below.trans ?_ (Below.mono kb9 (by first | (simp; done) | (simp; omega) | omega)))))) hbn
            simp only [KeptC, List.forall_mem_cons] at hk; obtain ⟨kb20, ⟨kc20_0, kc20_1, kc20_2, kc20_3, kc20_4, kc20_5, _⟩, _⟩ := hk
            have ks20 : w.heap.size ≤ w20.heap.size := kb20.size
            have kB3_20 : Below w3.heap.size w3 w20 := (by repeat (first | with_reducible refine Below.setCell ?_ (by first | (simp; done) | (simp; omega) | omega) _ | with_reducible refine Below.alloc ?_ (by first | (simp; done) | (simp; omega) | omega) _ | with_reducible refine Below.drew ?_ | with_reducible refine below_drewN ?_ _ | with_reducible exact Below.refl _ _ | with_reducible refine Below.trans ?_ (Below.mono kB3_9 (by first | (simp; done) | (simp; omega) | omega)) | with_reducible refine Below.trans ?_ (Below.mono hbn (by first | (simp; done) | (simp; omega) | omega))))
            have ks3_20 : w3.heap.size ≤ w20.heap.size := kB3_20.size
            have kx20_w : w.heap.size < w20.heap.size := cell_lt kc20_0
            clear hbn kb9 kc9_0 kc9_1 kc9_2 kc9_3 kc9_4 kc9_5 kc9_6 kc9_7 kc9_8 kc9_9 kc9_10 kc9_11 kB3_9 kB4_9 kB5_9 kx9_w kx9_w7
            go_wp2_with (fail)
            have hS := fun W (h3 : Below w3.heap.size w3 W) (h : Below w.heap.size w W) => same_any B3 _ d3 X A _ cp ls W ((HR3.out.below h3).more h3.size) ((HR.out.below h).more h.size) (fit_hm HX.out.1) hm
            simp only [sameB_eq HXE.out] at hS
            refine (hS _ (by repeat (first | with_reducible refine Below.setCell ?_ (by first | (simp; done) | (simp; omega) | omega) _ | with_reducible refine Below.alloc ?_ (by first | (simp; done) | (simp; omega) | omega) _ | with_reducible refine Below.drew ?_ | with_reducible refine below_drewN ?_ _ | with_reducible exact Below.refl _ _ | with_reducible refine Below.trans ?_ (Below.mono kB3_20 (by first | (simp; done) | (simp; omega) | omega)))) (by repeat (first | with_reducible refine Below.setCell ?_ (by first | (simp; done) | (simp; omega) | omega) _ | with_reducible refine Below.alloc ?_ (by first | (simp; done) | (simp; omega) | omega) _ | with_reducible refine Below.drew ?_ | with_reducible refine below_drewN ?_ _ | with_reducible exact Below.refl _ _ | with_reducible refine Below.trans ?_ (Below.mono kb20 (by first | (simp; done) | (simp; omega) | omega))))).mono ?_; rintro x w21 ⟨rfl, hbn⟩
            have kb21 : Below w.heap.size w w21 := (by repeat (first | with_reducible refine Below.setCell ?_ (by first | (simp; done) | (simp; omega) | omega) _ | with_reducible refine Below.alloc ?_ (by first | (simp; done) | (simp; omega) | omega) _ | with_reducible refine Below.drew ?_ | with_reducible refine below_drewN ?_ _ | with_reducible exact Below.refl _ _ | with_reducible refine Below.trans ?_ (Below.mono kb20 (by first | (simp; done) | (simp; omega) | omega)) | with_reducible refine Below.trans ?_ (Below.mono hbn (by first | (simp; done) | (simp; omega) | omega))))
            have ks21 : w.heap.size ≤ w21.heap.size := kb21.size
            clear hbn kb20 kc20_0 kc20_1 kc20_2 kc20_3 kc20_4 kc20_5 kB3_20 kx20_w
            clear hS
            go_wp2_with (fail)
            refine (awake_any _).mono ?_; rintro x w22 ⟨rfl, hbn⟩
            have kb22 : Below w.heap.size w w22 := (by repeat (first | with_reducible refine Below.setCell ?_ (by first | (simp; done) | (simp; omega) | omega) _ | with_reducible refine Below.alloc ?_ (by first | (simp; done) | (simp; omega) | omega) _ | with_reducible refine Below.drew ?_ | with_reducible refine below_drewN ?_ _ | with_reducible exact Below.refl _ _ | with_reducible refine Below.trans ?_ (Below.mono kb21 (by first | (simp; done) | (simp; omega) | omega)) | with_reducible refine Below.trans ?_ (Below.mono hbn (by first | (simp; done) | (simp; omega) | omega))))
            have ks22 : w.heap.size ≤ w22.heap.size := kb22.size
            clear hbn kb21
            go_wp2
            go_ret
            exact ⟨rfl, kb22⟩
          · refine (HFX.out _ ((HR3.out.below (by repeat (first | with_reducible refine Below.setCell ?_ (by first | (simp; done) | (simp; omega) | omega) _ | with_reducible refine Below.alloc ?_ (by first | (simp; done) | (simp; omega) | omega) _ | with_reducible refine Below.drew ?_ | with_reducible refine below_drewN ?_ _ | with_reducible exact Below.refl _ _ | with_reducible refine Below.trans ?_ (Below.mono kB3_9 (by first | (simp; done) | (simp; omega) | omega))))).more (by first | (simp; done) | (simp; omega) | omega))).mono ?_; rintro x w20 ⟨rfl, hbn⟩
            have hk : KeptC w [(⟨w.heap.size, 0, none⟩, .string s), (⟨w.heap.size, 1, none⟩, .int .i64 e), (⟨w.heap.size, 2, none⟩, .int .i64 m), (⟨w.heap.size, 3, none⟩, .bool al), (⟨w.heap.size, 4, none⟩, .int .i64 k0), (⟨w.heap.size, 5, none⟩, .int .i64 sc)] [] w20 := KeptC.below (by (repeat' (first | refine KeptC.cons ?_ ?_ | refine KeptC.consF ?_ ?_ ?_ | refine KeptC.mk0 ?_)); all_goals (first | with_reducible assumption | (go_simp; done) | (simp; omega) | exact (by repeat (first | with_reducible refine Below.setCell ?_ (by first | (simp; done) | (simp; omega) | omega) _ | with_reducible refine Below.alloc ?_ (by first | (simp; done) | (simp; omega) | omega) _ | with_reducible refine Below.drew ?_ | with_reducible refine below_drewN ?_ _ | with_reducible exact Below.refl _ _ | with_reducible refine Below.trans ?_ (Below.mono kb9 (by first | (simp; done) | (simp; omega) | omega)))))) hbn
            simp only [KeptC, List.forall_mem_cons] at hk; obtain ⟨kb20, ⟨kc20_0, kc20_1, kc20_2, kc20_3, kc20_4, kc20_5, _⟩, _⟩ := hk
            have ks20 : w.heap.size ≤ w20.heap.size := kb20.size
            have kB3_20 : Below w3.heap.size w3 w20 := (by repeat (first | with_reducible refine Below.setCell ?_ (by first | (simp; done) | (simp; omega) | omega) _ | with_reducible refine Below.alloc ?_ (by first | (simp; done) | (simp; omega) | omega) _ | with_reducible refine Below.drew ?_ | with_reducible refine below_drewN ?_ _ | with_reducible exact Below.refl _ _ | with_reducible refine Below.trans ?_ (Below.mono kB3_9 (by first | (simp; done) | (simp; omega) | omega)) | with_reducible refine Below.trans ?_ (Below.mono hbn (by first | (simp; done) | (simp; omega) | omega))))
            have ks3_20 : w3.heap.size ≤ w20.heap.size := kB3_20.size
            have kx20_w : w.heap.size < w20.heap.size := cell_lt kc20_0
            clear hbn kb9 kc9_0 kc9_1 kc9_2 kc9_3 kc9_4 kc9_5 kc9_6 kc9_7 kc9_8 kc9_9 kc9_10 kc9_11 kB3_9 kB4_9 kB5_9 kx9_w kx9_w7
            go_wp2_with (fail)
            refine (awake_any _).mono ?_; rintro x w22 ⟨rfl, hbn⟩
            have kb22 : Below w.heap.size w w22 := (by repeat (first | with_reducible refine Below.setCell ?_ (by first | (simp; done) | (simp; omega) | omega) _ | with_reducible refine Below.alloc ?_ (by first | (simp; done) | (simp; omega) | omega) _ | with_reducible refine Below.drew ?_ | with_reducible refine below_drewN ?_ _ | with_reducible exact Below.refl _ _ | with_reducible refine Below.trans ?_ (Below.mono kb20 (by first | (simp; done) | (simp; omega) | omega)) | with_reducible refine Below.trans ?_ (Below.mono hbn (by first | (simp; done) | (simp; omega) | omega))))
            have ks22 : w.heap.size ≤ w22.heap.size := kb22.size
            clear hbn kb20 kc20_0 kc20_1 kc20_2 kc20_3 kc20_4 kc20_5 kB3_20 kx20_w
            go_wp2
            go_ret
            exact ⟨rfl, kb22⟩
          · obtain ⟨g0, h⟩ := h
            replace g0 := g0.symm
            subst g0
            have hbq : (ne == e) = false := by simpa using h
            refine (HFX.out _ ((HR3.out.below (by repeat (first | with_reducible refine Below.setCell ?_ (by first | (simp; done) | (simp; omega) | omega) _ | with_reducible refine Below.alloc ?_ (by first | (simp; done) | (simp; omega) | omega) _ | with_reducible refine Below.drew ?_ | with_reducible refine below_drewN ?_ _ | with_reducible exact Below.refl _ _ | with_reducible refine Below.trans ?_ (Below.mono kB3_9 (by first | (simp; done) | (simp; omega) | omega))))).more (by first | (simp; done) | (simp; omega) | omega))).mono ?_; rintro x w20 ⟨rfl, hbn⟩
            have hk : KeptC w [(⟨w.heap.size, 0, none⟩, .string s), (⟨w.heap.size, 1, none⟩, .int .i64 e), (⟨w.heap.size, 2, none⟩, .int .i64 m), (⟨w.heap.size, 3, none⟩, .bool al), (⟨w.heap.size, 4, none⟩, .int .i64 k0), (⟨w.heap.size, 5, none⟩, .int .i64 sc)] [] w20 := KeptC.below (by (repeat' (first | refine KeptC.cons ?_ ?_ | refine KeptC.consF ?_ ?_ ?_ | refine KeptC.mk0 ?_)); all_goals (first | with_reducible assumption | (go_simp; done) | (simp; omega) | exact (by repeat (first | with_reducible refine Below.setCell ?_ (by first | (simp; done) | (simp; omega) | omega) _ | with_reducible refine Below.alloc ?_ (by first | (simp; done) | (simp; omega) | omega) _ | with_reducible refine Below.drew ?_ | with_reducible refine below_drewN ?_ _ | with_reducible exact Below.refl _ _ | with_reducible refine Below.trans ?_ (Below.mono kb9 (by first | (simp; done) | (simp; omega) | omega)))))) hbn
            simp only [KeptC, List.forall_mem_cons] at hk; obtain ⟨kb20, ⟨kc20_0, kc20_1, kc20_2, kc20_3, kc20_4, kc20_5, _⟩, _⟩ := hk
            have ks20 : w.heap.size ≤ w20.heap.size := kb20.size
            have kB3_20 : Below w3.heap.size w3 w20 := (by repeat (first | with_reducible refine Below.setCell ?_ (by first | (simp; done) | (simp; omega) | omega) _ | with_reducible refine Below.alloc ?_ (by first | (simp; done) | (simp; omega) | omega) _ | with_reducible refine Below.drew ?_ | with_reducible refine below_drewN ?_ _ | with_reducible exact Below.refl _ _ | with_reducible refine Below.trans ?_ (Below.mono kB3_9 (by first | (simp; done) | (simp; omega) | omega)) | with_reducible refine Below.trans ?_ (Below.mono hbn (by first | (simp; done) | (simp; omega) | omega))))
            have ks3_20 : w3.heap.size ≤ w20.heap.size := kB3_20.size
            have kx20_w : w.heap.size < w20.heap.size := cell_lt kc20_0
            clear hbn kb9 kc9_0 kc9_1 kc9_2 kc9_3 kc9_4 kc9_5 kc9_6 kc9_7 kc9_8 kc9_9 kc9_10 kc9_11 kB3_9 kB4_9 kB5_9 kx9_w kx9_w7
            go_wp2_with (fail)
            refine (awake_any _).mono ?_; rintro x w22 ⟨rfl, hbn⟩
            have kb22 : Below w.heap.size w w22 := (by repeat (first | with_reducible refine Below.setCell ?_ (by first | (simp; done) | (simp; omega) | omega) _ | with_reducible refine Below.alloc ?_ (by first | (simp; done) | (simp; omega) | omega) _ | with_reducible refine Below.drew ?_ | with_reducible refine below_drewN ?_ _ | with_reducible exact Below.refl _ _ | with_reducible refine Below.trans ?_ (Below.mono kb20 (by first | (simp; done) | (simp; omega) | omega)) | with_reducible refine Below.trans ?_ (Below.mono hbn (by first | (simp; done) | (simp; omega) | omega))))
            have ks22 : w.heap.size ≤ w22.heap.size := kb22.size
            clear hbn kb20 kc20_0 kc20_1 kc20_2 kc20_3 kc20_4 kc20_5 kB3_20 kx20_w
            go_wp2
            go_ret
            exact ⟨rfl, kb22⟩
          · obtain ⟨g0, g1, h⟩ := h
            replace g0 := g0.symm; replace g1 := g1.symm
            subst g0 g1
            have hbq : (nw' == m) = false := by simpa using h
            refine (HFX.out _ ((HR3.out.below (by repeat (first | with_reducible refine Below.setCell ?_ (by first | (simp; done) | (simp; omega) | omega) _ | with_reducible refine Below.alloc ?_ (by first | (simp; done) | (simp; omega) | omega) _ | with_reducible refine Below.drew ?_ | with_reducible refine below_drewN ?_ _ | with_reducible exact Below.refl _ _ | with_reducible refine Below.trans ?_ (Below.mono kB3_9 (by first | (simp; done) | (simp; omega) | omega))))).more (by first | (simp; done) | (simp; omega) | omega))).mono ?_; rintro x w20 ⟨rfl, hbn⟩
            have hk : KeptC w [(⟨w.heap.size, 0, none⟩, .string s), (⟨w.heap.size, 1, none⟩, .int .i64 e), (⟨w.heap.size, 2, none⟩, .int .i64 m), (⟨w.heap.size, 3, none⟩, .bool al), (⟨w.heap.size, 4, none⟩, .int .i64 k0), (⟨w.heap.size, 5, none⟩, .int .i64 sc)] [] w20 := KeptC.below (by (repeat' (first | refine KeptC.cons ?_ ?_ | refine KeptC.consF ?_ ?_ ?_ | refine KeptC.mk0 ?_)); all_goals (first | with_reducible assumption | (go_simp; done) | (simp; omega) | exact (by repeat (first | with_reducible refine Below.setCell ?_ (by first | (simp; done) | (simp; omega) | omega) _ | with_reducible refine Below.alloc ?_ (by first | (simp; done) | (simp; omega) | omega) _ | with_reducible refine Below.drew ?_ | with_reducible refine below_drewN ?_ _ | with_reducible exact Below.refl _ _ | with_reducible refine Below.trans ?_ (Below.mono kb9 (by first | (simp; done) | (simp; omega) | omega)))))) hbn
            simp only [KeptC, List.forall_mem_cons] at hk; obtain ⟨kb20, ⟨kc20_0, kc20_1, kc20_2, kc20_3, kc20_4, kc20_5, _⟩, _⟩ := hk
            have ks20 : w.heap.size ≤ w20.heap.size := kb20.size
            have kB3_20 : Below w3.heap.size w3 w20 := (by repeat (first | with_reducible refine Below.setCell ?_ (by first | (simp; done) | (simp; omega) | omega) _ | with_reducible refine Below.alloc ?_ (by first | (simp; done) | (simp; omega) | omega) _ | with_reducible refine Below.drew ?_ | with_reducible refine below_drewN ?_ _ | with_reducible exact Below.refl _ _ | with_reducible refine Below.trans ?_ (Below.mono kB3_9 (by first | (simp; done) | (simp; omega) | omega)) | with_reducible refine Below.trans ?_ (Below.mono hbn (by first | (simp; done) | (simp; omega) | omega))))
            have ks3_20 : w3.heap.size ≤ w20.heap.size := kB3_20.size
            have kx20_w : w.heap.size < w20.heap.size := cell_lt kc20_0
            clear hbn kb9 kc9_0 kc9_1 kc9_2 kc9_3 kc9_4 kc9_5 kc9_6 kc9_7 kc9_8 kc9_9 kc9_10 kc9_11 kB3_9 kB4_9 kB5_9 kx9_w kx9_w7
            go_wp2_with (fail)
            refine (awake_any _).mono ?_; rintro x w22 ⟨rfl, hbn⟩
            have kb22 : Below w.heap.size w w22 := (by repeat (first | with_reducible refine Below.setCell ?_ (by first | (simp; done) | (simp; omega) | omega) _ | with_reducible refine Below.alloc ?_ (by first | (simp; done) | (simp; omega) | omega) _ | with_reducible refine Below.drew ?_ | with_reducible refine below_drewN ?_ _ | with_reducible exact Below.refl _ _ | with_reducible refine Below.trans ?_ (Below.mono kb20 (by first | (simp; done) | (simp; omega) | omega)) | with_reducible refine Below.trans ?_ (Below.mono hbn (by first | (simp; done) | (simp; omega) | omega))))
            have ks22 : w.heap.size ≤ w22.heap.size := kb22.size
            clear hbn kb20 kc20_0 kc20_1 kc20_2 kc20_3 kc20_4 kc20_5 kB3_20 kx20_w
            go_wp2
            go_ret
            exact ⟨rfl, kb22⟩
          · obtain ⟨g0, g1, g2, h⟩ := h
            replace g0 := g0.symm; replace g1 := g1.symm; replace g2 := g2.symm
            subst g0 g1 g2
            subst h
            refine (HFX.out _ ((HR3.out.below (by repeat (first | with_reducible refine Below.setCell ?_ (by first | (simp; done) | (simp; omega) | omega) _ | with_reducible refine Below.alloc ?_ (by first | (simp; done) | (simp; omega) | omega) _ | with_reducible refine Below.drew ?_ | with_reducible refine below_drewN ?_ _ | with_reducible exact Below.refl _ _ | with_reducible refine Below.trans ?_ (Below.mono kB3_9 (by first | (simp; done) | (simp; omega) | omega))))).more (by first | (simp; done) | (simp; omega) | omega))).mono ?_; rintro x w20 ⟨rfl, hbn⟩
            have hk : KeptC w [(⟨w.heap.size, 0, none⟩, .string s), (⟨w.heap.size, 1, none⟩, .int .i64 e), (⟨w.heap.size, 2, none⟩, .int .i64 m), (⟨w.heap.size, 3, none⟩, .bool al), (⟨w.heap.size, 4, none⟩, .int .i64 k0), (⟨w.heap.size, 5, none⟩, .int .i64 sc)] [] w20 := KeptC.below (by (repeat' (first | refine KeptC.cons ?_ ?_ | refine KeptC.consF ?_ ?_ ?_ | refine KeptC.mk0 ?_)); all_goals (first | with_reducible assumption | (go_simp; done) | (simp; omega) | exact (by repeat (first | with_reducible refine Below.setCell ?_ (by first | (simp; done) | (simp; omega) | omega) _ | with_reducible refine Below.alloc ?_ (by first | (simp; done) | (simp; omega) | omega) _ | with_reducible refine Below.drew ?_ | with_reducible refine below_drewN ?_ _ | with_reducible exact Below.refl _ _ | with_reducible refine Below.trans ?_ (Below.mono kb9 (by first | (simp; done) | (simp; omega) | omega)))))) hbn
            simp only [KeptC, List.forall_mem_cons] at hk; obtain ⟨kb20, ⟨kc20_0, kc20_1, kc20_2, kc20_3, kc20_4, kc20_5, _⟩, _⟩ := hk
            have ks20 : w.heap.size ≤ w20.heap.size := kb20.size
            have kB3_20 : Below w3.heap.size w3 w20 := (by repeat (first | with_reducible refine Below.setCell ?_ (by first | (simp; done) | (simp; omega) | omega) _ | with_reducible refine Below.alloc ?_ (by first | (simp; done) | (simp; omega) | omega) _ | with_reducible refine Below.drew ?_ | with_reducible refine below_drewN ?_ _ | with_reducible exact Below.refl _ _ | with_reducible refine Below.trans ?_ (Below.mono kB3_9 (by first | (simp; done) | (simp; omega) | omega)) | with_reducible refine Below.trans ?_ (Below.mono hbn (by first | (simp; done) | (simp; omega) | omega))))
            have ks3_20 : w3.heap.size ≤ w20.heap.size := kB3_20.size
            have kx20_w : w.heap.size < w20.heap.size := cell_lt kc20_0
            clear hbn kb9 kc9_0 kc9_1 kc9_2 kc9_3 kc9_4 kc9_5 kc9_6 kc9_7 kc9_8 kc9_9 kc9_10 kc9_11 kB3_9 kB4_9 kB5_9 kx9_w kx9_w7
            go_wp2_with (fail)
            refine (awake_any _).mono ?_; rintro x w22 ⟨rfl, hbn⟩
            have kb22 : Below w.heap.size w w22 := (by repeat (first | with_reducible refine Below.setCell ?_ (by first | (simp; done) | (simp; omega) | omega) _ | with_reducible refine Below.alloc ?_ (by first | (simp; done) | (simp; omega) | omega) _ | with_reducible refine Below.drew ?_ | with_reducible refine below_drewN ?_ _ | with_reducible exact Below.refl _ _ | with_reducible refine Below.trans ?_ (Below.mono kb20 (by first | (simp; done) | (simp; omega) | omega)) | with_reducible refine Below.trans ?_ (Below.mono hbn (by first | (simp; done) | (simp; omega) | omega))))
            have ks22 : w.heap.size ≤ w22.heap.size := kb22.size
            clear hbn kb20 kc20_0 kc20_1 kc20_2 kc20_3 kc20_4 kc20_5 kB3_20 kx20_w
            go_wp2
            go_ret
            exact ⟨rfl, kb22⟩
          · obtain ⟨g0, g1, g2, g3, h⟩ := h
            replace g0 := g0.symm; replace g1 := g1.symm; replace g2 := g2.symm; replace g3 := g3.symm
            subst g0 g1 g2 g3
            have hbq : (nk == k0) = false := by simpa using h
            refine (HFX.out _ ((HR3.out.below (by repeat (first | with_reducible refine Below.setCell ?_ (by first | (simp; done) | (simp; omega) | omega) _ | with_reducible refine Below.alloc ?_ (by first | (simp; done) | (simp; omega) | omega) _ | with_reducible refine Below.drew ?_ | with_reducible refine below_drewN ?_ _ | with_reducible exact Below.refl _ _ | with_reducible refine Below.trans ?_ (Below.mono kB3_9 (by first | (simp; done) | (simp; omega) | omega))))).more (by first | (simp; done) | (simp; omega) | omega))).mono ?_; rintro x w20 ⟨rfl, hbn⟩
            have hk : KeptC w [(⟨w.heap.size, 0, none⟩, .string s), (⟨w.heap.size, 1, none⟩, .int .i64 e), (⟨w.heap.size, 2, none⟩, .int .i64 m), (⟨w.heap.size, 3, none⟩, .bool al), (⟨w.heap.size, 4, none⟩, .int .i64 k0), (⟨w.heap.size, 5, none⟩, .int .i64 sc)] [] w20 := KeptC.below (by (repeat' (first | refine KeptC.cons ?_ ?_ | refine KeptC.consF ?_ ?_ ?_ | refine KeptC.mk0 ?_)); all_goals (first | with_reducible assumption | (go_simp; done) | (simp; omega) | exact (by repeat (first | with_reducible refine Below.setCell ?_ (by first | (simp; done) | (simp; omega) | omega) _ | with_reducible refine Below.alloc ?_ (by first | (simp; done) | (simp; omega) | omega) _ | with_reducible refine Below.drew ?_ | with_reducible refine below_drewN ?_ _ | with_reducible exact Below.refl _ _ | with_reducible refine Below.trans ?_ (Below.mono kb9 (by first | (simp; done) | (simp; omega) | omega)))))) hbn
            simp only [KeptC, List.forall_mem_cons] at hk; obtain ⟨kb20, ⟨kc20_0, kc20_1, kc20_2, kc20_3, kc20_4, kc20_5, _⟩, _⟩ := hk
            have ks20 : w.heap.size ≤ w20.heap.size := kb20.size
            have kB3_20 : Below w3.heap.size w3 w20 := (by repeat (first | with_reducible refine Below.setCell ?_ (by first | (simp; done) | (simp; omega) | omega) _ | with_reducible refine Below.alloc ?_ (by first | (simp; done) | (simp; omega) | omega) _ | with_reducible refine Below.drew ?_ | with_reducible refine below_drewN ?_ _ | with_reducible exact Below.refl _ _ | with_reducible refine Below.trans ?_ (Below.mono kB3_9 (by first | (simp; done) | (simp; omega) | omega)) | with_reducible refine Below.trans ?_ (Below.mono hbn (by first | (simp; done) | (simp; omega) | omega))))
            have ks3_20 : w3.heap.size ≤ w20.heap.size := kB3_20.size
            have kx20_w : w.heap.size < w20.heap.size := cell_lt kc20_0
            clear hbn kb9 kc9_0 kc9_1 kc9_2 kc9_3 kc9_4 kc9_5 kc9_6 kc9_7 kc9_8 kc9_9 kc9_10 kc9_11 kB3_9 kB4_9 kB5_9 kx9_w kx9_w7
            go_wp2_with (fail)
            refine (awake_any _).mono ?_; rintro x w22 ⟨rfl, hbn⟩
            have kb22 : Below w.heap.size w w22 := (by repeat (first | with_reducible refine Below.setCell ?_ (by first | (simp; done) | (simp; omega) | omega) _ | with_reducible refine Below.alloc ?_ (by first | (simp; done) | (simp; omega) | omega) _ | with_reducible refine Below.drew ?_ | with_reducible refine below_drewN ?_ _ | with_reducible exact Below.refl _ _ | with_reducible refine Below.trans ?_ (Below.mono kb20 (by first | (simp; done) | (simp; omega) | omega)) | with_reducible refine Below.trans ?_ (Below.mono hbn (by first | (simp; done) | (simp; omega) | omega))))
            have ks22 : w.heap.size ≤ w22.heap.size := kb22.size
            clear hbn kb20 kc20_0 kc20_1 kc20_2 kc20_3 kc20_4 kc20_5 kB3_20 kx20_w
            go_wp2
            go_ret
            exact ⟨rfl, kb22⟩
          · obtain ⟨g0, g1, g2, g3, g4, h⟩ := h
            replace g0 := g0.symm; replace g1 := g1.symm; replace g2 := g2.symm; replace g3 := g3.symm; replace g4 := g4.symm
            subst g0 g1 g2 g3 g4
            have hbq : (nc == sc) = false := by simpa using h
            refine (HFX.out _ ((HR3.out.below (by repeat (first | with_reducible refine Below.setCell ?_ (by first | (simp; done) | (simp; omega) | omega) _ | with_reducible refine Below.alloc ?_ (by first | (simp; done) | (simp; omega) | omega) _ | with_reducible refine Below.drew ?_ | with_reducible refine below_drewN ?_ _ | with_reducible exact Below.refl _ _ | with_reducible refine Below.trans ?_ (Below.mono kB3_9 (by first | (simp; done) | (simp; omega) | omega))))).more (by first | (simp; done) | (simp; omega) | omega))).mono ?_; rintro x w20 ⟨rfl, hbn⟩
            have hk : KeptC w [(⟨w.heap.size, 0, none⟩, .string s), (⟨w.heap.size, 1, none⟩, .int .i64 e), (⟨w.heap.size, 2, none⟩, .int .i64 m), (⟨w.heap.size, 3, none⟩, .bool al), (⟨w.heap.size, 4, none⟩, .int .i64 k0), (⟨w.heap.size, 5, none⟩, .int .i64 sc)] [] w20 := KeptC.below (by (repeat' (first | refine KeptC.cons ?_ ?_ | refine KeptC.consF ?_ ?_ ?_ | refine KeptC.mk0 ?_)); all_goals (first | with_reducible assumption | (go_simp; done) | (simp; omega) | exact (by repeat (first | with_reducible refine Below.setCell ?_ (by first | (simp; done) | (simp; omega) | omega) _ | with_reducible refine Below.alloc ?_ (by first | (simp; done) | (simp; omega) | omega) _ | with_reducible refine Below.drew ?_ | with_reducible refine below_drewN ?_ _ | with_reducible exact Below.refl _ _ | with_reducible refine Below.trans ?_ (Below.mono kb9 (by first | (simp; done) | (simp; omega) | omega)))))) hbn
            simp only [KeptC, List.forall_mem_cons] at hk; obtain ⟨kb20, ⟨kc20_0, kc20_1, kc20_2, kc20_3, kc20_4, kc20_5, _⟩, _⟩ := hk
            have ks20 : w.heap.size ≤ w20.heap.size := kb20.size
            have kB3_20 : Below w3.heap.size w3 w20 := (by repeat (first | with_reducible refine Below.setCell ?_ (by first | (simp; done) | (simp; omega) | omega) _ | with_reducible refine Below.alloc ?_ (by first | (simp; done) | (simp; omega) | omega) _ | with_reducible refine Below.drew ?_ | with_reducible refine below_drewN ?_ _ | with_reducible exact Below.refl _ _ | with_reducible refine Below.trans ?_ (Below.mono kB3_9 (by first | (simp; done) | (simp; omega) | omega)) | with_reducible refine Below.trans ?_ (Below.mono hbn (by first | (simp; done) | (simp; omega) | omega))))
            have ks3_20 : w3.heap.size ≤ w20.heap.size := kB3_20.size
            have kx20_w : w.heap.size < w20.heap.size := cell_lt kc20_0
            clear hbn kb9 kc9_0 kc9_1 kc9_2 kc9_3 kc9_4 kc9_5 kc9_6 kc9_7 kc9_8 kc9_9 kc9_10 kc9_11 kB3_9 kB4_9 kB5_9 kx9_w kx9_w7
            go_wp2_with (fail)
            refine (awake_any _).mono ?_; rintro x w22 ⟨rfl, hbn⟩
            have kb22 : Below w.heap.size w w22 := (by repeat (first | with_reducible refine Below.setCell ?_ (by first | (simp; done) | (simp; omega) | omega) _ | with_reducible refine Below.alloc ?_ (by first | (simp; done) | (simp; omega) | omega) _ | with_reducible refine Below.drew ?_ | with_reducible refine below_drewN ?_ _ | with_reducible exact Below.refl _ _ | with_reducible refine Below.trans ?_ (Below.mono kb20 (by first | (simp; done) | (simp; omega) | omega)) | with_reducible refine Below.trans ?_ (Below.mono hbn (by first | (simp; done) | (simp; omega) | omega))))
            have ks22 : w.heap.size ≤ w22.heap.size := kb22.size
            clear hbn kb20 kc20_0 kc20_1 kc20_2 kc20_3 kc20_4 kc20_5 kB3_20 kx20_w
            go_wp2
            go_ret
            exact ⟨rfl, kb22⟩
theorem dirRises_any (A : Option Addr) (n cp : Nat) (ls : List Ch) (s : ByteArray) (e m : Int) (al : Bool) (k0 sc : Int) (mk : Int) (nm : ByteArray) (k1 sc1 : Int) (w : World) (hsz : s.size ≤ maxLen) (hr : ChsAt w w.heap.size A n ls) (hm : n * 56 ≤ 140737488351232) :
    Calls Try.prog 7 #[.slice A n cp, .agg #[.string s, .int .i64 e, .int .i64 m, .bool al, .int .i64 k0, .int .i64 sc], .int .i64 mk, .string nm, .int .i64 k1, .int .i64 sc1] w fun x w' => x = .returned (.bool true) ∧ Below w.heap.size w w' := by
  cases h1 : fitsB ls with
  | false => exact rises_n0 A n cp ls s e m al k0 sc mk nm k1 sc1 w hsz hr hm (Lib.hid h1)
  | true =>
    cases h2 : chFit s e m k0 sc with
    | false => exact rises_n1 A n cp ls s e m al k0 sc mk nm k1 sc1 w hsz hr hm (Lib.hid h1) (Lib.hid h2)
    | true =>
      by_cases h3 : mk < 0
      · exact rises_n2 A n cp ls s e m al k0 sc mk nm k1 sc1 w hsz hr hm (Lib.hid h1) (Lib.hid h2) h3
      · by_cases h4 : 16 ≤ mk
        · exact rises_n3 A n cp ls s e m al k0 sc mk nm k1 sc1 w hsz hr hm (Lib.hid h1) (Lib.hid h2) h3 h4
        · exact rises_main A n cp ls s e m al k0 sc mk nm k1 sc1 w hsz hr hm (Lib.hid h1) (Lib.hid h2) h3 h4
theorem dirRises_lifted (os : Os) (started : os.Started) (H : Type) (enc : TypeId × Value → H) :
    ReturnsInHanded {} Try.checked os 7 .any (Rows.dirRisesSpec.pre6 enc Try.prog Try.f7 Rows.dirRisesRow.domain false) (Rows.dirRisesSpec.post enc Try.prog Try.f7 false true false false) := by
  refine returnsInHanded_of_change_sized (C := Try.checked) own started (by kernel_rfl) Try.func7
    (ChangeSpec.witness6 (enc := enc) (C := Try.checked) false ⟨#[], #[.slice none 0 0, .agg #[.string ⟨#[]⟩, .int .i64 0, .int .i64 0, .bool false, .int .i64 0, .int .i64 0], .int .i64 0, .string ⟨#[]⟩, .int .i64 0, .int .i64 0], []⟩ 8 (by kernel_rfl) (by kernel_rfl) (by kernel_rfl) (by kernel_rfl)) ?_
  intro W base args ds gs before hval hW _ hsz _
  have hW' := hW
  obtain ⟨p, q, hA, hV, rfl, hfz, hnd⟩ := hW
  obtain ⟨rfl, rfl⟩ := trodVars_none hV
  rw [Try.params7] at hA hval
  obtain ⟨v0, vs0, d0, ds0, p0, q0, hargs, rfl, rfl, h0, r0⟩ := trodAll_cons hA
  obtain ⟨v1, vs1, d1, ds1, p1, q1, rfl, rfl, rfl, h1, r1⟩ := trodAll_cons r0
  obtain ⟨v2, vs2, d2, ds2, p2, q2, rfl, rfl, rfl, h2, r2⟩ := trodAll_cons r1
  obtain ⟨v3, vs3, d3, ds3, p3, q3, rfl, rfl, rfl, h3, r3⟩ := trodAll_cons r2
  obtain ⟨v4, vs4, d4, ds4, p4, q4, rfl, rfl, rfl, h4, r4⟩ := trodAll_cons r3
  obtain ⟨v5, vs5, d5, ds5, p5, q5, rfl, rfl, rfl, h5, r5⟩ := trodAll_cons r4
  obtain ⟨rfl, rfl, rfl⟩ := trodAll_nil r5
  obtain rfl : args = #[v0, v1, v2, v3, v4, v5] := by cases args; simp_all
  obtain ⟨A, n, cp, rs, rfl, _, hr, hds⟩ := open_chans (hval 0 _ v0 rfl rfl) h0
  obtain ⟨s, e, m, al, k, c, rfl, ws⟩ := open_chan (hval 1 _ v1 rfl rfl) h1
  obtain ⟨mk, rfl, _, _, _⟩ := open_int Try.underlying3 (hval 2 _ v2 rfl rfl) h2
  obtain ⟨nm, rfl, _, _, wx⟩ := open_string Try.underlying9 (hval 3 _ v3 rfl rfl) h3
  obtain ⟨k1, rfl, _, _, _⟩ := open_int Try.underlying3 (hval 4 _ v4 rfl rfl) h4
  obtain ⟨sc1, rfl, _, _, _⟩ := open_int Try.underlying2 (hval 5 _ v5 rfl rfl) h5
  refine (dirRises_any A n cp rs s e m al k c mk nm k1 sc1 W ws hr (small_chans hsz (j := 0) rfl rfl hds)).mono fun e W' ⟨he, hg⟩ => ?_
  subst he
  exact ⟨_, rfl, law_post laidOut rfl (by kernel_rfl) rfl Try.underlying4 rfl hW' hg⟩

theorem dirRises_holds : Rows.DirRisesSaid :=
  OpenClaim.holds_of_wide 7 Try.f7 rfl rfl rfl rfl rfl rfl rfl ⟨rfl, rfl, rfl, rfl, rfl⟩ rfl rfl rfl rfl rfl (by kernel_rfl) Try.func7 (by kernel_rfl)
    (of_decide_eq_true (by kernel_rfl)) (by unfold Func.isWrapper; first | (rw [if_pos (by decide +kernel)]; kernel_rfl) | (rw [if_neg (by decide +kernel)]; exact ⟨rfl, rfl⟩))
    (fun os started H enc _ => dirRises_lifted os started H enc)

end Go.Proofs.Ytblaccmphofbcaa
