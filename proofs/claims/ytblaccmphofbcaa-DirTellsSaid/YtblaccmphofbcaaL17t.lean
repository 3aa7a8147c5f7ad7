/- Whatever the list, the record and the name: eddylaw17's DirTells returns true. No conditions. -/
import Derived.Test.YtblaccmphofbcaaDirX
import Derived.Test.YtblaccmphofbcaaDirR
import Derived.Test.YtblaccmphofbcaaDirS
import Derived.Test.YtblaccmphofbcaaDirH
import Derived.Test.YtblaccmphofbcaaDirO
import Derived.ChangeMaps5
namespace Go.Proofs.Ytblaccmphofbcaa
open Go.ChangeShapes Go.WideShapes Go.ChangeAt Go.RowKit Go.Joins Go.ChangeMaps
set_option linter.unusedVariables false
theorem fit_hm {ls : List Ch} (h : fitsB ls = true) : ls.length * 56 ≤ 140737488351232 := by have := (fit_of_fits h).1; omega
theorem row_name {W : World} {ad : Addr} {n i : Nat} {R : Nat → Ch} {s : ByteArray} (h : RowC W ad n R) (hi : i < n) : RowC (W.setCell (ad.add (i * 6)) (.string s)) ad n (fun t => if t = i then { R t with name := s } else R t) := by
  intro t ht
  obtain ⟨hc, hu⟩ := h t ht
  refine ⟨?_, by unfold unf6; simp only [World.frozen?_setCell]; exact hu⟩
  have far : ∀ j b s', (ad.add (t * 6)).off + (j + 1) ≠ (ad.add (i * 6)).off → (W.setCell (ad.add (i * 6)) (.string s)).cell? ⟨b, (ad.add (t * 6)).off + (j + 1), s'⟩ = W.cell? ⟨b, (ad.add (t * 6)).off + (j + 1), s'⟩ := fun j b s' hne => cfar fun e => hne (congrArg Addr.off e).symm
  have hoff : ∀ j, j < 5 → (ad.add (t * 6)).off + (j + 1) ≠ (ad.add (i * 6)).off := fun j hj => by rw [add_off, add_off]; omega
  have r1 := (far 0 (ad.add (t * 6)).block none (hoff 0 (by omega))).trans hc.2.1
  have r2 := (far 1 (ad.add (t * 6)).block none (hoff 1 (by omega))).trans hc.2.2.1
  have r3 := (far 2 (ad.add (t * 6)).block none (hoff 2 (by omega))).trans hc.2.2.2.1
  have r4 := (far 3 (ad.add (t * 6)).block none (hoff 3 (by omega))).trans hc.2.2.2.2.1
  have r5 := (far 4 (ad.add (t * 6)).block none (hoff 4 (by omega))).trans hc.2.2.2.2.2
  by_cases e : t = i
  · subst e
    simp only [if_true]
    exact ⟨csame hc.1, r1, r2, r3, r4, r5⟩
  · simp only [if_neg e]
    exact ⟨(cfar fun e2 => e (by have := congrArg Addr.off e2; rw [add_off, add_off] at this; omega)).trans hc.1, r1, r2, r3, r4, r5⟩
/-- A row that may be written, or nothing. -/
def RowQ (w : World) (base : Nat) (A : Option Addr) (n : Nat) : Prop := (0 < n → ∃ ad, A = some ad) ∧ ∀ ad, A = some ad → ad.spot = none ∧ base ≤ ad.block ∧ ad.block < w.heap.size ∧ ∃ R, RowC w ad n R
theorem OwnC.rowq {w : World} {base : Nat} {A : Option Addr} {c : Nat} {rs : List Ch} (h : OwnC w base (.slice A rs.length c) rs) (hs : ∀ x ∈ rs, x.name.size ≤ maxLen) : RowQ w base A rs.length := by
  rcases Nat.eq_zero_or_pos rs.length with h0 | h0
  · refine ⟨fun h => by omega, fun ad e => ?_⟩
    subst e
    rcases h.2 with ⟨h1, _⟩ | ⟨g, cap, cur, h1, hg, hcur, _⟩
    · cases h1
    · obtain ⟨h2, _, _⟩ := Value.slice.inj h1
      obtain rfl := Option.some.inj h2
      exact ⟨rfl, hg, (Array.getElem?_eq_some_iff.1 hcur).1, fun _ => Ch0, fun t ht => by omega⟩
  · obtain ⟨ad, c', e, h1, h2, h3, _, h5⟩ := h.row hs h0
    obtain ⟨rfl, _, _⟩ := Value.slice.inj e
    exact ⟨fun _ => ⟨ad, rfl⟩, fun ad' e' => by obtain rfl := Option.some.inj e'; exact ⟨h1, h2, h3, _, h5⟩⟩
set_option maxRecDepth 100000 in
set_option maxHeartbeats 16000000 in
theorem tells_n0 (A : Option Addr) (n cp : Nat) (ls : List Ch) (s : ByteArray) (e m : Int) (al : Bool) (k0 sc : Int) (nm : ByteArray) (w : World) (hsz : s.size ≤ maxLen) (hr : ChsAt w w.heap.size A n ls) (hm : n * 56 ≤ 140737488351232) (hg1 : Hid (fitsB ls = false)) :
    Calls Try.prog 8 #[.slice A n cp, .agg #[.string s, .int .i64 e, .int .i64 m, .bool al, .int .i64 k0, .int .i64 sc], .string nm] w fun x w' => x = .returned (.bool true) ∧ Below w.heap.size w w' := by
  have HR := Lib.hid hr
  clear hr
  have hF := fun W (hb : Below w.heap.size w W) => rfits_any A n cp ls W ((HR.out.below hb).more hb.size) hm
  have hC := fun W (hb : Below w.heap.size w W) => rfit_any s e m al k0 sc hsz W
  simp only [hg1.out] at hF
  go_enter Try.func8, Try.ntmps8
  go_wp2_with (fail)
  refine (hF _ (by repeat (first | with_reducible refine Below.setCell ?_ (by first | (simp; done) | (simp; omega) | omega) _ | with_reducible refine Below.alloc ?_ (by first | (simp; done) | (simp; omega) | omega) _ | with_reducible refine Below.drew ?_ | with_reducible refine below_drewN ?_ _ | with_reducible exact Below.refl _ _))).mono ?_; rintro x w1 ⟨rfl, hbn⟩
  have hk : KeptC w [(⟨w.heap.size, 0, none⟩, .string s), (⟨w.heap.size, 1, none⟩, .int .i64 e), (⟨w.heap.size, 2, none⟩, .int .i64 m), (⟨w.heap.size, 3, none⟩, .bool al), (⟨w.heap.size, 4, none⟩, .int .i64 k0), (⟨w.heap.size, 5, none⟩, .int .i64 sc)] [] w1 := KeptC.below (by (repeat' (first | refine KeptC.cons ?_ ?_ | refine KeptC.consF ?_ ?_ ?_ | refine KeptC.mk0 ?_)); all_goals (first | with_reducible assumption | (go_simp; done) | (simp; omega) | exact (by repeat (first | with_reducible refine Below.setCell ?_ (by first | (simp; done) | (simp; omega) | omega) _ | with_reducible refine Below.alloc ?_ (by first | (simp; done) | (simp; omega) | omega) _ | with_reducible refine Below.drew ?_ | with_reducible refine below_drewN ?_ _ | with_reducible exact Below.refl _ _)))) hbn
  simp only [KeptC, List.forall_mem_cons] at hk; obtain ⟨kb1, ⟨kc1_0, kc1_1, kc1_2, kc1_3, kc1_4, kc1_5, _⟩, _⟩ := hk
  have ks1 : w.heap.size ≤ w1.heap.size := kb1.size
  have kx1_w : w.heap.size < w1.heap.size := cell_lt kc1_0
  clear hbn
  go_wp2_with (fail)
  refine (awake_any _).mono ?_; rintro x w2 ⟨rfl, hbn⟩
  have hk : KeptC w [(⟨w.heap.size, 0, none⟩, .string s), (⟨w.heap.size, 1, none⟩, .int .i64 e), (⟨w.heap.size, 2, none⟩, .int .i64 m), (⟨w.heap.size, 3, none⟩, .bool al), (⟨w.heap.size, 4, none⟩, .int .i64 k0), (⟨w.heap.size, 5, none⟩, .int .i64 sc)] [] w2 := KeptC.below (by (repeat' (first | refine KeptC.cons ?_ ?_ | refine KeptC.consF ?_ ?_ ?_ | refine KeptC.mk0 ?_)); all_goals (first | with_reducible assumption | (go_simp; done) | (simp; omega) | exact (by repeat (first | with_reducible refine Below.setCell ?_ (by first | (simp; done) | (simp; omega) | omega) _ | with_reducible refine Below.alloc ?_ (by first | (simp; done) | (simp; omega) | omega) _ | with_reducible refine Below.drew ?_ | with_reducible refine below_drewN ?_ _ | with_reducible exact Below.refl _ _ | with_reducible refine Below.trans ?_ (Below.mono kb1 (by first | (simp; done) | (simp; omega) | omega)))))) hbn
  simp only [KeptC, List.forall_mem_cons] at hk; obtain ⟨kb2, ⟨kc2_0, kc2_1, kc2_2, kc2_3, kc2_4, kc2_5, _⟩, _⟩ := hk
  have ks2 : w.heap.size ≤ w2.heap.size := kb2.size
  have kx2_w : w.heap.size < w2.heap.size := cell_lt kc2_0
  clear hbn kb1 kc1_0 kc1_1 kc1_2 kc1_3 kc1_4 kc1_5 kx1_w
  go_wp2
  go_ret
  exact ⟨rfl, kb2⟩
set_option maxRecDepth 100000 in
set_option maxHeartbeats 16000000 in
theorem tells_n1 (A : Option Addr) (n cp : Nat) (ls : List Ch) (s : ByteArray) (e m : Int) (al : Bool) (k0 sc : Int) (nm : ByteArray) (w : World) (hsz : s.size ≤ maxLen) (hr : ChsAt w w.heap.size A n ls) (hm : n * 56 ≤ 140737488351232) (hg1 : Hid (fitsB ls = true)) (hg2 : Hid (chFit s e m k0 sc = false)) :
    Calls Try.prog 8 #[.slice A n cp, .agg #[.string s, .int .i64 e, .int .i64 m, .bool al, .int .i64 k0, .int .i64 sc], .string nm] w fun x w' => x = .returned (.bool true) ∧ Below w.heap.size w w' := by
  have HR := Lib.hid hr
  clear hr
  have hF := fun W (hb : Below w.heap.size w W) => rfits_any A n cp ls W ((HR.out.below hb).more hb.size) hm
  have hC := fun W (hb : Below w.heap.size w W) => rfit_any s e m al k0 sc hsz W
  simp only [hg1.out] at hF
  simp only [hg2.out] at hC
  go_enter Try.func8, Try.ntmps8
  go_wp2_with (fail)
  refine (hF _ (by repeat (first | with_reducible refine Below.setCell ?_ (by first | (simp; done) | (simp; omega) | omega) _ | with_reducible refine Below.alloc ?_ (by first | (simp; done) | (simp; omega) | omega) _ | with_reducible refine Below.drew ?_ | with_reducible refine below_drewN ?_ _ | with_reducible exact Below.refl _ _))).mono ?_; rintro x w1 ⟨rfl, hbn⟩
  have hk : KeptC w [(⟨w.heap.size, 0, none⟩, .string s), (⟨w.heap.size, 1, none⟩, .int .i64 e), (⟨w.heap.size, 2, none⟩, .int .i64 m), (⟨w.heap.size, 3, none⟩, .bool al), (⟨w.heap.size, 4, none⟩, .int .i64 k0), (⟨w.heap.size, 5, none⟩, .int .i64 sc)] [] w1 := KeptC.below (by (repeat' (first | refine KeptC.cons ?_ ?_ | refine KeptC.consF ?_ ?_ ?_ | refine KeptC.mk0 ?_)); all_goals (first | with_reducible assumption | (go_simp; done) | (simp; omega) | exact (by repeat (first | with_reducible refine Below.setCell ?_ (by first | (simp; done) | (simp; omega) | omega) _ | with_reducible refine Below.alloc ?_ (by first | (simp; done) | (simp; omega) | omega) _ | with_reducible refine Below.drew ?_ | with_reducible refine below_drewN ?_ _ | with_reducible exact Below.refl _ _)))) hbn
  simp only [KeptC, List.forall_mem_cons] at hk; obtain ⟨kb1, ⟨kc1_0, kc1_1, kc1_2, kc1_3, kc1_4, kc1_5, _⟩, _⟩ := hk
  have ks1 : w.heap.size ≤ w1.heap.size := kb1.size
  have kx1_w : w.heap.size < w1.heap.size := cell_lt kc1_0
  clear hbn
  go_wp2_with (fail)
  refine (hC _ (by repeat (first | with_reducible refine Below.setCell ?_ (by first | (simp; done) | (simp; omega) | omega) _ | with_reducible refine Below.alloc ?_ (by first | (simp; done) | (simp; omega) | omega) _ | with_reducible refine Below.drew ?_ | with_reducible refine below_drewN ?_ _ | with_reducible exact Below.refl _ _ | with_reducible refine Below.trans ?_ (Below.mono kb1 (by first | (simp; done) | (simp; omega) | omega))))).mono ?_; rintro x w2 ⟨rfl, hbn⟩
  have hk : KeptC w [(⟨w.heap.size, 0, none⟩, .string s), (⟨w.heap.size, 1, none⟩, .int .i64 e), (⟨w.heap.size, 2, none⟩, .int .i64 m), (⟨w.heap.size, 3, none⟩, .bool al), (⟨w.heap.size, 4, none⟩, .int .i64 k0), (⟨w.heap.size, 5, none⟩, .int .i64 sc)] [] w2 := KeptC.below (by (repeat' (first | refine KeptC.cons ?_ ?_ | refine KeptC.consF ?_ ?_ ?_ | refine KeptC.mk0 ?_)); all_goals (first | with_reducible assumption | (go_simp; done) | (simp; omega) | exact (by repeat (first | with_reducible refine Below.setCell ?_ (by first | (simp; done) | (simp; omega) | omega) _ | with_reducible refine Below.alloc ?_ (by first | (simp; done) | (simp; omega) | omega) _ | with_reducible refine Below.drew ?_ | with_reducible refine below_drewN ?_ _ | with_reducible exact Below.refl _ _ | with_reducible refine Below.trans ?_ (Below.mono kb1 (by first | (simp; done) | (simp; omega) | omega)))))) hbn
  simp only [KeptC, List.forall_mem_cons] at hk; obtain ⟨kb2, ⟨kc2_0, kc2_1, kc2_2, kc2_3, kc2_4, kc2_5, _⟩, _⟩ := hk
  have ks2 : w.heap.size ≤ w2.heap.size := kb2.size
  have kx2_w : w.heap.size < w2.heap.size := cell_lt kc2_0
  clear hbn kb1 kc1_0 kc1_1 kc1_2 kc1_3 kc1_4 kc1_5 kx1_w
  go_wp2_with (fail)
  refine (awake_any _).mono ?_; rintro x w3 ⟨rfl, hbn⟩
  have hk : KeptC w [(⟨w.heap.size, 0, none⟩, .string s), (⟨w.heap.size, 1, none⟩, .int .i64 e), (⟨w.heap.size, 2, none⟩, .int .i64 m), (⟨w.heap.size, 3, none⟩, .bool al), (⟨w.heap.size, 4, none⟩, .int .i64 k0), (⟨w.heap.size, 5, none⟩, .int .i64 sc)] [] w3 := KeptC.below (by (repeat' (first | refine KeptC.cons ?_ ?_ | refine KeptC.consF ?_ ?_ ?_ | refine KeptC.mk0 ?_)); all_goals (first | with_reducible assumption | (go_simp; done) | (simp; omega) | exact (by repeat (first | with_reducible refine Below.setCell ?_ (by first | (simp; done) | (simp; omega) | omega) _ | with_reducible refine Below.alloc ?_ (by first | (simp; done) | (simp; omega) | omega) _ | with_reducible refine Below.drew ?_ | with_reducible refine below_drewN ?_ _ | with_reducible exact Below.refl _ _ | with_reducible refine Below.trans ?_ (Below.mono kb2 (by first | (simp; done) | (simp; omega) | omega)))))) hbn
  simp only [KeptC, List.forall_mem_cons] at hk; obtain ⟨kb3, ⟨kc3_0, kc3_1, kc3_2, kc3_3, kc3_4, kc3_5, _⟩, _⟩ := hk
  have ks3 : w.heap.size ≤ w3.heap.size := kb3.size
  have kx3_w : w.heap.size < w3.heap.size := cell_lt kc3_0
  clear hbn kb2 kc2_0 kc2_1 kc2_2 kc2_3 kc2_4 kc2_5 kx2_w
  go_wp2
  go_ret
  exact ⟨rfl, kb3⟩
set_option maxRecDepth 100000 in
set_option maxHeartbeats 16000000 in
theorem tells_main (A : Option Addr) (n cp : Nat) (ls : List Ch) (s : ByteArray) (e m : Int) (al : Bool) (k0 sc : Int) (nm : ByteArray) (w : World) (hsz : s.size ≤ maxLen) (hr : ChsAt w w.heap.size A n ls) (hm : n * 56 ≤ 140737488351232) (hg1 : Hid (fitsB ls = true)) (hg2 : Hid (chFit s e m k0 sc = true)) :
    Calls Try.prog 8 #[.slice A n cp, .agg #[.string s, .int .i64 e, .int .i64 m, .bool al, .int .i64 k0, .int .i64 sc], .string nm] w fun x w' => x = .returned (.bool true) ∧ Below w.heap.size w w' := by
  have HR := Lib.hid hr
  clear hr
  have hF := fun W (hb : Below w.heap.size w W) => rfits_any A n cp ls W ((HR.out.below hb).more hb.size) hm
  have hC := fun W (hb : Below w.heap.size w W) => rfit_any s e m al k0 sc hsz W
  simp only [hg1.out] at hF
  simp only [hg2.out] at hC
  obtain rfl := HR.out.1
  have hLf : fitsB (learnR ls ⟨s, e, m, al, k0, sc⟩).1 = true := learnR_fits _ hg1.out hg2.out
  have hq := HR.out.2.1
  have HQ := Lib.hid hq
  clear hq
  have hal : ∀ x ∈ aliveF ls, x.name.size ≤ maxLen := fun x hx => HQ.out x (List.mem_filter.1 hx).1
  have hall : (aliveF ls).length ≤ 8 := Nat.le_trans (List.length_filter_le _ _) (fit_of_fits hg1.out).1
  have HAL := Lib.hid hal
  clear hal
  have c1 := fun W (hb : Below w.heap.size w W) => lcopied_any A _ cp ls W ((HR.out.below hb).more hb.size) hm
  have c2 := fun W (B : Option Addr) (d : Nat) (h : ChsAt W W.heap.size B ls.length ls) => learn_any B _ d ls s e m al k0 sc W h hm
  have c3 := fun W (hb : Below w.heap.size w W) => rlearn_any A _ cp ls s e m al k0 sc W ((HR.out.below hb).more hb.size) hm
  have c4 := fun W (B : Option Addr) (d : Nat) (h : ChsAt W W.heap.size B ls.length ls) => find_any B _ d ls nm W h hm
  have c5 := fun W (hb : Below w.heap.size w W) => rfind_any A _ cp ls nm W ((HR.out.below hb).more hb.size) hm
  have c6 := fun W (B : Option Addr) (d : Nat) (h : ChsAt W W.heap.size B ls.length ls) => alive_any B _ d ls W h hm
  have c7 := fun W (hb : Below w.heap.size w W) => ralive_any A _ cp ls W ((HR.out.below hb).more hb.size) hm
  simp only [learnT_eq _ (srt_of_fits hg1.out)] at c2
  have hal8 := hall
  generalize learnR ls ⟨s, e, m, al, k0, sc⟩ = LW at *
  obtain ⟨LL, wh⟩ := LW
  simp only [] at c2 c3 hLf
  generalize findL ls nm = fo at *
  generalize fo.isSome = fb at *
  generalize fo.getD Ch0 = fr at *
  obtain ⟨fs, fe, fm, fa, fk, fc⟩ := fr
  simp only [] at c4 c5
  generalize aliveF ls = LA at *
  have C1 := Lib.hid c1; have C2 := Lib.hid c2; have C3 := Lib.hid c3; have C4 := Lib.hid c4; have C5 := Lib.hid c5; have C6 := Lib.hid c6; have C7 := Lib.hid c7
  have HLF := Lib.hid hLf
  clear c1 c2 c3 c4 c5 c6 c7 hLf hall
  go_enter Try.func8, Try.ntmps8
  go_wp2_with (fail)
  refine (hF _ (by repeat (first | with_reducible refine Below.setCell ?_ (by first | (simp; done) | (simp; omega) | omega) _ | with_reducible refine Below.alloc ?_ (by first | (simp; done) | (simp; omega) | omega) _ | with_reducible refine Below.drew ?_ | with_reducible refine below_drewN ?_ _ | with_reducible exact Below.refl _ _))).mono ?_; rintro x w1 ⟨rfl, hbn⟩
  have hk : KeptC w [(⟨w.heap.size, 0, none⟩, .string s), (⟨w.heap.size, 1, none⟩, .int .i64 e), (⟨w.heap.size, 2, none⟩, .int .i64 m), (⟨w.heap.size, 3, none⟩, .bool al), (⟨w.heap.size, 4, none⟩, .int .i64 k0), (⟨w.heap.size, 5, none⟩, .int .i64 sc)] [] w1 := KeptC.below (by (repeat' (first | refine KeptC.cons ?_ ?_ | refine KeptC.consF ?_ ?_ ?_ | refine KeptC.mk0 ?_)); all_goals (first | with_reducible assumption | (go_simp; done) | (simp; omega) | exact (by repeat (first | with_reducible refine Below.setCell ?_ (by first | (simp; done) | (simp; omega) | omega) _ | with_reducible refine Below.alloc ?_ (by first | (simp; done) | (simp; omega) | omega) _ | with_reducible refine Below.drew ?_ | with_reducible refine below_drewN ?_ _ | with_reducible exact Below.refl _ _)))) hbn
  simp only [KeptC, List.forall_mem_cons] at hk; obtain ⟨kb1, ⟨kc1_0, kc1_1, kc1_2, kc1_3, kc1_4, kc1_5, _⟩, _⟩ := hk
  have ks1 : w.heap.size ≤ w1.heap.size := kb1.size
  have kx1_w : w.heap.size < w1.heap.size := cell_lt kc1_0
  clear hbn
  go_wp2_with (fail)
  refine (hC _ (by repeat (first | with_reducible refine Below.setCell ?_ (by first | (simp; done) | (simp; omega) | omega) _ | with_reducible refine Below.alloc ?_ (by first | (simp; done) | (simp; omega) | omega) _ | with_reducible refine Below.drew ?_ | with_reducible refine below_drewN ?_ _ | with_reducible exact Below.refl _ _ | with_reducible refine Below.trans ?_ (Below.mono kb1 (by first | (simp; done) | (simp; omega) | omega))))).mono ?_; rintro x w2 ⟨rfl, hbn⟩
  have hk : KeptC w [(⟨w.heap.size, 0, none⟩, .string s), (⟨w.heap.size, 1, none⟩, .int .i64 e), (⟨w.heap.size, 2, none⟩, .int .i64 m), (⟨w.heap.size, 3, none⟩, .bool al), (⟨w.heap.size, 4, none⟩, .int .i64 k0), (⟨w.heap.size, 5, none⟩, .int .i64 sc)] [] w2 := KeptC.below (by (repeat' (first | refine KeptC.cons ?_ ?_ | refine KeptC.consF ?_ ?_ ?_ | refine KeptC.mk0 ?_)); all_goals (first | with_reducible assumption | (go_simp; done) | (simp; omega) | exact (by repeat (first | with_reducible refine Below.setCell ?_ (by first | (simp; done) | (simp; omega) | omega) _ | with_reducible refine Below.alloc ?_ (by first | (simp; done) | (simp; omega) | omega) _ | with_reducible refine Below.drew ?_ | with_reducible refine below_drewN ?_ _ | with_reducible exact Below.refl _ _ | with_reducible refine Below.trans ?_ (Below.mono kb1 (by first | (simp; done) | (simp; omega) | omega)))))) hbn
  simp only [KeptC, List.forall_mem_cons] at hk; obtain ⟨kb2, ⟨kc2_0, kc2_1, kc2_2, kc2_3, kc2_4, kc2_5, _⟩, _⟩ := hk
  have ks2 : w.heap.size ≤ w2.heap.size := kb2.size
  have kx2_w : w.heap.size < w2.heap.size := cell_lt kc2_0
  clear hbn kb1 kc1_0 kc1_1 kc1_2 kc1_3 kc1_4 kc1_5 kx1_w
  clear hF hC
  go_wp2_with (fail)
  refine (C1.out _ (by repeat (first | with_reducible refine Below.setCell ?_ (by first | (simp; done) | (simp; omega) | omega) _ | with_reducible refine Below.alloc ?_ (by first | (simp; done) | (simp; omega) | omega) _ | with_reducible refine Below.drew ?_ | with_reducible refine below_drewN ?_ _ | with_reducible exact Below.refl _ _ | with_reducible refine Below.trans ?_ (Below.mono kb2 (by first | (simp; done) | (simp; omega) | omega))))).mono ?_; rintro x w3 ⟨lv, rfl, hown, hbn⟩
  have hk : KeptC w [(⟨w.heap.size, 0, none⟩, .string s), (⟨w.heap.size, 1, none⟩, .int .i64 e), (⟨w.heap.size, 2, none⟩, .int .i64 m), (⟨w.heap.size, 3, none⟩, .bool al), (⟨w.heap.size, 4, none⟩, .int .i64 k0), (⟨w.heap.size, 5, none⟩, .int .i64 sc)] [] w3 := KeptC.below (by (repeat' (first | refine KeptC.cons ?_ ?_ | refine KeptC.consF ?_ ?_ ?_ | refine KeptC.mk0 ?_)); all_goals (first | with_reducible assumption | (go_simp; done) | (simp; omega) | exact (by repeat (first | with_reducible refine Below.setCell ?_ (by first | (simp; done) | (simp; omega) | omega) _ | with_reducible refine Below.alloc ?_ (by first | (simp; done) | (simp; omega) | omega) _ | with_reducible refine Below.drew ?_ | with_reducible refine below_drewN ?_ _ | with_reducible exact Below.refl _ _ | with_reducible refine Below.trans ?_ (Below.mono kb2 (by first | (simp; done) | (simp; omega) | omega)))))) hbn
  simp only [KeptC, List.forall_mem_cons] at hk; obtain ⟨kb3, ⟨kc3_0, kc3_1, kc3_2, kc3_3, kc3_4, kc3_5, _⟩, _⟩ := hk
  have ks3 : w.heap.size ≤ w3.heap.size := kb3.size
  have kx3_w : w.heap.size < w3.heap.size := cell_lt kc3_0
  clear hbn kb2 kc2_0 kc2_1 kc2_2 kc2_3 kc2_4 kc2_5 kx2_w
  obtain ⟨B3, d3, rfl, hr3⟩ := hown.fit hg1.out
  have HR3 := Lib.hid hr3
  clear hr3 hown
  have kB3_3 : Below w3.heap.size w3 w3 := Below.refl _ _
  go_wp2_with (fail)
  refine (C2.out _ B3 d3 ((HR3.out.below (by repeat (first | with_reducible refine Below.setCell ?_ (by first | (simp; done) | (simp; omega) | omega) _ | with_reducible refine Below.alloc ?_ (by first | (simp; done) | (simp; omega) | omega) _ | with_reducible refine Below.drew ?_ | with_reducible refine below_drewN ?_ _ | with_reducible exact Below.refl _ _ | with_reducible refine Below.trans ?_ (Below.mono kB3_3 (by first | (simp; done) | (simp; omega) | omega))))).more (by first | (simp; done) | (simp; omega) | omega))).mono ?_; rintro x w4 ⟨lv, rfl, hown, hbn⟩
  have hk : KeptC w [(⟨w.heap.size, 0, none⟩, .string s), (⟨w.heap.size, 1, none⟩, .int .i64 e), (⟨w.heap.size, 2, none⟩, .int .i64 m), (⟨w.heap.size, 3, none⟩, .bool al), (⟨w.heap.size, 4, none⟩, .int .i64 k0), (⟨w.heap.size, 5, none⟩, .int .i64 sc)] [] w4 := KeptC.below (by (repeat' (first | refine KeptC.cons ?_ ?_ | refine KeptC.consF ?_ ?_ ?_ | refine KeptC.mk0 ?_)); all_goals (first | with_reducible assumption | (go_simp; done) | (simp; omega) | exact (by repeat (first | with_reducible refine Below.setCell ?_ (by first | (simp; done) | (simp; omega) | omega) _ | with_reducible refine Below.alloc ?_ (by first | (simp; done) | (simp; omega) | omega) _ | with_reducible refine Below.drew ?_ | with_reducible refine below_drewN ?_ _ | with_reducible exact Below.refl _ _ | with_reducible refine Below.trans ?_ (Below.mono kb3 (by first | (simp; done) | (simp; omega) | omega)))))) hbn
  simp only [KeptC, List.forall_mem_cons] at hk; obtain ⟨kb4, ⟨kc4_0, kc4_1, kc4_2, kc4_3, kc4_4, kc4_5, _⟩, _⟩ := hk
  have ks4 : w.heap.size ≤ w4.heap.size := kb4.size
  have kB3_4 : Below w3.heap.size w3 w4 := (by repeat (first | with_reducible refine Below.setCell ?_ (by first | (simp; done) | (simp; omega) | omega) _ | with_reducible refine Below.alloc ?_ (by first | (simp; done) | (simp; omega) | omega) _ | with_reducible refine Below.drew ?_ | with_reducible refine below_drewN ?_ _ | with_reducible exact Below.refl _ _ | with_reducible refine Below.trans ?_ (Below.mono kB3_3 (by first | (simp; done) | (simp; omega) | omega)) | with_reducible refine Below.trans ?_ (Below.mono hbn (by first | (simp; done) | (simp; omega) | omega))))
  have ks3_4 : w3.heap.size ≤ w4.heap.size := kB3_4.size
  have kx4_w : w.heap.size < w4.heap.size := cell_lt kc4_0
  clear hbn kb3 kc3_0 kc3_1 kc3_2 kc3_3 kc3_4 kc3_5 kx3_w kB3_3
  obtain ⟨B4, d4, rfl, hr4⟩ := hown.fit HLF.out
  have HR4 := Lib.hid hr4
  have HOW := Lib.hid (hown.rowq (fit_len HLF.out))
  clear hr4 hown
  have kB4_4 : Below w4.heap.size w4 w4 := Below.refl _ _
  go_wp2_with (fail)
  refine (C3.out _ (by repeat (first | with_reducible refine Below.setCell ?_ (by first | (simp; done) | (simp; omega) | omega) _ | with_reducible refine Below.alloc ?_ (by first | (simp; done) | (simp; omega) | omega) _ | with_reducible refine Below.drew ?_ | with_reducible refine below_drewN ?_ _ | with_reducible exact Below.refl _ _ | with_reducible refine Below.trans ?_ (Below.mono kb4 (by first | (simp; done) | (simp; omega) | omega))))).mono ?_; rintro x w5 ⟨lv, rfl, hown, hbn⟩
  have hk : KeptC w [(⟨w.heap.size, 0, none⟩, .string s), (⟨w.heap.size, 1, none⟩, .int .i64 e), (⟨w.heap.size, 2, none⟩, .int .i64 m), (⟨w.heap.size, 3, none⟩, .bool al), (⟨w.heap.size, 4, none⟩, .int .i64 k0), (⟨w.heap.size, 5, none⟩, .int .i64 sc)] [] w5 := KeptC.below (by (repeat' (first | refine KeptC.cons ?_ ?_ | refine KeptC.consF ?_ ?_ ?_ | refine KeptC.mk0 ?_)); all_goals (first | with_reducible assumption | (go_simp; done) | (simp; omega) | exact (by repeat (first | with_reducible refine Below.setCell ?_ (by first | (simp; done) | (simp; omega) | omega) _ | with_reducible refine Below.alloc ?_ (by first | (simp; done) | (simp; omega) | omega) _ | with_reducible refine Below.drew ?_ | with_reducible refine below_drewN ?_ _ | with_reducible exact Below.refl _ _ | with_reducible refine Below.trans ?_ (Below.mono kb4 (by first | (simp; done) | (simp; omega) | omega)))))) hbn
  simp only [KeptC, List.forall_mem_cons] at hk; obtain ⟨kb5, ⟨kc5_0, kc5_1, kc5_2, kc5_3, kc5_4, kc5_5, _⟩, _⟩ := hk
  have ks5 : w.heap.size ≤ w5.heap.size := kb5.size
  have kB3_5 : Below w3.heap.size w3 w5 := (by repeat (first | with_reducible refine Below.setCell ?_ (by first | (simp; done) | (simp; omega) | omega) _ | with_reducible refine Below.alloc ?_ (by first | (simp; done) | (simp; omega) | omega) _ | with_reducible refine Below.drew ?_ | with_reducible refine below_drewN ?_ _ | with_reducible exact Below.refl _ _ | with_reducible refine Below.trans ?_ (Below.mono kB3_4 (by first | (simp; done) | (simp; omega) | omega)) | with_reducible refine Below.trans ?_ (Below.mono hbn (by first | (simp; done) | (simp; omega) | omega))))
  have ks3_5 : w3.heap.size ≤ w5.heap.size := kB3_5.size
  have kB4_5 : Below w4.heap.size w4 w5 := (by repeat (first | with_reducible refine Below.setCell ?_ (by first | (simp; done) | (simp; omega) | omega) _ | with_reducible refine Below.alloc ?_ (by first | (simp; done) | (simp; omega) | omega) _ | with_reducible refine Below.drew ?_ | with_reducible refine below_drewN ?_ _ | with_reducible exact Below.refl _ _ | with_reducible refine Below.trans ?_ (Below.mono kB4_4 (by first | (simp; done) | (simp; omega) | omega)) | with_reducible refine Below.trans ?_ (Below.mono hbn (by first | (simp; done) | (simp; omega) | omega))))
  have ks4_5 : w4.heap.size ≤ w5.heap.size := kB4_5.size
  have kx5_w : w.heap.size < w5.heap.size := cell_lt kc5_0
  clear hbn kb4 kc4_0 kc4_1 kc4_2 kc4_3 kc4_4 kc4_5 kB3_4 kx4_w kB4_4
  obtain ⟨B5, d5, rfl, hr5⟩ := hown.fit HLF.out
  have HR5 := Lib.hid hr5
  clear hr5 hown
  have kB5_5 : Below w5.heap.size w5 w5 := Below.refl _ _
  go_wp2_with (fail)
  refine (C4.out _ B3 d3 ((HR3.out.below (by repeat (first | with_reducible refine Below.setCell ?_ (by first | (simp; done) | (simp; omega) | omega) _ | with_reducible refine Below.alloc ?_ (by first | (simp; done) | (simp; omega) | omega) _ | with_reducible refine Below.drew ?_ | with_reducible refine below_drewN ?_ _ | with_reducible exact Below.refl _ _ | with_reducible refine Below.trans ?_ (Below.mono kB3_5 (by first | (simp; done) | (simp; omega) | omega))))).more (by first | (simp; done) | (simp; omega) | omega))).mono ?_; rintro x w6 ⟨rfl, hbn⟩
  have kb6 : Below w.heap.size w w6 := (by repeat (first | with_reducible refine Below.setCell ?_ (by first | (simp; done) | (simp; omega) | omega) _ | with_reducible refine Below.alloc ?_ (by first | (simp; done) | (simp; omega) | omega) _ | with_reducible refine Below.drew ?_ | with_reducible refine below_drewN ?_ _ | with_reducible exact Below.refl _ _ | with_reducible refine Below.trans ?_ (Below.mono kb5 (by first | (simp; done) | (simp; omega) | omega)) | with_reducible refine Below.trans ?_ (Below.mono hbn (by first | (simp; done) | (simp; omega) | omega))))
  have ks6 : w.heap.size ≤ w6.heap.size := kb6.size
  have kB3_6 : Below w3.heap.size w3 w6 := (by repeat (first | with_reducible refine Below.setCell ?_ (by first | (simp; done) | (simp; omega) | omega) _ | with_reducible refine Below.alloc ?_ (by first | (simp; done) | (simp; omega) | omega) _ | with_reducible refine Below.drew ?_ | with_reducible refine below_drewN ?_ _ | with_reducible exact Below.refl _ _ | with_reducible refine Below.trans ?_ (Below.mono kB3_5 (by first | (simp; done) | (simp; omega) | omega)) | with_reducible refine Below.trans ?_ (Below.mono hbn (by first | (simp; done) | (simp; omega) | omega))))
  have ks3_6 : w3.heap.size ≤ w6.heap.size := kB3_6.size
  have kB4_6 : Below w4.heap.size w4 w6 := (by repeat (first | with_reducible refine Below.setCell ?_ (by first | (simp; done) | (simp; omega) | omega) _ | with_reducible refine Below.alloc ?_ (by first | (simp; done) | (simp; omega) | omega) _ | with_reducible refine Below.drew ?_ | with_reducible refine below_drewN ?_ _ | with_reducible exact Below.refl _ _ | with_reducible refine Below.trans ?_ (Below.mono kB4_5 (by first | (simp; done) | (simp; omega) | omega)) | with_reducible refine Below.trans ?_ (Below.mono hbn (by first | (simp; done) | (simp; omega) | omega))))
  have ks4_6 : w4.heap.size ≤ w6.heap.size := kB4_6.size
  have kB5_6 : Below w5.heap.size w5 w6 := (by repeat (first | with_reducible refine Below.setCell ?_ (by first | (simp; done) | (simp; omega) | omega) _ | with_reducible refine Below.alloc ?_ (by first | (simp; done) | (simp; omega) | omega) _ | with_reducible refine Below.drew ?_ | with_reducible refine below_drewN ?_ _ | with_reducible exact Below.refl _ _ | with_reducible refine Below.trans ?_ (Below.mono kB5_5 (by first | (simp; done) | (simp; omega) | omega)) | with_reducible refine Below.trans ?_ (Below.mono hbn (by first | (simp; done) | (simp; omega) | omega))))
  have ks5_6 : w5.heap.size ≤ w6.heap.size := kB5_6.size
  clear hbn kb5 kc5_0 kc5_1 kc5_2 kc5_3 kc5_4 kc5_5 kB3_5 kB4_5 kx5_w kB5_5
  go_wp2_with (fail)
  refine (C5.out _ (by repeat (first | with_reducible refine Below.setCell ?_ (by first | (simp; done) | (simp; omega) | omega) _ | with_reducible refine Below.alloc ?_ (by first | (simp; done) | (simp; omega) | omega) _ | with_reducible refine Below.drew ?_ | with_reducible refine below_drewN ?_ _ | with_reducible exact Below.refl _ _ | with_reducible refine Below.trans ?_ (Below.mono kb6 (by first | (simp; done) | (simp; omega) | omega))))).mono ?_; rintro x w7 ⟨rfl, hbn⟩
  have hk : KeptC w [(⟨w6.heap.size, 0, none⟩, .string fs), (⟨w6.heap.size, 1, none⟩, .int .i64 fe), (⟨w6.heap.size, 2, none⟩, .int .i64 fm), (⟨w6.heap.size, 3, none⟩, .bool fa), (⟨w6.heap.size, 4, none⟩, .int .i64 fk), (⟨w6.heap.size, 5, none⟩, .int .i64 fc)] [] w7 := KeptC.below (by (repeat' (first | refine KeptC.cons ?_ ?_ | refine KeptC.consF ?_ ?_ ?_ | refine KeptC.mk0 ?_)); all_goals (first | with_reducible assumption | (go_simp; done) | (simp; omega) | exact (by repeat (first | with_reducible refine Below.setCell ?_ (by first | (simp; done) | (simp; omega) | omega) _ | with_reducible refine Below.alloc ?_ (by first | (simp; done) | (simp; omega) | omega) _ | with_reducible refine Below.drew ?_ | with_reducible refine below_drewN ?_ _ | with_reducible exact Below.refl _ _ | with_reducible refine Below.trans ?_ (Below.mono kb6 (by first | (simp; done) | (simp; omega) | omega)))))) hbn
  simp only [KeptC, List.forall_mem_cons] at hk; obtain ⟨kb7, ⟨kc7_0, kc7_1, kc7_2, kc7_3, kc7_4, kc7_5, _⟩, _⟩ := hk
  have ks7 : w.heap.size ≤ w7.heap.size := kb7.size
  have kB3_7 : Below w3.heap.size w3 w7 := (by repeat (first | with_reducible refine Below.setCell ?_ (by first | (simp; done) | (simp; omega) | omega) _ | with_reducible refine Below.alloc ?_ (by first | (simp; done) | (simp; omega) | omega) _ | with_reducible refine Below.drew ?_ | with_reducible refine below_drewN ?_ _ | with_reducible exact Below.refl _ _ | with_reducible refine Below.trans ?_ (Below.mono kB3_6 (by first | (simp; done) | (simp; omega) | omega)) | with_reducible refine Below.trans ?_ (Below.mono hbn (by first | (simp; done) | (simp; omega) | omega))))
  have ks3_7 : w3.heap.size ≤ w7.heap.size := kB3_7.size
  have kB4_7 : Below w4.heap.size w4 w7 := (by repeat (first | with_reducible refine Below.setCell ?_ (by first | (simp; done) | (simp; omega) | omega) _ | with_reducible refine Below.alloc ?_ (by first | (simp; done) | (simp; omega) | omega) _ | with_reducible refine Below.drew ?_ | with_reducible refine below_drewN ?_ _ | with_reducible exact Below.refl _ _ | with_reducible refine Below.trans ?_ (Below.mono kB4_6 (by first | (simp; done) | (simp; omega) | omega)) | with_reducible refine Below.trans ?_ (Below.mono hbn (by first | (simp; done) | (simp; omega) | omega))))
  have ks4_7 : w4.heap.size ≤ w7.heap.size := kB4_7.size
  have kB5_7 : Below w5.heap.size w5 w7 := (by repeat (first | with_reducible refine Below.setCell ?_ (by first | (simp; done) | (simp; omega) | omega) _ | with_reducible refine Below.alloc ?_ (by first | (simp; done) | (simp; omega) | omega) _ | with_reducible refine Below.drew ?_ | with_reducible refine below_drewN ?_ _ | with_reducible exact Below.refl _ _ | with_reducible refine Below.trans ?_ (Below.mono kB5_6 (by first | (simp; done) | (simp; omega) | omega)) | with_reducible refine Below.trans ?_ (Below.mono hbn (by first | (simp; done) | (simp; omega) | omega))))
  have ks5_7 : w5.heap.size ≤ w7.heap.size := kB5_7.size
  have kx7_w6 : w6.heap.size < w7.heap.size := cell_lt kc7_0
  clear hbn kb6 kB3_6 kB4_6 kB5_6
  go_wp2_with (fail)
  have hS : ∀ W, Below w4.heap.size w4 W → Below w5.heap.size w5 W → _ := fun W h4 h5 => same_any B4 _ d4 LL B5 _ d5 LL W ((HR4.out.below h4).more h4.size) ((HR5.out.below h5).more h5.size) (fit_hm HLF.out) (fit_hm HLF.out)
  simp only [sameB_eq rfl] at hS
  refine (hS _ (by repeat (first | with_reducible refine Below.setCell ?_ (by first | (simp; done) | (simp; omega) | omega) _ | with_reducible refine Below.alloc ?_ (by first | (simp; done) | (simp; omega) | omega) _ | with_reducible refine Below.drew ?_ | with_reducible refine below_drewN ?_ _ | with_reducible exact Below.refl _ _ | with_reducible refine Below.trans ?_ (Below.mono kB4_7 (by first | (simp; done) | (simp; omega) | omega)))) (by repeat (first | with_reducible refine Below.setCell ?_ (by first | (simp; done) | (simp; omega) | omega) _ | with_reducible refine Below.alloc ?_ (by first | (simp; done) | (simp; omega) | omega) _ | with_reducible refine Below.drew ?_ | with_reducible refine below_drewN ?_ _ | with_reducible exact Below.refl _ _ | with_reducible refine Below.trans ?_ (Below.mono kB5_7 (by first | (simp; done) | (simp; omega) | omega))))).mono ?_; rintro x w8 ⟨rfl, hbn⟩
  have hk : KeptC w [(⟨w6.heap.size, 0, none⟩, .string fs), (⟨w6.heap.size, 1, none⟩, .int .i64 fe), (⟨w6.heap.size, 2, none⟩, .int .i64 fm), (⟨w6.heap.size, 3, none⟩, .bool fa), (⟨w6.heap.size, 4, none⟩, .int .i64 fk), (⟨w6.heap.size, 5, none⟩, .int .i64 fc), (⟨w7.heap.size, 0, none⟩, .string fs), (⟨w7.heap.size, 1, none⟩, .int .i64 fe), (⟨w7.heap.size, 2, none⟩, .int .i64 fm), (⟨w7.heap.size, 3, none⟩, .bool fa), (⟨w7.heap.size, 4, none⟩, .int .i64 fk), (⟨w7.heap.size, 5, none⟩, .int .i64 fc)] [] w8 := KeptC.below (by (repeat' (first | refine KeptC.cons ?_ ?_ | refine KeptC.consF ?_ ?_ ?_ | refine KeptC.mk0 ?_)); all_goals (first | with_reducible assumption | (go_simp; done) | (simp; omega) | exact (by repeat (first | with_reducible refine Below.setCell ?_ (by first | (simp; done) | (simp; omega) | omega) _ | with_reducible refine Below.alloc ?_ (by first | (simp; done) | (simp; omega) | omega) _ | with_reducible refine Below.drew ?_ | with_reducible refine below_drewN ?_ _ | with_reducible exact Below.refl _ _ | with_reducible refine Below.trans ?_ (Below.mono kb7 (by first | (simp; done) | (simp; omega) | omega)))))) hbn
  simp only [KeptC, List.forall_mem_cons] at hk; obtain ⟨kb8, ⟨kc8_0, kc8_1, kc8_2, kc8_3, kc8_4, kc8_5, kc8_6, kc8_7, kc8_8, kc8_9, kc8_10, kc8_11, _⟩, _⟩ := hk
  have ks8 : w.heap.size ≤ w8.heap.size := kb8.size
  have kB3_8 : Below w3.heap.size w3 w8 := (by repeat (first | with_reducible refine Below.setCell ?_ (by first | (simp; done) | (simp; omega) | omega) _ | with_reducible refine Below.alloc ?_ (by first | (simp; done) | (simp; omega) | omega) _ | with_reducible refine Below.drew ?_ | with_reducible refine below_drewN ?_ _ | with_reducible exact Below.refl _ _ | with_reducible refine Below.trans ?_ (Below.mono kB3_7 (by first | (simp; done) | (simp; omega) | omega)) | with_reducible refine Below.trans ?_ (Below.mono hbn (by first | (simp; done) | (simp; omega) | omega))))
  have ks3_8 : w3.heap.size ≤ w8.heap.size := kB3_8.size
  have kB4_8 : Below w4.heap.size w4 w8 := (by repeat (first | with_reducible refine Below.setCell ?_ (by first | (simp; done) | (simp; omega) | omega) _ | with_reducible refine Below.alloc ?_ (by first | (simp; done) | (simp; omega) | omega) _ | with_reducible refine Below.drew ?_ | with_reducible refine below_drewN ?_ _ | with_reducible exact Below.refl _ _ | with_reducible refine Below.trans ?_ (Below.mono kB4_7 (by first | (simp; done) | (simp; omega) | omega)) | with_reducible refine Below.trans ?_ (Below.mono hbn (by first | (simp; done) | (simp; omega) | omega))))
  have ks4_8 : w4.heap.size ≤ w8.heap.size := kB4_8.size
  have kx8_w6 : w6.heap.size < w8.heap.size := cell_lt kc8_0
  have kx8_w7 : w7.heap.size < w8.heap.size := cell_lt kc8_6
  clear hbn kb7 kc7_0 kc7_1 kc7_2 kc7_3 kc7_4 kc7_5 kB3_7 kB4_7 kB5_7 kx7_w6
  clear hS
  go_wp2_with (fail)
  refine (C6.out _ B3 d3 ((HR3.out.below (by repeat (first | with_reducible refine Below.setCell ?_ (by first | (simp; done) | (simp; omega) | omega) _ | with_reducible refine Below.alloc ?_ (by first | (simp; done) | (simp; omega) | omega) _ | with_reducible refine Below.drew ?_ | with_reducible refine below_drewN ?_ _ | with_reducible exact Below.refl _ _ | with_reducible refine Below.trans ?_ (Below.mono kB3_8 (by first | (simp; done) | (simp; omega) | omega))))).more (by first | (simp; done) | (simp; omega) | omega))).mono ?_; rintro x w9 ⟨B9, d9, rfl, hr9, hbn⟩
  have kb9 : Below w.heap.size w w9 := (by repeat (first | with_reducible refine Below.setCell ?_ (by first | (simp; done) | (simp; omega) | omega) _ | with_reducible refine Below.alloc ?_ (by first | (simp; done) | (simp; omega) | omega) _ | with_reducible refine Below.drew ?_ | with_reducible refine below_drewN ?_ _ | with_reducible exact Below.refl _ _ | with_reducible refine Below.trans ?_ (Below.mono kb8 (by first | (simp; done) | (simp; omega) | omega)) | with_reducible refine Below.trans ?_ (Below.mono hbn (by first | (simp; done) | (simp; omega) | omega))))
  have ks9 : w.heap.size ≤ w9.heap.size := kb9.size
  have kB3_9 : Below w3.heap.size w3 w9 := (by repeat (first | with_reducible refine Below.setCell ?_ (by first | (simp; done) | (simp; omega) | omega) _ | with_reducible refine Below.alloc ?_ (by first | (simp; done) | (simp; omega) | omega) _ | with_reducible refine Below.drew ?_ | with_reducible refine below_drewN ?_ _ | with_reducible exact Below.refl _ _ | with_reducible refine Below.trans ?_ (Below.mono kB3_8 (by first | (simp; done) | (simp; omega) | omega)) | with_reducible refine Below.trans ?_ (Below.mono hbn (by first | (simp; done) | (simp; omega) | omega))))
  have ks3_9 : w3.heap.size ≤ w9.heap.size := kB3_9.size
  have kB4_9 : Below w4.heap.size w4 w9 := (by repeat (first | with_reducible refine Below.setCell ?_ (by first | (simp; done) | (simp; omega) | omega) _ | with_reducible refine Below.alloc ?_ (by first | (simp; done) | (simp; omega) | omega) _ | with_reducible refine Below.drew ?_ | with_reducible refine below_drewN ?_ _ | with_reducible exact Below.refl _ _ | with_reducible refine Below.trans ?_ (Below.mono kB4_8 (by first | (simp; done) | (simp; omega) | omega)) | with_reducible refine Below.trans ?_ (Below.mono hbn (by first | (simp; done) | (simp; omega) | omega))))
  have ks4_9 : w4.heap.size ≤ w9.heap.size := kB4_9.size
  clear hbn kb8 kc8_0 kc8_1 kc8_2 kc8_3 kc8_4 kc8_5 kc8_6 kc8_7 kc8_8 kc8_9 kc8_10 kc8_11 kB3_8 kB4_8 kx8_w6 kx8_w7
  have HR9 := Lib.hid hr9
  clear hr9
  have kB9_9 : Below w9.heap.size w9 w9 := Below.refl _ _
  go_wp2_with (fail)
  refine (C7.out _ (by repeat (first | with_reducible refine Below.setCell ?_ (by first | (simp; done) | (simp; omega) | omega) _ | with_reducible refine Below.alloc ?_ (by first | (simp; done) | (simp; omega) | omega) _ | with_reducible refine Below.drew ?_ | with_reducible refine below_drewN ?_ _ | with_reducible exact Below.refl _ _ | with_reducible refine Below.trans ?_ (Below.mono kb9 (by first | (simp; done) | (simp; omega) | omega))))).mono ?_; rintro x w10 ⟨B10, d10, rfl, hr10, hbn⟩
  have kb10 : Below w.heap.size w w10 := (by repeat (first | with_reducible refine Below.setCell ?_ (by first | (simp; done) | (simp; omega) | omega) _ | with_reducible refine Below.alloc ?_ (by first | (simp; done) | (simp; omega) | omega) _ | with_reducible refine Below.drew ?_ | with_reducible refine below_drewN ?_ _ | with_reducible exact Below.refl _ _ | with_reducible refine Below.trans ?_ (Below.mono kb9 (by first | (simp; done) | (simp; omega) | omega)) | with_reducible refine Below.trans ?_ (Below.mono hbn (by first | (simp; done) | (simp; omega) | omega))))
  have ks10 : w.heap.size ≤ w10.heap.size := kb10.size
  have kB3_10 : Below w3.heap.size w3 w10 := (by repeat (first | with_reducible refine Below.setCell ?_ (by first | (simp; done) | (simp; omega) | omega) _ | with_reducible refine Below.alloc ?_ (by first | (simp; done) | (simp; omega) | omega) _ | with_reducible refine Below.drew ?_ | with_reducible refine below_drewN ?_ _ | with_reducible exact Below.refl _ _ | with_reducible refine Below.trans ?_ (Below.mono kB3_9 (by first | (simp; done) | (simp; omega) | omega)) | with_reducible refine Below.trans ?_ (Below.mono hbn (by first | (simp; done) | (simp; omega) | omega))))
  have ks3_10 : w3.heap.size ≤ w10.heap.size := kB3_10.size
  have kB4_10 : Below w4.heap.size w4 w10 := (by repeat (first | with_reducible refine Below.setCell ?_ (by first | (simp; done) | (simp; omega) | omega) _ | with_reducible refine Below.alloc ?_ (by first | (simp; done) | (simp; omega) | omega) _ | with_reducible refine Below.drew ?_ | with_reducible refine below_drewN ?_ _ | with_reducible exact Below.refl _ _ | with_reducible refine Below.trans ?_ (Below.mono kB4_9 (by first | (simp; done) | (simp; omega) | omega)) | with_reducible refine Below.trans ?_ (Below.mono hbn (by first | (simp; done) | (simp; omega) | omega))))
  have ks4_10 : w4.heap.size ≤ w10.heap.size := kB4_10.size
  have kB9_10 : Below w9.heap.size w9 w10 := (by repeat (first | with_reducible refine Below.setCell ?_ (by first | (simp; done) | (simp; omega) | omega) _ | with_reducible refine Below.alloc ?_ (by first | (simp; done) | (simp; omega) | omega) _ | with_reducible refine Below.drew ?_ | with_reducible refine below_drewN ?_ _ | with_reducible exact Below.refl _ _ | with_reducible refine Below.trans ?_ (Below.mono kB9_9 (by first | (simp; done) | (simp; omega) | omega)) | with_reducible refine Below.trans ?_ (Below.mono hbn (by first | (simp; done) | (simp; omega) | omega))))
  have ks9_10 : w9.heap.size ≤ w10.heap.size := kB9_10.size
  clear hbn kb9 kB3_9 kB4_9 kB9_9
  have HR10 := Lib.hid hr10
  clear hr10
  go_wp2_with (fail)
  have hS := same_any B9 _ d9 LA B10 _ d10 LA w10 ((HR9.out.below kB9_10).more kB9_10.size) HR10.out (by omega) (by omega)
  rw [sameB_eq rfl] at hS
  refine (hS).mono ?_; rintro x w11 ⟨rfl, hbn⟩
  have kb11 : Below w.heap.size w w11 := (by repeat (first | with_reducible refine Below.setCell ?_ (by first | (simp; done) | (simp; omega) | omega) _ | with_reducible refine Below.alloc ?_ (by first | (simp; done) | (simp; omega) | omega) _ | with_reducible refine Below.drew ?_ | with_reducible refine below_drewN ?_ _ | with_reducible exact Below.refl _ _ | with_reducible refine Below.trans ?_ (Below.mono kb10 (by first | (simp; done) | (simp; omega) | omega)) | with_reducible refine Below.trans ?_ (Below.mono hbn (by first | (simp; done) | (simp; omega) | omega))))
  have ks11 : w.heap.size ≤ w11.heap.size := kb11.size
  have kB3_11 : Below w3.heap.size w3 w11 := (by repeat (first | with_reducible refine Below.setCell ?_ (by first | (simp; done) | (simp; omega) | omega) _ | with_reducible refine Below.alloc ?_ (by first | (simp; done) | (simp; omega) | omega) _ | with_reducible refine Below.drew ?_ | with_reducible refine below_drewN ?_ _ | with_reducible exact Below.refl _ _ | with_reducible refine Below.trans ?_ (Below.mono kB3_10 (by first | (simp; done) | (simp; omega) | omega)) | with_reducible refine Below.trans ?_ (Below.mono hbn (by first | (simp; done) | (simp; omega) | omega))))
  have ks3_11 : w3.heap.size ≤ w11.heap.size := kB3_11.size
  have kB4_11 : Below w4.heap.size w4 w11 := (by repeat (first | with_reducible refine Below.setCell ?_ (by first | (simp; done) | (simp; omega) | omega) _ | with_reducible refine Below.alloc ?_ (by first | (simp; done) | (simp; omega) | omega) _ | with_reducible refine Below.drew ?_ | with_reducible refine below_drewN ?_ _ | with_reducible exact Below.refl _ _ | with_reducible refine Below.trans ?_ (Below.mono kB4_10 (by first | (simp; done) | (simp; omega) | omega)) | with_reducible refine Below.trans ?_ (Below.mono hbn (by first | (simp; done) | (simp; omega) | omega))))
  have ks4_11 : w4.heap.size ≤ w11.heap.size := kB4_11.size
  clear hbn kb10 kB3_10 kB4_10 kB9_10
  clear hS
  have hrq : RowQ w11 w3.heap.size B4 LL.length := by
    refine ⟨HOW.out.1, fun ad e => ?_⟩
    obtain ⟨h1, h2, h3, R, h4⟩ := HOW.out.2 ad e
    exact ⟨h1, h2, by omega, R, h4.below h3 kB4_11⟩
  have HRQ := Lib.hid hrq
  clear hrq HOW
  have hl8 := (fit_of_fits HLF.out).1
  go_wp2_with (fail)
  go_loopw [81] (fun i w' => ∃ (k : Nat), k ≤ LL.length ∧ i = .int .i64 k ∧ Hid (RowQ w' w3.heap.size B4 LL.length) ∧ Below w3.heap.size w3 w' ∧ KeptC w [] [] w') (fun i _ => LL.length - (intOf i).toNat)
  case atStart => exact ⟨0, Nat.zero_le _, rfl, HRQ, kB3_11, (by (repeat' (first | refine KeptC.cons ?_ ?_ | refine KeptC.consF ?_ ?_ ?_ | refine KeptC.mk0 ?_)); all_goals (first | with_reducible assumption | (go_simp; done) | (simp; omega) | exact (by repeat (first | with_reducible refine Below.setCell ?_ (by first | (simp; done) | (simp; omega) | omega) _ | with_reducible refine Below.alloc ?_ (by first | (simp; done) | (simp; omega) | omega) _ | with_reducible refine Below.drew ?_ | with_reducible refine below_drewN ?_ _ | with_reducible exact Below.refl _ _ | with_reducible refine Below.trans ?_ (Below.mono kb11 (by first | (simp; done) | (simp; omega) | omega))))))⟩
  case round =>
    obtain ⟨k, hk, rfl, HRW, kBr, hK⟩ := hrel
    have kbr := hK.1
    clear hK HRQ kb11 kB3_11 kB4_11
    have ks3r : w3.heap.size ≤ wr.heap.size := kBr.size
    by_cases hlt : k < LL.length
    rotate_left
    · obtain rfl : k = LL.length := by omega
      have hS := fun W (h : Below w3.heap.size w3 W) (h2 : Below w.heap.size w W) => same_any B3 _ d3 ls A _ cp ls W ((HR3.out.below h).more h.size) ((HR.out.below h2).more h2.size) hm hm
      simp only [sameB_eq rfl] at hS
      go_wp2_with (fail)
      refine (hS _ (by repeat (first | with_reducible refine Below.setCell ?_ (by first | (simp; done) | (simp; omega) | omega) _ | with_reducible refine Below.alloc ?_ (by first | (simp; done) | (simp; omega) | omega) _ | with_reducible refine Below.drew ?_ | with_reducible refine below_drewN ?_ _ | with_reducible exact Below.refl _ _ | with_reducible refine Below.trans ?_ (Below.mono kBr (by first | (simp; done) | (simp; omega) | omega)))) (by repeat (first | with_reducible refine Below.setCell ?_ (by first | (simp; done) | (simp; omega) | omega) _ | with_reducible refine Below.alloc ?_ (by first | (simp; done) | (simp; omega) | omega) _ | with_reducible refine Below.drew ?_ | with_reducible refine below_drewN ?_ _ | with_reducible exact Below.refl _ _ | with_reducible refine Below.trans ?_ (Below.mono kbr (by first | (simp; done) | (simp; omega) | omega))))).mono ?_; rintro x w12 ⟨rfl, hb12⟩
      clear hS
      have kb12 : Below w.heap.size w w12 := (by repeat (first | with_reducible refine Below.setCell ?_ (by first | (simp; done) | (simp; omega) | omega) _ | with_reducible refine Below.alloc ?_ (by first | (simp; done) | (simp; omega) | omega) _ | with_reducible refine Below.drew ?_ | with_reducible refine below_drewN ?_ _ | with_reducible exact Below.refl _ _ | with_reducible refine Below.trans ?_ (Below.mono kbr (by first | (simp; done) | (simp; omega) | omega)) | with_reducible refine Below.trans ?_ (Below.mono hb12 (by first | (simp; done) | (simp; omega) | omega))))
      have ks12 := kb12.size
      clear hb12
      go_wp2_with (fail)
      refine (awake_any _).mono ?_; rintro x w13 ⟨rfl, hb13⟩
      have kb13 : Below w.heap.size w w13 := (by repeat (first | with_reducible refine Below.setCell ?_ (by first | (simp; done) | (simp; omega) | omega) _ | with_reducible refine Below.alloc ?_ (by first | (simp; done) | (simp; omega) | omega) _ | with_reducible refine Below.drew ?_ | with_reducible refine below_drewN ?_ _ | with_reducible exact Below.refl _ _ | with_reducible refine Below.trans ?_ (Below.mono kb12 (by first | (simp; done) | (simp; omega) | omega)) | with_reducible refine Below.trans ?_ (Below.mono hb13 (by first | (simp; done) | (simp; omega) | omega))))
      clear hb13
      go_wp2
      go_ret
      exact ⟨rfl, kb13⟩
    · obtain ⟨ad, hA⟩ := HRW.out.1 (by omega)
      obtain ⟨hsp, hBa, hab, R, hrow⟩ := HRW.out.2 ad hA
      have HSP := Lib.hid hsp
      subst hA
      obtain ⟨g, o, hq, hgb⟩ : ∃ g o, ad.add (k * 6) = ⟨g, o, none⟩ ∧ g = ad.block := ⟨ad.block, ad.off + k * 6, add_eq hsp _, rfl⟩
      have hgw : g < wr.heap.size := by omega
      have hBg : w3.heap.size ≤ g := by omega
      clear hgb hsp
      obtain ⟨hd6, hu6⟩ := hrow k hlt
      have HROW := Lib.hid hrow
      rw [hq] at hd6 hu6
      have d0 := hd6.1
      have f0 := hu6.1
      clear hrow hd6 hu6
      go_wp2
      go_roundw
      case rel =>
        have hrn := row_name (s := ⟨#[111, 116, 104, 101, 114]⟩) HROW.out hlt
        rw [hq] at hrn
        have kB4 : Below w3.heap.size w3 (wr.setCell ⟨g, o, none⟩ (.string ⟨#[111, 116, 104, 101, 114]⟩)) := (by repeat (first | with_reducible refine Below.setCell ?_ (by first | (simp; done) | (simp; omega) | omega) _ | with_reducible refine Below.alloc ?_ (by first | (simp; done) | (simp; omega) | omega) _ | with_reducible refine Below.drew ?_ | with_reducible refine below_drewN ?_ _ | with_reducible exact Below.refl _ _ | with_reducible refine Below.trans ?_ (Below.mono kBr (by first | (simp; done) | (simp; omega) | omega))))
        exact ⟨k + 1, by omega, by go_num, Lib.hid ⟨fun _ => ⟨ad, rfl⟩, fun ad' e' => by obtain rfl := Option.some.inj e'; exact ⟨HSP.out, hBa, by simp; omega, _, hrn⟩⟩, kB4, (by (repeat' (first | refine KeptC.cons ?_ ?_ | refine KeptC.consF ?_ ?_ ?_ | refine KeptC.mk0 ?_)); all_goals (first | with_reducible assumption | (go_simp; done) | (simp; omega) | exact (by repeat (first | with_reducible refine Below.setCell ?_ (by first | (simp; done) | (simp; omega) | omega) _ | with_reducible refine Below.alloc ?_ (by first | (simp; done) | (simp; omega) | omega) _ | with_reducible refine Below.drew ?_ | with_reducible refine below_drewN ?_ _ | with_reducible exact Below.refl _ _ | with_reducible refine Below.trans ?_ (Below.mono kbr (by first | (simp; done) | (simp; omega) | omega))))))⟩
      case measure => simp [intOf]; omega
theorem dirTells_any (A : Option Addr) (n cp : Nat) (ls : List Ch) (s : ByteArray) (e m : Int) (al : Bool) (k0 sc : Int) (nm : ByteArray) (w : World) (hsz : s.size ≤ maxLen) (hr : ChsAt w w.heap.size A n ls) (hm : n * 56 ≤ 140737488351232) :
    Calls Try.prog 8 #[.slice A n cp, .agg #[.string s, .int .i64 e, .int .i64 m, .bool al, .int .i64 k0, .int .i64 sc], .string nm] w fun x w' => x = .returned (.bool true) ∧ Below w.heap.size w w' := by
  cases h1 : fitsB ls with
  | false => exact tells_n0 A n cp ls s e m al k0 sc nm w hsz hr hm (Lib.hid h1)
  | true =>
    cases h2 : chFit s e m k0 sc with
    | false => exact tells_n1 A n cp ls s e m al k0 sc nm w hsz hr hm (Lib.hid h1) (Lib.hid h2)
    | true => exact tells_main A n cp ls s e m al k0 sc nm w hsz hr hm (Lib.hid h1) (Lib.hid h2)
theorem dirTells_lifted (os : Os) (started : os.Started) (H : Type) (enc : TypeId × Value → H) :
    ReturnsInHanded {} Try.checked os 8 .any (Rows.dirTellsSpec.pre6 enc Try.prog Try.f8 Rows.dirTellsRow.domain false) (Rows.dirTellsSpec.post enc Try.prog Try.f8 false true false false) := by
  refine returnsInHanded_of_change_sized (C := Try.checked) own started (by kernel_rfl) Try.func8
    (ChangeSpec.witness6 (enc := enc) (C := Try.checked) false ⟨#[], #[.slice none 0 0, .agg #[.string ⟨#[]⟩, .int .i64 0, .int .i64 0, .bool false, .int .i64 0, .int .i64 0], .string ⟨#[]⟩], []⟩ 8 (by kernel_rfl) (by kernel_rfl) (by kernel_rfl) (by kernel_rfl)) ?_
  intro W base args ds gs before hval hW _ hsz _
  have hW' := hW
  obtain ⟨p, q, hA, hV, rfl, hfz, hnd⟩ := hW
  obtain ⟨rfl, rfl⟩ := trodVars_none hV
  rw [Try.params8] at hA hval
  obtain ⟨v0, vs0, d0, ds0, p0, q0, hargs, rfl, rfl, h0, r0⟩ := trodAll_cons hA
  obtain ⟨v1, vs1, d1, ds1, p1, q1, rfl, rfl, rfl, h1, r1⟩ := trodAll_cons r0
  obtain ⟨v2, vs2, d2, ds2, p2, q2, rfl, rfl, rfl, h2, r2⟩ := trodAll_cons r1
  obtain ⟨rfl, rfl, rfl⟩ := trodAll_nil r2
  obtain rfl : args = #[v0, v1, v2] := by cases args; simp_all
  obtain ⟨A, n, cp, rs, rfl, _, hr, hds⟩ := open_chans (hval 0 _ v0 rfl rfl) h0
  obtain ⟨s, e, m, al, k, c, rfl, ws⟩ := open_chan (hval 1 _ v1 rfl rfl) h1
  obtain ⟨nm, rfl, _, _, wx⟩ := open_string Try.underlying9 (hval 2 _ v2 rfl rfl) h2
  refine (dirTells_any A n cp rs s e m al k c nm W ws hr (small_chans hsz (j := 0) rfl rfl hds)).mono fun e W' ⟨he, hg⟩ => ?_
  subst he
  exact ⟨_, rfl, law_post laidOut rfl (by kernel_rfl) rfl Try.underlying4 rfl hW' hg⟩

theorem dirTells_holds : Rows.DirTellsSaid :=
  OpenClaim.holds_of_wide 8 Try.f8 rfl rfl rfl rfl rfl rfl rfl ⟨rfl, rfl, rfl, rfl, rfl⟩ rfl rfl rfl rfl rfl (by kernel_rfl) Try.func8 (by kernel_rfl)
    (of_decide_eq_true (by kernel_rfl)) (by unfold Func.isWrapper; first | (rw [if_pos (by decide +kernel)]; kernel_rfl) | (rw [if_neg (by decide +kernel)]; exact ⟨rfl, rfl⟩))
    (fun os started H enc _ => dirTells_lifted os started H enc)

end Go.Proofs.Ytblaccmphofbcaa
