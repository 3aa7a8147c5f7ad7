/- The examples of the law: they all hold. -/
import Derived.Test.YtblaccmphofbcaaDirK
import Derived.Deep.Cut
namespace Go.Proofs.Ytblaccmphofbcaa
open Go.RowKit
set_option linter.unusedVariables false
@[reducible] def chA : Ch := ⟨⟨#[109]⟩, 1, 3, true, 1, 4⟩
@[reducible] def chB : Ch := ⟨⟨#[109]⟩, 2, 5, false, 1, 4⟩
theorem aw_fits0 : fitsB [] = true := by kernel_rfl
theorem aw_fits1 : fitsB [chA] = true := by kernel_rfl
theorem aw_fits2 : fitsB [chB] = true := by kernel_rfl
theorem aw_e1 : creE [] ⟨#[109]⟩ 1 4 = 0 := by kernel_rfl
theorem aw_l1 : creL [] 3 ⟨#[109]⟩ 1 4 = [chA] := by kernel_rfl
theorem aw_e2 : delE [chA] ⟨#[109]⟩ = 0 := by kernel_rfl
theorem aw_l2 : delL [chA] 5 ⟨#[109]⟩ = [chB] := by kernel_rfl
theorem aw_e3 : creE [chA] ⟨#[109]⟩ 1 4 = 42 := by kernel_rfl
theorem chs_nil (w : World) (B cp : Nat) : ChsAt w B none 0 [] := ⟨rfl, by simp, fun h => by cases h⟩
set_option maxRecDepth 100000 in
set_option maxHeartbeats 8000000 in
theorem awake_any (w : World) : Calls Try.prog 10 #[] w fun x w' => x = .returned (.bool true) ∧ Below w.heap.size w w' := by
  go_enter Try.func10, Try.ntmps10
  go_wp2_with (fail)
  refine (create_any none 0 0 [] 3 ⟨#[109]⟩ 1 4 w (chs_nil w _ 0) aw_fits0).mono ?_; rintro x w1 ⟨lv, rfl, hown1, hb1⟩
  rw [aw_e1]
  rw [aw_l1] at hown1
  obtain ⟨A1, c1, rfl, hr1⟩ := hown1.fit aw_fits1
  have HR1 := Lib.hid hr1
  clear hr1 hown1
  have hz1 := hb1.size
  go_wp2_with (fail)
  refine (delete_any A1 1 c1 [chA] 5 ⟨#[109]⟩ w1 HR1.out aw_fits1).mono ?_; rintro x w2 ⟨lv, rfl, hown2, hb2⟩
  rw [aw_e2]
  rw [aw_l2] at hown2
  obtain ⟨A2, c2, rfl, hr2⟩ := hown2.fit aw_fits2
  have HR2 := Lib.hid hr2
  clear hr2 hown2
  have hz2 := hb2.size
  go_wp2_with (fail)
  refine (create_any A1 1 c1 [chA] 1 ⟨#[109]⟩ 1 4 w2 ((HR1.out.below hb2).more (by omega)) aw_fits1).mono ?_; rintro x w3 ⟨lv, rfl, hown3, hb3⟩
  rw [aw_e3]
  clear hown3
  have hz3 := hb3.size
  obtain ⟨ad, x, hA, hab, hx, hsz, hc6⟩ := HR2.out.get (k := 0) (by decide)
  subst hA
  obtain rfl : x = chB := by simpa using hx.symm
  obtain ⟨p, hp⟩ : ∃ p, ad.add (0 * 6) = p := ⟨_, rfl⟩
  have hp0 : ad.add 0 = p := hp
  have hpb : p.block < w2.heap.size := by rw [← hp, block_of_add]; exact hab
  rw [hp] at hc6
  obtain ⟨k0, k1, k2, k3, k4, k5⟩ := hc6.below hpb hb3
  clear hc6 hsz hx hab
  simp only [] at k0 k1 k2 k3 k4 k5
  have hpb3 : p.block < w3.heap.size := by omega
  simp only [List.length_cons, List.length_nil, Nat.zero_add]
  have hN : ∀ W, Calls Try.prog 24 #[.agg #[.string ⟨#[109]⟩, .int .i64 3, .int .i64 9, .bool false, .int .i64 0, .int .i64 0], .agg #[.string ⟨#[109]⟩, .int .i64 2, .int .i64 5, .bool false, .int .i64 1, .int .i64 4]] W fun x w' => x = .returned (.bool true) ∧ Below W.heap.size W w' := fun W => newerC_any _ _ _ _ _ _ _ _ _ _ _ _ W
  have hkb : Below w.heap.size w w3 := (by repeat (first | with_reducible refine Below.setCell ?_ (by first | (simp; done) | (simp; omega) | omega) _ | with_reducible refine Below.alloc ?_ (by first | (simp; done) | (simp; omega) | omega) _ | with_reducible refine Below.drew ?_ | with_reducible refine below_drewN ?_ _ | with_reducible exact Below.refl _ _ | with_reducible refine Below.trans ?_ (Below.mono hb1 (by first | (simp; done) | (simp; omega) | omega)) | with_reducible refine Below.trans ?_ (Below.mono hb2 (by first | (simp; done) | (simp; omega) | omega)) | with_reducible refine Below.trans ?_ (Below.mono hb3 (by first | (simp; done) | (simp; omega) | omega))))
  clear hb1 hb2 hb3 HR1 HR2
  go_wp2_with (fail)
  refine (hN _).mono ?_; rintro e w4 ⟨rfl, hb4⟩; obtain ⟨hc4, hf4⟩ := bcell hb4; have hz4 := hb4.size; (try simp at hz4)
  go_wp2
  go_ret
  exact ⟨rfl, (by repeat (first | with_reducible refine Below.setCell ?_ (by first | (simp; done) | (simp; omega) | omega) _ | with_reducible refine Below.alloc ?_ (by first | (simp; done) | (simp; omega) | omega) _ | with_reducible refine Below.drew ?_ | with_reducible refine below_drewN ?_ _ | with_reducible exact Below.refl _ _ | with_reducible refine Below.trans ?_ (Below.mono hkb (by first | (simp; done) | (simp; omega) | omega)) | with_reducible refine Below.trans ?_ (Below.mono hb4 (by first | (simp; done) | (simp; omega) | omega))))⟩
end Go.Proofs.Ytblaccmphofbcaa
