/- eddylaw01's awake returns true: chapter 1's examples. No conditions. -/
import Derived.Test.YtmgpknadefhikaaNumP
import Derived.Test.YtmgpknadefhikaaNumS
import Derived.Test.YtmgpknadefhikaaLaw
import Derived.ChangeMaps5
namespace Go.Proofs.Ytmgpknadefhikaa
open Go.ChangeShapes Go.WideShapes Go.ChangeAt Go.RowKit Go.Joins
set_option linter.unusedVariables false
theorem hh1 : halfN 2147483647 (-2147483647) = (2147483647, 0) := by decide
theorem hh2 : mulN 65536 32768 = (0, 10) := by decide
def bigText : ByteArray := ⟨#[49, 56, 52, 52, 54, 55, 52, 52, 48, 55, 51, 55, 48, 57, 53, 53, 49, 54, 49, 54]⟩
theorem hh3 : parseV bigText.data.toList = (⟨1, 0⟩, 0) := by decide +kernel
theorem hh4 : sqL [-3, 4] = ⟨0, 25⟩ := by decide +kernel
theorem reads2 {w : World} {b : Nat} {x y : Value} (h0 : w.cell? ⟨b, 0, none⟩ = some x) (h1 : w.cell? ⟨b, 1, none⟩ = some y) (hb : b < w.heap.size) : Reads w w.heap.size 1 (some ⟨b, 0, none⟩) 2 [x, y] := by
  refine ⟨rfl, fun _ => ⟨_, rfl, hb, fun j u hu => ?_⟩⟩
  rcases j with _ | _ | j
  · simp at hu; subst hu; exact h0
  · simp at hu; subst hu; exact h1
  · simp at hu
set_option maxHeartbeats 4000000 in
theorem awake_any (w : World) : Calls Try.prog 12 #[] w fun e w' => e = .returned (.bool true) ∧ Below w.heap.size w w' := by
  have c1 := fun w => nhalf_any 2147483647 (-2147483647) w
  have c2 := fun w => nmul_any 65536 32768 w
  have c3 := fun w => parse_any bigText w (by decide)
  have c4 := fun b c w h => squares_any (some ⟨b, 0, none⟩) 2 c [-3, 4] w rfl h (by intro x hx; simp at hx; omega) (by decide)
  rw [hh1] at c1
  rw [hh2] at c2
  rw [hh3] at c3
  rw [hh4] at c4
  have C1 := Lib.hid c1; have C2 := Lib.hid c2; have C3 := Lib.hid c3; have C4 := Lib.hid c4
  clear c1 c2 c3 c4
  go_enter Try.func12, Try.ntmps12
  go_wp2_with (fail)
  refine (C1.out _).mono ?_; rintro e w' ⟨rfl, rfl⟩
  go_wp2_with (fail)
  refine (C2.out _).mono ?_; rintro e w' ⟨rfl, rfl⟩
  go_wp2_with (fail)
  refine (C3.out _).mono ?_; rintro e w1 ⟨rfl, hb1⟩; obtain ⟨hc1, hf1⟩ := bcell hb1; have hz1 := hb1.size; (try simp at hz1)
  go_wp2_with (fail)
  refine (C4.out _ _ _ (reads2 (by go_simp) (by go_simp) (by simp))).mono ?_
  rintro e w2 ⟨rfl, hb2⟩
  go_wp2
  go_ret
  exact ⟨rfl, (by repeat (first | with_reducible refine Below.setCell ?_ (by first | (simp; done) | (simp; omega) | omega) _ | with_reducible refine Below.alloc ?_ (by first | (simp; done) | (simp; omega) | omega) _ | with_reducible refine Below.drew ?_ | with_reducible exact Below.refl _ _ | with_reducible refine Below.trans ?_ (Below.mono hb1 (by first | (simp; done) | (simp; omega) | omega)) | with_reducible refine Below.trans ?_ (Below.mono hb2 (by first | (simp; done) | (simp; omega) | omega))))⟩
end Go.Proofs.Ytmgpknadefhikaa
