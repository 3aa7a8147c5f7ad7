/- awake of the statements over states: chapter 18's first example. -/
import Derived.Test.YtfihkkamedghkaaStW
import Derived.Test.YtfihkkamedghkaaStL
namespace Go.Proofs.Ytfihkkamedghkaa
open Go.RowKit
set_option linter.unusedVariables false
set_option maxRecDepth 100000
def aw1 : List St := [⟨⟨⟨#[109]⟩, 1, 3, true, 1, 4⟩, false, 0, E0, E0⟩]
def aw2 : List St := [⟨⟨⟨#[109]⟩, 1, 3, true, 1, 4⟩, true, 20, E0, E0⟩]
def aw3 : List St := [⟨⟨⟨#[109]⟩, 2, 3, false, 1, 4⟩, false, 0, E0, E0⟩]
theorem aw_cre : stCre [] 3 ⟨#[109]⟩ 1 4 = (aw1, 0) := by kernel_rfl
theorem aw_set : setR 3 aw1 ⟨#[109]⟩ 5 = (aw2, 0) := by kernel_rfl
theorem aw_big : setR 3 aw1 ⟨#[109]⟩ 600000000 = (aw1, 10) := by kernel_rfl
theorem aw_find : findS aw2 ⟨#[109]⟩ = some ⟨⟨⟨#[109]⟩, 1, 3, true, 1, 4⟩, true, 20, E0, E0⟩ := by kernel_rfl
theorem aw_del : stDel aw2 3 ⟨#[109]⟩ = (aw3, 0) := by kernel_rfl
theorem aw_none : setR 3 aw3 ⟨#[109]⟩ 1 = (aw3, 44) := by kernel_rfl
theorem aw_fit : stsB 3 aw2 = true := by kernel_rfl
theorem aw_fit2 : fitsB (aw2.map St.ch) = true := by kernel_rfl
theorem aw_ok (ls : List St) (h : ls = aw1 ∨ ls = aw2 ∨ ls = aw3) : (∀ y ∈ ls, 1 ≤ y.ch.kd ∧ y.ch.kd ≤ 4) ∧ (∀ y ∈ ls, fitE y.mn ∧ fitE y.mx) ∧ (∀ y ∈ ls, y.ch.name.size ≤ maxLen) := by
  have hE : fitE E0 := by unfold fitE; kernel_rfl
  have hn : (⟨#[109]⟩ : ByteArray).size ≤ maxLen := by simp [maxLen, ByteArray.size]
  rcases h with rfl | rfl | rfl
  all_goals
    refine ⟨?_, ?_, ?_⟩
    all_goals
      intro y hy
      simp only [aw1, aw2, aw3, List.mem_cons, List.not_mem_nil, or_false] at hy
      subst hy
      first | exact ⟨by decide, by decide⟩ | exact ⟨hE, hE⟩ | exact hn
theorem ReadS.one {w : World} {v : Value} {rs : List St} (h : ReadS w v rs) (hl : rs.length = 1) : ∃ A c, v = .slice A 1 c ∧ StsAt w w.heap.size A 1 rs := by
  obtain ⟨A, c, e, h1⟩ := h
  rw [hl] at e h1
  exact ⟨A, c, e, h1⟩
set_option maxRecDepth 100000 in
set_option maxHeartbeats 8000000 in
theorem awake_any (w : World) : Calls Try.prog 10 #[] w fun x w' => x = .returned (.bool true) ∧ Below w.heap.size w w' := by
  have hM : (⟨#[109]⟩ : ByteArray).size ≤ maxLen := by simp [maxLen, ByteArray.size]
  have HM := Lib.hid hM
  clear hM
  have c1 := fun W => screate_any none 0 0 [] 3 ⟨#[109]⟩ 1 4 W HM.out (sts_nil W _ none) (by kernel_rfl) (by omega)
  rw [aw_cre] at c1
  have C1 := Lib.hid c1
  clear c1
  go_enter Try.func10, Try.ntmps10
  go_wp2_with (fail)
  refine (C1.out _).mono ?_; rintro e w1 ⟨lv, rfl, hown, hb1⟩
  obtain ⟨A1, n1, rfl, hat1⟩ := (hown.read (aw_ok aw1 (.inl rfl)).2.2).one rfl
  have T1 := Lib.hid hat1
  have kb1 : Below w.heap.size w w1 := (by repeat (first | with_reducible refine Below.setCell ?_ (by first | (simp; done) | (simp; omega) | omega) _ | with_reducible refine Below.alloc ?_ (by first | (simp; done) | (simp; omega) | omega) _ | with_reducible refine Below.drew ?_ | with_reducible refine below_drewN ?_ _ | with_reducible exact Below.refl _ _ | with_reducible refine Below.trans ?_ (Below.mono hb1 (by first | (simp; done) | (simp; omega) | omega))))
  have c2 := fun W (hb : Below w1.heap.size w1 W) => sset_any A1 1 n1 aw1 3 ⟨#[109]⟩ 5 W ((T1.out.below hb).more hb.size) (by omega) (aw_ok aw1 (.inl rfl)).1 (aw_ok aw1 (.inl rfl)).2.1 (by omega) (by omega)
  have c3 := fun W (hb : Below w1.heap.size w1 W) => sset_any A1 1 n1 aw1 3 ⟨#[109]⟩ 600000000 W ((T1.out.below hb).more hb.size) (by omega) (aw_ok aw1 (.inl rfl)).1 (aw_ok aw1 (.inl rfl)).2.1 (by omega) (by omega)
  rw [aw_set] at c2
  rw [aw_big] at c3
  have C2 := Lib.hid c2
  have C3 := Lib.hid c3
  clear c2 c3 hat1 hown hb1 C1
  go_wp2_with (fail)
  refine (C2.out _ (by repeat (first | with_reducible refine Below.setCell ?_ (by first | (simp; done) | (simp; omega) | omega) _ | with_reducible refine Below.alloc ?_ (by first | (simp; done) | (simp; omega) | omega) _ | with_reducible refine Below.drew ?_ | with_reducible refine below_drewN ?_ _ | with_reducible exact Below.refl _ _))).mono ?_; rintro e w2 ⟨lv2, rfl, hrd2, hb2⟩
  obtain ⟨A2, n2, rfl, hat2⟩ := hrd2.one rfl
  have T2 := Lib.hid hat2
  have kr2 : Below w1.heap.size w1 w2 := (by repeat (first | with_reducible refine Below.setCell ?_ (by first | (simp; done) | (simp; omega) | omega) _ | with_reducible refine Below.alloc ?_ (by first | (simp; done) | (simp; omega) | omega) _ | with_reducible refine Below.drew ?_ | with_reducible refine below_drewN ?_ _ | with_reducible exact Below.refl _ _ | with_reducible refine Below.trans ?_ (Below.mono hb2 (by first | (simp; done) | (simp; omega) | omega))))
  have hs1 := kb1.size
  have kb2 : Below w.heap.size w w2 := kb1.trans (kr2.mono hs1)
  have c4 := fun W (hb : Below w2.heap.size w2 W) => sfind_any A2 1 n2 aw2 ⟨#[109]⟩ W ((T2.out.below hb).more hb.size) (by omega)
  have c5 := fun W (hb : Below w2.heap.size w2 W) => sdelete_any A2 1 n2 aw2 3 ⟨#[109]⟩ W HM.out ((T2.out.below hb).more hb.size) aw_fit2 (by omega)
  have c7 := fun W (hb : Below w2.heap.size w2 W) => sfit_any 3 A2 1 n2 aw2 W ((T2.out.below hb).more hb.size) (by omega)
  rw [aw_find] at c4
  rw [aw_del] at c5
  rw [aw_fit] at c7
  simp only [Option.getD_some, Option.isSome_some] at c4
  have C4 := Lib.hid c4
  have C5 := Lib.hid c5
  have C7 := Lib.hid c7
  clear c4 c5 c7 hat2 hrd2 hb2 C2
  go_wp2_with (fail)
  refine (C3.out _ (by repeat (first | with_reducible refine Below.setCell ?_ (by first | (simp; done) | (simp; omega) | omega) _ | with_reducible refine Below.alloc ?_ (by first | (simp; done) | (simp; omega) | omega) _ | with_reducible refine Below.drew ?_ | with_reducible refine below_drewN ?_ _ | with_reducible exact Below.refl _ _ | with_reducible refine Below.trans ?_ (Below.mono kr2 (by first | (simp; done) | (simp; omega) | omega))))).mono ?_; rintro e w3 ⟨lv3, rfl, hrd3, hb3⟩
  obtain ⟨A3, n3, rfl, _⟩ := hrd3.one rfl
  have kr3 : Below w2.heap.size w2 w3 := (by repeat (first | with_reducible refine Below.setCell ?_ (by first | (simp; done) | (simp; omega) | omega) _ | with_reducible refine Below.alloc ?_ (by first | (simp; done) | (simp; omega) | omega) _ | with_reducible refine Below.drew ?_ | with_reducible refine below_drewN ?_ _ | with_reducible exact Below.refl _ _ | with_reducible refine Below.trans ?_ (Below.mono hb3 (by first | (simp; done) | (simp; omega) | omega))))
  have hs2 := kb2.size
  have kb3 : Below w.heap.size w w3 := kb2.trans (kr3.mono hs2)
  have hs3 := kr3.size
  clear hrd3 hb3 C3 kr2
  go_wp2_with (fail)
  refine (C4.out _ (by repeat (first | with_reducible refine Below.setCell ?_ (by first | (simp; done) | (simp; omega) | omega) _ | with_reducible refine Below.alloc ?_ (by first | (simp; done) | (simp; omega) | omega) _ | with_reducible refine Below.drew ?_ | with_reducible refine below_drewN ?_ _ | with_reducible exact Below.refl _ _ | with_reducible refine Below.trans ?_ (Below.mono kr3 (by first | (simp; done) | (simp; omega) | omega))))).mono ?_; rintro e w4 ⟨rfl, hb4⟩
  have kr4 : Below w2.heap.size w2 w4 := (by repeat (first | with_reducible refine Below.setCell ?_ (by first | (simp; done) | (simp; omega) | omega) _ | with_reducible refine Below.alloc ?_ (by first | (simp; done) | (simp; omega) | omega) _ | with_reducible refine Below.drew ?_ | with_reducible refine below_drewN ?_ _ | with_reducible exact Below.refl _ _ | with_reducible refine Below.trans ?_ (Below.mono hb4 (by first | (simp; done) | (simp; omega) | omega)) | with_reducible refine Below.trans ?_ (Below.mono kr3 (by first | (simp; done) | (simp; omega) | omega))))
  have kb4 : Below w.heap.size w w4 := kb2.trans (kr4.mono hs2)
  have hs4 := kr4.size
  clear hb4 C4 kr3 kb3 hs3
  go_wp2_with (fail)
  refine (C5.out _ (by repeat (first | with_reducible refine Below.setCell ?_ (by first | (simp; done) | (simp; omega) | omega) _ | with_reducible refine Below.alloc ?_ (by first | (simp; done) | (simp; omega) | omega) _ | with_reducible refine Below.drew ?_ | with_reducible refine below_drewN ?_ _ | with_reducible exact Below.refl _ _ | with_reducible refine Below.trans ?_ (Below.mono kr4 (by first | (simp; done) | (simp; omega) | omega))))).mono ?_; rintro e w5 ⟨lv5, rfl, hown5, hb5⟩
  obtain ⟨A5, n5, rfl, hat5⟩ := (hown5.read (aw_ok aw3 (.inr (.inr rfl))).2.2).one rfl
  have T5 := Lib.hid hat5
  have b6 : w5.cell? ⟨w4.heap.size, 6, none⟩ = some (.bool true) := (hb5.cell (p := ⟨w4.heap.size, 6, none⟩) (by first | (simp; done) | (simp; omega) | omega)).trans (by go_simp)
  have b7 : w5.cell? ⟨w4.heap.size, 7, none⟩ = some (.int .i64 20) := (hb5.cell (p := ⟨w4.heap.size, 7, none⟩) (by first | (simp; done) | (simp; omega) | omega)).trans (by go_simp)
  have kr5 : Below w2.heap.size w2 w5 := (by repeat (first | with_reducible refine Below.setCell ?_ (by first | (simp; done) | (simp; omega) | omega) _ | with_reducible refine Below.alloc ?_ (by first | (simp; done) | (simp; omega) | omega) _ | with_reducible refine Below.drew ?_ | with_reducible refine below_drewN ?_ _ | with_reducible exact Below.refl _ _ | with_reducible refine Below.trans ?_ (Below.mono hb5 (by first | (simp; done) | (simp; omega) | omega)) | with_reducible refine Below.trans ?_ (Below.mono kr4 (by first | (simp; done) | (simp; omega) | omega))))
  have kb5 : Below w.heap.size w w5 := kb2.trans (kr5.mono hs2)
  have c6 := fun W (hb : Below w5.heap.size w5 W) => sset_any A5 1 n5 aw3 3 ⟨#[109]⟩ 1 W ((T5.out.below hb).more hb.size) (by omega) (aw_ok aw3 (.inr (.inr rfl))).1 (aw_ok aw3 (.inr (.inr rfl))).2.1 (by omega) (by omega)
  rw [aw_none] at c6
  have C6 := Lib.hid c6
  have l6 := cell_lt b6
  have l7 := cell_lt b7
  clear c6 hat5 hown5 hb5 C5 kr4 kb4
  go_wp2_with (fail)
  refine (C6.out _ (by repeat (first | with_reducible refine Below.setCell ?_ (by first | (simp; done) | (simp; omega) | omega) _ | with_reducible refine Below.alloc ?_ (by first | (simp; done) | (simp; omega) | omega) _ | with_reducible refine Below.drew ?_ | with_reducible refine below_drewN ?_ _ | with_reducible exact Below.refl _ _))).mono ?_; rintro e w6 ⟨lv6, rfl, hrd6, hb6⟩
  obtain ⟨A6, n6, rfl, _⟩ := hrd6.one rfl
  have kq6 : Below w5.heap.size w5 w6 := (by repeat (first | with_reducible refine Below.setCell ?_ (by first | (simp; done) | (simp; omega) | omega) _ | with_reducible refine Below.alloc ?_ (by first | (simp; done) | (simp; omega) | omega) _ | with_reducible refine Below.drew ?_ | with_reducible refine below_drewN ?_ _ | with_reducible exact Below.refl _ _ | with_reducible refine Below.trans ?_ (Below.mono hb6 (by first | (simp; done) | (simp; omega) | omega))))
  have b6' : w6.cell? ⟨w4.heap.size, 6, none⟩ = some (.bool true) := (kq6.cell (p := ⟨w4.heap.size, 6, none⟩) l6).trans b6
  have b7' : w6.cell? ⟨w4.heap.size, 7, none⟩ = some (.int .i64 20) := (kq6.cell (p := ⟨w4.heap.size, 7, none⟩) l7).trans b7
  have hs5 := kr5.size
  have kr6 : Below w2.heap.size w2 w6 := kr5.trans (kq6.mono hs5)
  have kb6 : Below w.heap.size w w6 := kb2.trans (kr6.mono hs2)
  clear hrd6 hb6 C6 b6 b7 kr5 kb5 kq6
  go_wp2_with (fail)
  refine (C7.out _ (by repeat (first | with_reducible refine Below.setCell ?_ (by first | (simp; done) | (simp; omega) | omega) _ | with_reducible refine Below.alloc ?_ (by first | (simp; done) | (simp; omega) | omega) _ | with_reducible refine Below.drew ?_ | with_reducible refine below_drewN ?_ _ | with_reducible exact Below.refl _ _ | with_reducible refine Below.trans ?_ (Below.mono kr6 (by first | (simp; done) | (simp; omega) | omega))))).mono ?_; rintro e w7 ⟨rfl, hb7⟩
  have hs6 := kb6.size
  have kb7 : Below w.heap.size w w7 := (by repeat (first | with_reducible refine Below.setCell ?_ (by first | (simp; done) | (simp; omega) | omega) _ | with_reducible refine Below.alloc ?_ (by first | (simp; done) | (simp; omega) | omega) _ | with_reducible refine Below.drew ?_ | with_reducible refine below_drewN ?_ _ | with_reducible exact Below.refl _ _ | with_reducible refine Below.trans ?_ (Below.mono hb7 (by first | (simp; done) | (simp; omega) | omega)) | with_reducible refine Below.trans ?_ (Below.mono kb6 (by first | (simp; done) | (simp; omega) | omega))))
  go_wp2_with (fail)
  refine (sflows_any 1 _).mono ?_; rintro e w8 ⟨rfl, hb8⟩
  have hs7 := kb7.size
  have kb8 : Below w.heap.size w w8 := (by repeat (first | with_reducible refine Below.setCell ?_ (by first | (simp; done) | (simp; omega) | omega) _ | with_reducible refine Below.alloc ?_ (by first | (simp; done) | (simp; omega) | omega) _ | with_reducible refine Below.drew ?_ | with_reducible refine below_drewN ?_ _ | with_reducible exact Below.refl _ _ | with_reducible refine Below.trans ?_ (Below.mono hb8 (by first | (simp; done) | (simp; omega) | omega)) | with_reducible refine Below.trans ?_ (Below.mono kb7 (by first | (simp; done) | (simp; omega) | omega))))
  go_wp2
  go_ret
  exact ⟨rfl, kb8⟩
end Go.Proofs.Ytfihkkamedghkaa
