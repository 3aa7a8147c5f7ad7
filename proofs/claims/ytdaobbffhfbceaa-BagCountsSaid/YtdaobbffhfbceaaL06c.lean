/- Whatever the arguments: eddylaw06's BagCounts returns true. No conditions. -/
import Derived.Test.YtdaobbffhfbceaaBgW
import Derived.Test.YtdaobbffhfbceaaBgC
import Derived.Test.YtdaobbffhfbceaaLaw
import Derived.Test.YtdaobbffhfbceaaBgO
import Derived.ChangeMaps5
import Derived.Deep.CutRange
import Derived.Deep.Cut
import Derived.Deep.CutBlock
namespace Go.Proofs.Ytdaobbffhfbceaa
open Go.ChangeShapes Go.WideShapes Go.ChangeAt Go.RowKit Go.Joins Go.ChangeMaps Go.Deep
set_option linter.unusedVariables false
set_option linter.unusedSimpArgs false
set_option maxRecDepth 100000
/-- A state as the rounds of the law have it: the last number, how many calls there were. -/
structure CtI (k : Nat) (la : Int) (s : BS) : Prop where
  fit : FitS s
  last : la ≤ s.nx
  nx : s.nx ≤ 2 * k
  sv : s.sv.length ≤ k
set_option maxHeartbeats 4000000 in
theorem bagCounts_any (A : Option Addr) (n cp : Nat) (rs : List Ac) (w : World) (hr : RowsE encA 5 w w.heap.size A n rs) (hok : ∀ y ∈ rs, OkA y) (hm : n * 48 ≤ 140737488351232) :
    Calls Try.prog 3 #[.slice A n cp] w fun e w' => e = .returned (.bool true) ∧ Below w.heap.size w w' := by
  have HR := Lib.hid hr
  have HOK := Lib.hid hok
  clear hr hok
  go_enter Try.func3, Try.ntmps3
  go_wp2_with (fail)
  refine (new_any w).mono ?_; rintro e w1 ⟨rfl, hb1, kb1⟩
  obtain ⟨Bb, hBb⟩ : ∃ Bb, w.heap.size + 1 = Bb := ⟨_, rfl⟩
  obtain ⟨bm, hbm⟩ : ∃ bm, w.heap.size = bm := ⟨_, rfl⟩
  rw [hBb, hbm] at hb1
  rw [hBb]
  have lo1 : ∀ b ∈ foot Bb bm (.slice none 0 0), w.heap.size ≤ b := fun b hb => by simp [foot, Value.ownBlock] at hb; omega
  have HB1 := Lib.hid hb1
  have LO1 := Lib.hid lo1
  clear hb1 lo1 hBb hbm
  go_wp2
  go_loopg [4, 5, 6] n (fun gk s4 s5 s6 w' => ∃ (k : Nat) (s : BS) (lv : Value) (la : Int), gk + k = n ∧ s6 = .int .i64 k ∧ s4 = .int .i64 la ∧ s5 = .int .i64 s.ls.length ∧ Hid (BagAt w' Bb bm lv s) ∧ Hid (CtI k la s) ∧ Hid (∀ b ∈ foot Bb bm lv, w.heap.size ≤ b) ∧ Below w.heap.size w w')
  case atStart => exact ⟨0, BS0, _, 0, by omega, rfl, rfl, rfl, HB1, Lib.hid ⟨fitS0, by decide, by decide, by decide⟩, LO1, kb1⟩
  case round =>
    obtain ⟨k, s, lv, la, hk, rfl, rfl, rfl, HB, HC, LO, kbr⟩ := hrel
    clear HB1 LO1 kb1
    have hsr := kbr.size
    by_cases hlt : k < n
    rotate_left
    · obtain rfl : k = n := by omega
      go_wp2_with (fail)
      refine (awake_any _).mono ?_; rintro e w2 ⟨rfl, hb2⟩
      go_wp2
      go_ret
      exact ⟨rfl, (by repeat (first | with_reducible refine Below.setCell ?_ (by first | (simp; done) | (simp; omega) | omega) _ | with_reducible refine Below.alloc ?_ (by first | (simp; done) | (simp; omega) | omega) _ | with_reducible refine Below.drew ?_ | with_reducible refine below_drewN ?_ _ | with_reducible exact Below.refl _ _ | with_reducible refine Below.trans ?_ (Below.mono hb2 (by first | (simp; done) | (simp; omega) | omega)) | with_reducible refine Below.trans ?_ (Below.mono kbr (by first | (simp; done) | (simp; omega) | omega))))⟩
    · obtain ⟨ad, x, rfl, hab, hx, h5⟩ := HR.out.get hlt
      have hox := HOK.out x (List.mem_of_getElem? hx)
      obtain ⟨P, hP⟩ : ∃ P, ad.add (k * 5) = P := ⟨_, rfl⟩
      have hPb : P.block < w.heap.size := by rw [← hP, block_of_add]; exact hab
      rw [hP] at h5
      have hPw : P.block < wr.heap.size := by omega
      have c0 : wr.cell? P = some (.int .i64 x.kind) := (kbr.cell (p := P) hPb).trans (by have := h5 0 _ rfl; rwa [add_z P] at this)
      have c1 : wr.cell? ⟨P.block, P.off + 1, none⟩ = some (.int .i64 x.num) := (kbr.cell (p := ⟨P.block, P.off + 1, none⟩) hPb).trans (by have := h5 1 _ rfl; rwa [add_next P 0] at this)
      have c2 : wr.cell? ⟨P.block, P.off + 2, none⟩ = some (.int .i64 x.frm) := (kbr.cell (p := ⟨P.block, P.off + 2, none⟩) hPb).trans (by have := h5 2 _ rfl; rwa [add_next P 1] at this)
      have c3 : wr.cell? ⟨P.block, P.off + 3, none⟩ = some (.int .i64 x.dst) := (kbr.cell (p := ⟨P.block, P.off + 3, none⟩) hPb).trans (by have := h5 3 _ rfl; rwa [add_next P 2] at this)
      have c4 : wr.cell? ⟨P.block, P.off + 4, none⟩ = some (.string x.body) := (kbr.cell (p := ⟨P.block, P.off + 4, none⟩) hPb).trans (by have := h5 4 _ rfl; rwa [add_next P 3] at this)
      obtain ⟨kd, nm, fr, to1, bd⟩ := x
      obtain ⟨ok0, ok1, ok2, ok3⟩ := hox
      simp only [] at c0 c1 c2 c3 c4 ok0 ok1 ok2 ok3
      have OK2 := Lib.hid ok2
      have OK3 := Lib.hid ok3
      clear h5 hx ok0 ok1 ok2 ok3
      have hll := HB.out.ok.len
      have hfl := HB.out.lt
      obtain ⟨go, hgo⟩ : ∃ go, go = gk := ⟨_, rfl⟩
      subst hgo
      obtain ⟨wo, hwo⟩ : ∃ wo, wo = wr := ⟨_, rfl⟩
      subst hwo
      have ob0 : wo.heap.size ∉ foot Bb bm lv := fun h => by have := hfl _ h; omega
      have hbl := cell_lt HB.out.c0
      simp only [] at hbl
      clear hfl
      have HB0 := HB
      have LO0 := LO
      have kb0 := kbr
      clear HB LO
      go_upto_block 2 with (fail)
      go_cut [4, 5] from 30 to 179 (fun s4 s5 w' => ∃ (s' : BS) (lv' : Value) (la' : Int), s4 = .int .i64 la' ∧ s5 = .int .i64 s'.ls.length ∧ Hid (BagAt w' Bb bm lv' s') ∧ Hid (CtI (k + 1) la' s') ∧ Hid (∀ b ∈ foot Bb bm lv', w.heap.size ≤ b) ∧ Below w.heap.size w w')
      case first =>
        by_cases hk1 : kd = 1
        · as_aux_lemma =>
            subst hk1
            rcases put_cases s fr to1 bd with hpc | hpc
            · obtain ⟨e1, hp, he1⟩ := hpc
              have he1b : (e1 == 0) = false := by simpa using he1
              have HP := Lib.hid hp
              clear hp he1
              go_wp2_with (fail)
              have cc := put_any Bb bm lv s fr to1 bd (wo.alloc (Obj.cells #[.int .i64 1, .int .i64 nm, .int .i64 fr, .int .i64 to1, .string bd] 26)) (HB0.out.below (by repeat (first | with_reducible refine Below.setCell ?_ (by first | (simp; done) | (simp; omega) | omega) _ | with_reducible refine Below.alloc ?_ (by first | (simp; done) | (simp; omega) | omega) _ | with_reducible refine Below.drew ?_ | with_reducible refine below_drewN ?_ _ | with_reducible exact Below.refl _ _))) OK2.out OK3.out
              rw [HP.out] at cc
              refine cc.mono ?_; clear cc; rintro e w2 ⟨rfl, lv2, hb2, hm2, ht2⟩
              have kz2 := ht2.size
              have kb2 : Below w.heap.size w w2 := ((by repeat (first | with_reducible refine Below.setCell ?_ (by first | (simp; done) | (simp; omega) | omega) _ | with_reducible refine Below.alloc ?_ (by first | (simp; done) | (simp; omega) | omega) _ | with_reducible refine Below.drew ?_ | with_reducible refine below_drewN ?_ _ | with_reducible exact Below.refl _ _ | with_reducible refine Below.trans ?_ (Below.mono kb0 (by first | (simp; done) | (simp; omega) | omega)))) : Below w.heap.size w (wo.alloc (Obj.cells #[.int .i64 1, .int .i64 nm, .int .i64 fr, .int .i64 to1, .string bd] 26))).trans (ht2.to_below LO0.out (by first | omega | (simp; done) | (simp; omega)))
              have LO2 := Lib.hid (low_next (B := w.heap.size) hm2 (by first | omega | (simp; done) | (simp; omega)) LO0.out)
              have HB2 := Lib.hid hb2
              have a2_0 : w2.cell? ⟨wo.heap.size, 0, none⟩ = some (.int .i64 1) := ht2.cell (p := ⟨wo.heap.size, 0, none⟩) ob0 (by go_simp)
              have a2_1 : w2.cell? ⟨wo.heap.size, 1, none⟩ = some (.int .i64 nm) := ht2.cell (p := ⟨wo.heap.size, 1, none⟩) ob0 (by go_simp)
              have a2_2 : w2.cell? ⟨wo.heap.size, 2, none⟩ = some (.int .i64 fr) := ht2.cell (p := ⟨wo.heap.size, 2, none⟩) ob0 (by go_simp)
              have a2_3 : w2.cell? ⟨wo.heap.size, 3, none⟩ = some (.int .i64 to1) := ht2.cell (p := ⟨wo.heap.size, 3, none⟩) ob0 (by go_simp)
              have a2_4 : w2.cell? ⟨wo.heap.size, 4, none⟩ = some (.string bd) := ht2.cell (p := ⟨wo.heap.size, 4, none⟩) ob0 (by go_simp)
              have ob2 := out_next hm2 (b := wo.heap.size) (by first | omega | (simp; done) | (simp; omega)) ob0
              have az2 : wo.heap.size < w2.heap.size := cell_lt a2_0
              (try simp at kz2)
              clear hb2 hm2 ht2 HB0 LO0 ob0 
              go_wp2_with (fail)
              go_meet
              exact ⟨s, lv2, la, rfl, rfl, HB2, Lib.hid (⟨HC.out.fit, HC.out.last, by have := HC.out.nx; omega, by have := HC.out.sv; omega⟩), LO2, (by repeat (first | with_reducible refine Below.setCell ?_ (by first | (simp; done) | (simp; omega) | omega) _ | with_reducible refine Below.alloc ?_ (by first | (simp; done) | (simp; omega) | omega) _ | with_reducible refine Below.drew ?_ | with_reducible refine below_drewN ?_ _ | with_reducible exact Below.refl _ _ | with_reducible refine Below.trans ?_ (Below.mono kb2 (by first | (simp; done) | (simp; omega) | omega))))⟩
            · obtain ⟨hsv, hl2, hnl, hp⟩ := hpc
              have HP := Lib.hid hp
              have HSV := Lib.hid hsv
              have HL2 := Lib.hid hl2
              have hnx := HC.out.nx
              obtain ⟨N, hN⟩ : ∃ N, s.nx + 1 = N := ⟨_, rfl⟩
              have hlaN : la < N := by have := HC.out.last; omega
              have HN := Lib.hid hN
              clear hp hsv hnl hnx hl2
              rw [hN] at HP
              clear hN
              go_wp2_with (fail)
              have cc := put_any Bb bm lv s fr to1 bd (wo.alloc (Obj.cells #[.int .i64 1, .int .i64 nm, .int .i64 fr, .int .i64 to1, .string bd] 26)) (HB0.out.below (by repeat (first | with_reducible refine Below.setCell ?_ (by first | (simp; done) | (simp; omega) | omega) _ | with_reducible refine Below.alloc ?_ (by first | (simp; done) | (simp; omega) | omega) _ | with_reducible refine Below.drew ?_ | with_reducible refine below_drewN ?_ _ | with_reducible exact Below.refl _ _))) OK2.out OK3.out
              rw [HP.out] at cc
              refine cc.mono ?_; clear cc; rintro e w2 ⟨rfl, lv2, hb2, hm2, ht2⟩
              have kz2 := ht2.size
              have kb2 : Below w.heap.size w w2 := ((by repeat (first | with_reducible refine Below.setCell ?_ (by first | (simp; done) | (simp; omega) | omega) _ | with_reducible refine Below.alloc ?_ (by first | (simp; done) | (simp; omega) | omega) _ | with_reducible refine Below.drew ?_ | with_reducible refine below_drewN ?_ _ | with_reducible exact Below.refl _ _ | with_reducible refine Below.trans ?_ (Below.mono kb0 (by first | (simp; done) | (simp; omega) | omega)))) : Below w.heap.size w (wo.alloc (Obj.cells #[.int .i64 1, .int .i64 nm, .int .i64 fr, .int .i64 to1, .string bd] 26))).trans (ht2.to_below LO0.out (by first | omega | (simp; done) | (simp; omega)))
              have LO2 := Lib.hid (low_next (B := w.heap.size) hm2 (by first | omega | (simp; done) | (simp; omega)) LO0.out)
              have HB2 := Lib.hid hb2
              have a2_0 : w2.cell? ⟨wo.heap.size, 0, none⟩ = some (.int .i64 1) := ht2.cell (p := ⟨wo.heap.size, 0, none⟩) ob0 (by go_simp)
              have a2_1 : w2.cell? ⟨wo.heap.size, 1, none⟩ = some (.int .i64 nm) := ht2.cell (p := ⟨wo.heap.size, 1, none⟩) ob0 (by go_simp)
              have a2_2 : w2.cell? ⟨wo.heap.size, 2, none⟩ = some (.int .i64 fr) := ht2.cell (p := ⟨wo.heap.size, 2, none⟩) ob0 (by go_simp)
              have a2_3 : w2.cell? ⟨wo.heap.size, 3, none⟩ = some (.int .i64 to1) := ht2.cell (p := ⟨wo.heap.size, 3, none⟩) ob0 (by go_simp)
              have a2_4 : w2.cell? ⟨wo.heap.size, 4, none⟩ = some (.string bd) := ht2.cell (p := ⟨wo.heap.size, 4, none⟩) ob0 (by go_simp)
              have ob2 := out_next hm2 (b := wo.heap.size) (by first | omega | (simp; done) | (simp; omega)) ob0
              have az2 : wo.heap.size < w2.heap.size := cell_lt a2_0
              (try simp at kz2)
              clear hb2 hm2 ht2 HB0 LO0 ob0 
              go_wp2_with (fail)
              go_meet
              exact ⟨⟨N, s.ls ++ [⟨N, fr, to1, bd⟩], s.sv⟩, lv2, N, rfl, by simp, HB2, Lib.hid (by have h1 := putS_fit (a := fr) (b := to1) (t := bd) HC.out.fit; rw [HP.out] at h1; exact ⟨h1, Int.le_refl _, by have h2 := HC.out.nx; have h3 := HN.out; show N ≤ _; omega, by have := HC.out.sv; show s.sv.length ≤ _; omega⟩), LO2, (by repeat (first | with_reducible refine Below.setCell ?_ (by first | (simp; done) | (simp; omega) | omega) _ | with_reducible refine Below.alloc ?_ (by first | (simp; done) | (simp; omega) | omega) _ | with_reducible refine Below.drew ?_ | with_reducible refine below_drewN ?_ _ | with_reducible exact Below.refl _ _ | with_reducible refine Below.trans ?_ (Below.mono kb2 (by first | (simp; done) | (simp; omega) | omega))))⟩
        have hkb1 : (kd == 1) = false := by simpa using hk1
        clear hk1
        by_cases hk3 : kd = 3
        · as_aux_lemma =>
            subst hk3
            rcases put_cases s fr to1 bd with hpc | hpc
            · obtain ⟨e1, hp, he1⟩ := hpc
              have he1b : (e1 == 0) = false := by simpa using he1
              have HP := Lib.hid hp
              clear hp he1
              have hdz := doub_zero HC.out.fit
              have HDZ := Lib.hid hdz
              clear hdz
              go_wp2_with (fail)
              have cc := put_any Bb bm lv s fr to1 bd (wo.alloc (Obj.cells #[.int .i64 3, .int .i64 nm, .int .i64 fr, .int .i64 to1, .string bd] 26)) (HB0.out.below (by repeat (first | with_reducible refine Below.setCell ?_ (by first | (simp; done) | (simp; omega) | omega) _ | with_reducible refine Below.alloc ?_ (by first | (simp; done) | (simp; omega) | omega) _ | with_reducible refine Below.drew ?_ | with_reducible refine below_drewN ?_ _ | with_reducible exact Below.refl _ _))) OK2.out OK3.out
              rw [HP.out] at cc
              refine cc.mono ?_; clear cc; rintro e w2 ⟨rfl, lv2, hb2, hm2, ht2⟩
              have kz2 := ht2.size
              have kb2 : Below w.heap.size w w2 := ((by repeat (first | with_reducible refine Below.setCell ?_ (by first | (simp; done) | (simp; omega) | omega) _ | with_reducible refine Below.alloc ?_ (by first | (simp; done) | (simp; omega) | omega) _ | with_reducible refine Below.drew ?_ | with_reducible refine below_drewN ?_ _ | with_reducible exact Below.refl _ _ | with_reducible refine Below.trans ?_ (Below.mono kb0 (by first | (simp; done) | (simp; omega) | omega)))) : Below w.heap.size w (wo.alloc (Obj.cells #[.int .i64 3, .int .i64 nm, .int .i64 fr, .int .i64 to1, .string bd] 26))).trans (ht2.to_below LO0.out (by first | omega | (simp; done) | (simp; omega)))
              have LO2 := Lib.hid (low_next (B := w.heap.size) hm2 (by first | omega | (simp; done) | (simp; omega)) LO0.out)
              have HB2 := Lib.hid hb2
              have a2_0 : w2.cell? ⟨wo.heap.size, 0, none⟩ = some (.int .i64 3) := ht2.cell (p := ⟨wo.heap.size, 0, none⟩) ob0 (by go_simp)
              have a2_1 : w2.cell? ⟨wo.heap.size, 1, none⟩ = some (.int .i64 nm) := ht2.cell (p := ⟨wo.heap.size, 1, none⟩) ob0 (by go_simp)
              have a2_2 : w2.cell? ⟨wo.heap.size, 2, none⟩ = some (.int .i64 fr) := ht2.cell (p := ⟨wo.heap.size, 2, none⟩) ob0 (by go_simp)
              have a2_3 : w2.cell? ⟨wo.heap.size, 3, none⟩ = some (.int .i64 to1) := ht2.cell (p := ⟨wo.heap.size, 3, none⟩) ob0 (by go_simp)
              have a2_4 : w2.cell? ⟨wo.heap.size, 4, none⟩ = some (.string bd) := ht2.cell (p := ⟨wo.heap.size, 4, none⟩) ob0 (by go_simp)
              have ob2 := out_next hm2 (b := wo.heap.size) (by first | omega | (simp; done) | (simp; omega)) ob0
              have az2 : wo.heap.size < w2.heap.size := cell_lt a2_0
              (try simp at kz2)
              clear hb2 hm2 ht2 HB0 LO0 ob0 
              go_wp2_with (fail)
              have cc := double_any Bb bm lv2 s 0 w2 HB2.out
              rw [HDZ.out] at cc
              refine cc.mono ?_; clear cc; rintro e w3 ⟨rfl, lv3, hb3, hm3, ht3⟩
              have kz3 := ht3.size
              have kb3 : Below w.heap.size w w3 := ((by repeat (first | with_reducible refine Below.setCell ?_ (by first | (simp; done) | (simp; omega) | omega) _ | with_reducible refine Below.alloc ?_ (by first | (simp; done) | (simp; omega) | omega) _ | with_reducible refine Below.drew ?_ | with_reducible refine below_drewN ?_ _ | with_reducible exact Below.refl _ _ | with_reducible refine Below.trans ?_ (Below.mono kb2 (by first | (simp; done) | (simp; omega) | omega)))) : Below w.heap.size w (w2)).trans (ht3.to_below LO2.out (by first | omega | (simp; done) | (simp; omega)))
              have LO3 := Lib.hid (low_next (B := w.heap.size) hm3 (by first | omega | (simp; done) | (simp; omega)) LO2.out)
              have HB3 := Lib.hid hb3
              have a3_0 : w3.cell? ⟨wo.heap.size, 0, none⟩ = some (.int .i64 3) := ht3.cell (p := ⟨wo.heap.size, 0, none⟩) ob2 (by go_simp)
              have a3_1 : w3.cell? ⟨wo.heap.size, 1, none⟩ = some (.int .i64 nm) := ht3.cell (p := ⟨wo.heap.size, 1, none⟩) ob2 (by go_simp)
              have a3_2 : w3.cell? ⟨wo.heap.size, 2, none⟩ = some (.int .i64 fr) := ht3.cell (p := ⟨wo.heap.size, 2, none⟩) ob2 (by go_simp)
              have a3_3 : w3.cell? ⟨wo.heap.size, 3, none⟩ = some (.int .i64 to1) := ht3.cell (p := ⟨wo.heap.size, 3, none⟩) ob2 (by go_simp)
              have a3_4 : w3.cell? ⟨wo.heap.size, 4, none⟩ = some (.string bd) := ht3.cell (p := ⟨wo.heap.size, 4, none⟩) ob2 (by go_simp)
              have ob3 := out_next hm3 (b := wo.heap.size) (by first | omega | (simp; done) | (simp; omega)) ob2
              have az3 : wo.heap.size < w3.heap.size := cell_lt a3_0
              (try simp at kz3)
              clear hb3 hm3 ht3 HB2 LO2 ob2 a2_0 a2_1 a2_2 a2_3 a2_4
              go_wp2_with (fail)
              go_meet
              exact ⟨s, lv3, la, rfl, rfl, HB3, Lib.hid (⟨HC.out.fit, HC.out.last, by have := HC.out.nx; omega, by have := HC.out.sv; omega⟩), LO3, (by repeat (first | with_reducible refine Below.setCell ?_ (by first | (simp; done) | (simp; omega) | omega) _ | with_reducible refine Below.alloc ?_ (by first | (simp; done) | (simp; omega) | omega) _ | with_reducible refine Below.drew ?_ | with_reducible refine below_drewN ?_ _ | with_reducible exact Below.refl _ _ | with_reducible refine Below.trans ?_ (Below.mono kb3 (by first | (simp; done) | (simp; omega) | omega))))⟩
            · obtain ⟨hsv, hl2, hnl, hp⟩ := hpc
              have HP := Lib.hid hp
              have HSV := Lib.hid hsv
              have HL2 := Lib.hid hl2
              have hnx := HC.out.nx
              obtain ⟨N, hN⟩ : ∃ N, s.nx + 1 = N := ⟨_, rfl⟩
              have hlaN : la < N := by have := HC.out.last; omega
              have HN := Lib.hid hN
              clear hp hsv hnl hnx hl2
              rw [hN] at HP
              clear hN
              have hdl : (65536 ≤ s.ls.length + 1 ∧ doubS ⟨N, s.ls ++ [⟨N, fr, to1, bd⟩], s.sv⟩ N = (⟨N, s.ls ++ [⟨N, fr, to1, bd⟩], s.sv⟩, 0, 30)) ∨ (s.ls.length + 1 < 65536 ∧ doubS ⟨N, s.ls ++ [⟨N, fr, to1, bd⟩], s.sv⟩ N = (⟨N + 1, (s.ls ++ [⟨N, fr, to1, bd⟩]) ++ [⟨N + 1, fr, to1, bd⟩], s.sv⟩, N + 1, 0)) := by
                have h := doub_last (a := fr) (b := to1) (t := bd) HC.out.fit HSV.out (by have h1 := HN.out; have h2 := HC.out.nx; omega)
                rw [HN.out] at h
                exact h
              obtain ⟨SN, hSN⟩ : ∃ SN : BS, SN = ⟨N, s.ls ++ [⟨N, fr, to1, bd⟩], s.sv⟩ := ⟨_, rfl⟩
              have hSL : SN.ls.length = s.ls.length + 1 := by rw [hSN]; simp
              have HSN := Lib.hid hSN
              rw [← hSN] at HP hdl
              clear hSN
              go_wp2_with (fail)
              have cc := put_any Bb bm lv s fr to1 bd (wo.alloc (Obj.cells #[.int .i64 3, .int .i64 nm, .int .i64 fr, .int .i64 to1, .string bd] 26)) (HB0.out.below (by repeat (first | with_reducible refine Below.setCell ?_ (by first | (simp; done) | (simp; omega) | omega) _ | with_reducible refine Below.alloc ?_ (by first | (simp; done) | (simp; omega) | omega) _ | with_reducible refine Below.drew ?_ | with_reducible refine below_drewN ?_ _ | with_reducible exact Below.refl _ _))) OK2.out OK3.out
              rw [HP.out] at cc
              refine cc.mono ?_; clear cc; rintro e w2 ⟨rfl, lv2, hb2, hm2, ht2⟩
              have kz2 := ht2.size
              have kb2 : Below w.heap.size w w2 := ((by repeat (first | with_reducible refine Below.setCell ?_ (by first | (simp; done) | (simp; omega) | omega) _ | with_reducible refine Below.alloc ?_ (by first | (simp; done) | (simp; omega) | omega) _ | with_reducible refine Below.drew ?_ | with_reducible refine below_drewN ?_ _ | with_reducible exact Below.refl _ _ | with_reducible refine Below.trans ?_ (Below.mono kb0 (by first | (simp; done) | (simp; omega) | omega)))) : Below w.heap.size w (wo.alloc (Obj.cells #[.int .i64 3, .int .i64 nm, .int .i64 fr, .int .i64 to1, .string bd] 26))).trans (ht2.to_below LO0.out (by first | omega | (simp; done) | (simp; omega)))
              have LO2 := Lib.hid (low_next (B := w.heap.size) hm2 (by first | omega | (simp; done) | (simp; omega)) LO0.out)
              have HB2 := Lib.hid hb2
              have a2_0 : w2.cell? ⟨wo.heap.size, 0, none⟩ = some (.int .i64 3) := ht2.cell (p := ⟨wo.heap.size, 0, none⟩) ob0 (by go_simp)
              have a2_1 : w2.cell? ⟨wo.heap.size, 1, none⟩ = some (.int .i64 nm) := ht2.cell (p := ⟨wo.heap.size, 1, none⟩) ob0 (by go_simp)
              have a2_2 : w2.cell? ⟨wo.heap.size, 2, none⟩ = some (.int .i64 fr) := ht2.cell (p := ⟨wo.heap.size, 2, none⟩) ob0 (by go_simp)
              have a2_3 : w2.cell? ⟨wo.heap.size, 3, none⟩ = some (.int .i64 to1) := ht2.cell (p := ⟨wo.heap.size, 3, none⟩) ob0 (by go_simp)
              have a2_4 : w2.cell? ⟨wo.heap.size, 4, none⟩ = some (.string bd) := ht2.cell (p := ⟨wo.heap.size, 4, none⟩) ob0 (by go_simp)
              have ob2 := out_next hm2 (b := wo.heap.size) (by first | omega | (simp; done) | (simp; omega)) ob0
              have az2 : wo.heap.size < w2.heap.size := cell_lt a2_0
              (try simp at kz2)
              clear hb2 hm2 ht2 HB0 LO0 ob0 
              rcases hdl with hdb | hdb
              · obtain ⟨hl3, hd⟩ := hdb
                have HD := Lib.hid hd
                clear hd
                obtain ⟨L, hL⟩ : ∃ L, SN.ls.length = L := ⟨_, rfl⟩
                have hL2 : s.ls.length + 1 = L := by rw [← hL, hSL]
                have hdf : decide ((65536 : Int) ≤ (L : Int)) = true := by simp; omega
                have hL3 : (s.ls.length : Int) + 1 = L := by omega
                clear hl3 hSL
                go_wp2_with (fail)
                have cc := double_any Bb bm lv2 SN N w2 HB2.out
                rw [HD.out] at cc
                refine cc.mono ?_; clear cc; rintro e w3 ⟨rfl, lv3, hb3, hm3, ht3⟩
                have kz3 := ht3.size
                have kb3 : Below w.heap.size w w3 := ((by repeat (first | with_reducible refine Below.setCell ?_ (by first | (simp; done) | (simp; omega) | omega) _ | with_reducible refine Below.alloc ?_ (by first | (simp; done) | (simp; omega) | omega) _ | with_reducible refine Below.drew ?_ | with_reducible refine below_drewN ?_ _ | with_reducible exact Below.refl _ _ | with_reducible refine Below.trans ?_ (Below.mono kb2 (by first | (simp; done) | (simp; omega) | omega)))) : Below w.heap.size w (w2)).trans (ht3.to_below LO2.out (by first | omega | (simp; done) | (simp; omega)))
                have LO3 := Lib.hid (low_next (B := w.heap.size) hm3 (by first | omega | (simp; done) | (simp; omega)) LO2.out)
                have HB3 := Lib.hid hb3
                have a3_0 : w3.cell? ⟨wo.heap.size, 0, none⟩ = some (.int .i64 3) := ht3.cell (p := ⟨wo.heap.size, 0, none⟩) ob2 (by go_simp)
                have a3_1 : w3.cell? ⟨wo.heap.size, 1, none⟩ = some (.int .i64 nm) := ht3.cell (p := ⟨wo.heap.size, 1, none⟩) ob2 (by go_simp)
                have a3_2 : w3.cell? ⟨wo.heap.size, 2, none⟩ = some (.int .i64 fr) := ht3.cell (p := ⟨wo.heap.size, 2, none⟩) ob2 (by go_simp)
                have a3_3 : w3.cell? ⟨wo.heap.size, 3, none⟩ = some (.int .i64 to1) := ht3.cell (p := ⟨wo.heap.size, 3, none⟩) ob2 (by go_simp)
                have a3_4 : w3.cell? ⟨wo.heap.size, 4, none⟩ = some (.string bd) := ht3.cell (p := ⟨wo.heap.size, 4, none⟩) ob2 (by go_simp)
                have ob3 := out_next hm3 (b := wo.heap.size) (by first | omega | (simp; done) | (simp; omega)) ob2
                have az3 : wo.heap.size < w3.heap.size := cell_lt a3_0
                (try simp at kz3)
                clear hb3 hm3 ht3 HB2 LO2 ob2 a2_0 a2_1 a2_2 a2_3 a2_4
                go_wp2_with (fail)
                refine (len_any Bb bm lv3 SN w3 HB3.out).mono ?_; rintro e w4 ⟨rfl, rfl⟩
                rw [hL]
                go_wp2_with (fail)
                go_meet
                exact ⟨SN, lv3, N, rfl, by rw [hL], HB3, Lib.hid (⟨(by have h1 := putS_fit (a := fr) (b := to1) (t := bd) HC.out.fit; rw [HP.out] at h1; exact h1), by rw [HSN.out]; exact Int.le_refl _, by have h2 := HC.out.nx; have h3 := HN.out; rw [HSN.out]; show N ≤ _; omega, by rw [HSN.out]; have := HC.out.sv; show s.sv.length ≤ _; omega⟩), LO3, (by repeat (first | with_reducible refine Below.setCell ?_ (by first | (simp; done) | (simp; omega) | omega) _ | with_reducible refine Below.alloc ?_ (by first | (simp; done) | (simp; omega) | omega) _ | with_reducible refine Below.drew ?_ | with_reducible refine below_drewN ?_ _ | with_reducible exact Below.refl _ _ | with_reducible refine Below.trans ?_ (Below.mono kb3 (by first | (simp; done) | (simp; omega) | omega))))⟩
              · obtain ⟨hl3, hd⟩ := hdb
                have HD := Lib.hid hd
                clear hd
                obtain ⟨M, hM⟩ : ∃ M, N + 1 = M := ⟨_, rfl⟩
                have hMw : wrap64 (N + 1) = M := by rw [← hM]; have h1 := HN.out; have h2 := HC.out.nx; have h0 := HC.out.fit.nx0; unfold wrap64; omega
                have hlaM : la < M := by omega
                obtain ⟨S2, hS2⟩ : ∃ S2 : BS, S2 = ⟨N + 1, (s.ls ++ [⟨N, fr, to1, bd⟩]) ++ [⟨N + 1, fr, to1, bd⟩], s.sv⟩ := ⟨_, rfl⟩
                have hS2L : S2.ls.length = s.ls.length + 1 + 1 := by rw [hS2]; simp
                have HS2 := Lib.hid hS2
                rw [← hS2, hM] at HD
                have HM := Lib.hid hM
                clear hS2 hM
                clear hl3 hSL
                go_wp2_with (fail)
                have cc := double_any Bb bm lv2 SN N w2 HB2.out
                rw [HD.out] at cc
                refine cc.mono ?_; clear cc; rintro e w3 ⟨rfl, lv3, hb3, hm3, ht3⟩
                have kz3 := ht3.size
                have kb3 : Below w.heap.size w w3 := ((by repeat (first | with_reducible refine Below.setCell ?_ (by first | (simp; done) | (simp; omega) | omega) _ | with_reducible refine Below.alloc ?_ (by first | (simp; done) | (simp; omega) | omega) _ | with_reducible refine Below.drew ?_ | with_reducible refine below_drewN ?_ _ | with_reducible exact Below.refl _ _ | with_reducible refine Below.trans ?_ (Below.mono kb2 (by first | (simp; done) | (simp; omega) | omega)))) : Below w.heap.size w (w2)).trans (ht3.to_below LO2.out (by first | omega | (simp; done) | (simp; omega)))
                have LO3 := Lib.hid (low_next (B := w.heap.size) hm3 (by first | omega | (simp; done) | (simp; omega)) LO2.out)
                have HB3 := Lib.hid hb3
                have a3_0 : w3.cell? ⟨wo.heap.size, 0, none⟩ = some (.int .i64 3) := ht3.cell (p := ⟨wo.heap.size, 0, none⟩) ob2 (by go_simp)
                have a3_1 : w3.cell? ⟨wo.heap.size, 1, none⟩ = some (.int .i64 nm) := ht3.cell (p := ⟨wo.heap.size, 1, none⟩) ob2 (by go_simp)
                have a3_2 : w3.cell? ⟨wo.heap.size, 2, none⟩ = some (.int .i64 fr) := ht3.cell (p := ⟨wo.heap.size, 2, none⟩) ob2 (by go_simp)
                have a3_3 : w3.cell? ⟨wo.heap.size, 3, none⟩ = some (.int .i64 to1) := ht3.cell (p := ⟨wo.heap.size, 3, none⟩) ob2 (by go_simp)
                have a3_4 : w3.cell? ⟨wo.heap.size, 4, none⟩ = some (.string bd) := ht3.cell (p := ⟨wo.heap.size, 4, none⟩) ob2 (by go_simp)
                have ob3 := out_next hm3 (b := wo.heap.size) (by first | omega | (simp; done) | (simp; omega)) ob2
                have az3 : wo.heap.size < w3.heap.size := cell_lt a3_0
                (try simp at kz3)
                clear hb3 hm3 ht3 HB2 LO2 ob2 a2_0 a2_1 a2_2 a2_3 a2_4
                go_wp2_with (fail)
                go_meet
                exact ⟨S2, lv3, M, rfl, by rw [hS2L]; simp, HB3, Lib.hid (by have h1 := doubS_fit (k := N) (by have h1 := putS_fit (a := fr) (b := to1) (t := bd) HC.out.fit; rw [HP.out] at h1; exact h1); rw [HD.out] at h1; exact ⟨h1, by rw [HS2.out, ← HM.out]; exact Int.le_refl _, by have h2 := HC.out.nx; have h3 := HN.out; rw [HS2.out]; show N + 1 ≤ _; omega, by rw [HS2.out]; have := HC.out.sv; show s.sv.length ≤ _; omega⟩), LO3, (by repeat (first | with_reducible refine Below.setCell ?_ (by first | (simp; done) | (simp; omega) | omega) _ | with_reducible refine Below.alloc ?_ (by first | (simp; done) | (simp; omega) | omega) _ | with_reducible refine Below.drew ?_ | with_reducible refine below_drewN ?_ _ | with_reducible exact Below.refl _ _ | with_reducible refine Below.trans ?_ (Below.mono kb3 (by first | (simp; done) | (simp; omega) | omega))))⟩
        have hkb3 : (kd == 3) = false := by simpa using hk3
        clear hk3
        by_cases hk2 : kd = 2
        · as_aux_lemma =>
            subst hk2
            rcases take_cases s nm with hpc | ⟨i, ⟨dn, da, db, dt⟩, hd, hk, hp⟩
            · have HP := Lib.hid hpc
              clear hpc
              go_wp2_with (fail)
              have cc := take_any Bb bm lv s nm (wo.alloc (Obj.cells #[.int .i64 2, .int .i64 nm, .int .i64 fr, .int .i64 to1, .string bd] 26)) (HB0.out.below (by repeat (first | with_reducible refine Below.setCell ?_ (by first | (simp; done) | (simp; omega) | omega) _ | with_reducible refine Below.alloc ?_ (by first | (simp; done) | (simp; omega) | omega) _ | with_reducible refine Below.drew ?_ | with_reducible refine below_drewN ?_ _ | with_reducible exact Below.refl _ _)))
              rw [HP.out] at cc
              refine cc.mono ?_; clear cc; rintro e w2 ⟨rfl, lv2, hb2, hm2, ht2⟩
              have kz2 := ht2.size
              have kb2 : Below w.heap.size w w2 := ((by repeat (first | with_reducible refine Below.setCell ?_ (by first | (simp; done) | (simp; omega) | omega) _ | with_reducible refine Below.alloc ?_ (by first | (simp; done) | (simp; omega) | omega) _ | with_reducible refine Below.drew ?_ | with_reducible refine below_drewN ?_ _ | with_reducible exact Below.refl _ _ | with_reducible refine Below.trans ?_ (Below.mono kb0 (by first | (simp; done) | (simp; omega) | omega)))) : Below w.heap.size w (wo.alloc (Obj.cells #[.int .i64 2, .int .i64 nm, .int .i64 fr, .int .i64 to1, .string bd] 26))).trans (ht2.to_below LO0.out (by first | omega | (simp; done) | (simp; omega)))
              have LO2 := Lib.hid (low_next (B := w.heap.size) hm2 (by first | omega | (simp; done) | (simp; omega)) LO0.out)
              have HB2 := Lib.hid hb2
              have a2_0 : w2.cell? ⟨wo.heap.size, 0, none⟩ = some (.int .i64 2) := ht2.cell (p := ⟨wo.heap.size, 0, none⟩) ob0 (by go_simp)
              have a2_1 : w2.cell? ⟨wo.heap.size, 1, none⟩ = some (.int .i64 nm) := ht2.cell (p := ⟨wo.heap.size, 1, none⟩) ob0 (by go_simp)
              have a2_2 : w2.cell? ⟨wo.heap.size, 2, none⟩ = some (.int .i64 fr) := ht2.cell (p := ⟨wo.heap.size, 2, none⟩) ob0 (by go_simp)
              have a2_3 : w2.cell? ⟨wo.heap.size, 3, none⟩ = some (.int .i64 to1) := ht2.cell (p := ⟨wo.heap.size, 3, none⟩) ob0 (by go_simp)
              have a2_4 : w2.cell? ⟨wo.heap.size, 4, none⟩ = some (.string bd) := ht2.cell (p := ⟨wo.heap.size, 4, none⟩) ob0 (by go_simp)
              have ob2 := out_next hm2 (b := wo.heap.size) (by first | omega | (simp; done) | (simp; omega)) ob0
              have az2 : wo.heap.size < w2.heap.size := cell_lt a2_0
              (try simp at kz2)
              clear hb2 hm2 ht2 HB0 LO0 ob0 
              go_wp2_with (fail)
              go_meet
              exact ⟨s, lv2, la, rfl, rfl, Lib.hid (HB2.out.below (by repeat (first | with_reducible refine Below.setCell ?_ (by first | (simp; done) | (simp; omega) | omega) _ | with_reducible refine Below.alloc ?_ (by first | (simp; done) | (simp; omega) | omega) _ | with_reducible refine Below.drew ?_ | with_reducible refine below_drewN ?_ _ | with_reducible exact Below.refl _ _))), Lib.hid (⟨HC.out.fit, HC.out.last, by have := HC.out.nx; omega, by have := HC.out.sv; omega⟩), LO2, (by repeat (first | with_reducible refine Below.setCell ?_ (by first | (simp; done) | (simp; omega) | omega) _ | with_reducible refine Below.alloc ?_ (by first | (simp; done) | (simp; omega) | omega) _ | with_reducible refine Below.drew ?_ | with_reducible refine below_drewN ?_ _ | with_reducible exact Below.refl _ _ | with_reducible refine Below.trans ?_ (Below.mono kb2 (by first | (simp; done) | (simp; omega) | omega))))⟩
            · simp only [] at hk
              subst hk
              have hta := take_again HC.out.fit hd
              simp only [] at hta
              have hle : ((s.ls.eraseIdx i).length : Int) = (s.ls.length : Int) - 1 := by
                have hi := (List.getElem?_eq_some_iff.1 hd).1
                rw [List.length_eraseIdx_of_lt hi]
                omega
              have HTA := Lib.hid hta
              have HP := Lib.hid hp
              clear hta hp hd
              obtain ⟨S2, hS2⟩ : ∃ S2 : BS, S2 = ⟨s.nx, s.ls.eraseIdx i, s.sv⟩ := ⟨_, rfl⟩
              have hS2L : (S2.ls.length : Int) = (s.ls.length : Int) - 1 := by rw [hS2]; exact hle
              have HS2 := Lib.hid hS2
              rw [← hS2] at HTA HP
              clear hS2 hle
              go_wp2_with (fail)
              have cc := take_any Bb bm lv s dn (wo.alloc (Obj.cells #[.int .i64 2, .int .i64 dn, .int .i64 fr, .int .i64 to1, .string bd] 26)) (HB0.out.below (by repeat (first | with_reducible refine Below.setCell ?_ (by first | (simp; done) | (simp; omega) | omega) _ | with_reducible refine Below.alloc ?_ (by first | (simp; done) | (simp; omega) | omega) _ | with_reducible refine Below.drew ?_ | with_reducible refine below_drewN ?_ _ | with_reducible exact Below.refl _ _)))
              rw [HP.out] at cc
              refine cc.mono ?_; clear cc; rintro e w2 ⟨rfl, lv2, hb2, hm2, ht2⟩
              have kz2 := ht2.size
              have kb2 : Below w.heap.size w w2 := ((by repeat (first | with_reducible refine Below.setCell ?_ (by first | (simp; done) | (simp; omega) | omega) _ | with_reducible refine Below.alloc ?_ (by first | (simp; done) | (simp; omega) | omega) _ | with_reducible refine Below.drew ?_ | with_reducible refine below_drewN ?_ _ | with_reducible exact Below.refl _ _ | with_reducible refine Below.trans ?_ (Below.mono kb0 (by first | (simp; done) | (simp; omega) | omega)))) : Below w.heap.size w (wo.alloc (Obj.cells #[.int .i64 2, .int .i64 dn, .int .i64 fr, .int .i64 to1, .string bd] 26))).trans (ht2.to_below LO0.out (by first | omega | (simp; done) | (simp; omega)))
              have LO2 := Lib.hid (low_next (B := w.heap.size) hm2 (by first | omega | (simp; done) | (simp; omega)) LO0.out)
              have HB2 := Lib.hid hb2
              have a2_0 : w2.cell? ⟨wo.heap.size, 0, none⟩ = some (.int .i64 2) := ht2.cell (p := ⟨wo.heap.size, 0, none⟩) ob0 (by go_simp)
              have a2_1 : w2.cell? ⟨wo.heap.size, 1, none⟩ = some (.int .i64 dn) := ht2.cell (p := ⟨wo.heap.size, 1, none⟩) ob0 (by go_simp)
              have a2_2 : w2.cell? ⟨wo.heap.size, 2, none⟩ = some (.int .i64 fr) := ht2.cell (p := ⟨wo.heap.size, 2, none⟩) ob0 (by go_simp)
              have a2_3 : w2.cell? ⟨wo.heap.size, 3, none⟩ = some (.int .i64 to1) := ht2.cell (p := ⟨wo.heap.size, 3, none⟩) ob0 (by go_simp)
              have a2_4 : w2.cell? ⟨wo.heap.size, 4, none⟩ = some (.string bd) := ht2.cell (p := ⟨wo.heap.size, 4, none⟩) ob0 (by go_simp)
              have ob2 := out_next hm2 (b := wo.heap.size) (by first | omega | (simp; done) | (simp; omega)) ob0
              have az2 : wo.heap.size < w2.heap.size := cell_lt a2_0
              (try simp at kz2)
              clear hb2 hm2 ht2 HB0 LO0 ob0 
              go_wp2_with (fail)
              have cc := take_any Bb bm lv2 S2 dn (w2.alloc (Obj.cells #[.int .i64 dn, .int .i64 da, .int .i64 db, .string dt] 33)) (HB2.out.below (by repeat (first | with_reducible refine Below.setCell ?_ (by first | (simp; done) | (simp; omega) | omega) _ | with_reducible refine Below.alloc ?_ (by first | (simp; done) | (simp; omega) | omega) _ | with_reducible refine Below.drew ?_ | with_reducible refine below_drewN ?_ _ | with_reducible exact Below.refl _ _)))
              rw [HTA.out] at cc
              refine cc.mono ?_; clear cc; rintro e w3 ⟨rfl, lv3, hb3, hm3, ht3⟩
              have kz3 := ht3.size
              have kb3 : Below w.heap.size w w3 := ((by repeat (first | with_reducible refine Below.setCell ?_ (by first | (simp; done) | (simp; omega) | omega) _ | with_reducible refine Below.alloc ?_ (by first | (simp; done) | (simp; omega) | omega) _ | with_reducible refine Below.drew ?_ | with_reducible refine below_drewN ?_ _ | with_reducible exact Below.refl _ _ | with_reducible refine Below.trans ?_ (Below.mono kb2 (by first | (simp; done) | (simp; omega) | omega)))) : Below w.heap.size w (w2.alloc (Obj.cells #[.int .i64 dn, .int .i64 da, .int .i64 db, .string dt] 33))).trans (ht3.to_below LO2.out (by first | omega | (simp; done) | (simp; omega)))
              have LO3 := Lib.hid (low_next (B := w.heap.size) hm3 (by first | omega | (simp; done) | (simp; omega)) LO2.out)
              have HB3 := Lib.hid hb3
              have a3_0 : w3.cell? ⟨wo.heap.size, 0, none⟩ = some (.int .i64 2) := ht3.cell (p := ⟨wo.heap.size, 0, none⟩) ob2 (by go_simp)
              have a3_1 : w3.cell? ⟨wo.heap.size, 1, none⟩ = some (.int .i64 dn) := ht3.cell (p := ⟨wo.heap.size, 1, none⟩) ob2 (by go_simp)
              have a3_2 : w3.cell? ⟨wo.heap.size, 2, none⟩ = some (.int .i64 fr) := ht3.cell (p := ⟨wo.heap.size, 2, none⟩) ob2 (by go_simp)
              have a3_3 : w3.cell? ⟨wo.heap.size, 3, none⟩ = some (.int .i64 to1) := ht3.cell (p := ⟨wo.heap.size, 3, none⟩) ob2 (by go_simp)
              have a3_4 : w3.cell? ⟨wo.heap.size, 4, none⟩ = some (.string bd) := ht3.cell (p := ⟨wo.heap.size, 4, none⟩) ob2 (by go_simp)
              have ob3 := out_next hm3 (b := wo.heap.size) (by first | omega | (simp; done) | (simp; omega)) ob2
              have az3 : wo.heap.size < w3.heap.size := cell_lt a3_0
              (try simp at kz3)
              clear hb3 hm3 ht3 HB2 LO2 ob2 a2_0 a2_1 a2_2 a2_3 a2_4
              go_wp2_with (fail)
              go_meet
              exact ⟨S2, lv3, la, rfl, by rw [hS2L], Lib.hid (HB3.out.below (by repeat (first | with_reducible refine Below.setCell ?_ (by first | (simp; done) | (simp; omega) | omega) _ | with_reducible refine Below.alloc ?_ (by first | (simp; done) | (simp; omega) | omega) _ | with_reducible refine Below.drew ?_ | with_reducible refine below_drewN ?_ _ | with_reducible exact Below.refl _ _))), Lib.hid ((by have h1 := takeS_fit (k := dn) HC.out.fit; rw [HP.out] at h1; exact ⟨h1, by rw [HS2.out]; exact HC.out.last, by rw [HS2.out]; have := HC.out.nx; show s.nx ≤ _; omega, by rw [HS2.out]; have := HC.out.sv; show s.sv.length ≤ _; omega⟩)), LO3, (by repeat (first | with_reducible refine Below.setCell ?_ (by first | (simp; done) | (simp; omega) | omega) _ | with_reducible refine Below.alloc ?_ (by first | (simp; done) | (simp; omega) | omega) _ | with_reducible refine Below.drew ?_ | with_reducible refine below_drewN ?_ _ | with_reducible exact Below.refl _ _ | with_reducible refine Below.trans ?_ (Below.mono kb3 (by first | (simp; done) | (simp; omega) | omega))))⟩
        have hkb2 : (kd == 2) = false := by simpa using hk2
        clear hk2
        by_cases hk5 : kd = 5
        · as_aux_lemma =>
            subst hk5
            by_cases hne : fr = to1
            · obtain rfl := hne
              go_wp2_with (fail)
              refine (sever_same Bb fr (wo.alloc (Obj.cells #[.int .i64 5, .int .i64 nm, .int .i64 fr, .int .i64 fr, .string bd] 26)) ((HB0.out.below (by repeat (first | with_reducible refine Below.setCell ?_ (by first | (simp; done) | (simp; omega) | omega) _ | with_reducible refine Below.alloc ?_ (by first | (simp; done) | (simp; omega) | omega) _ | with_reducible refine Below.drew ?_ | with_reducible refine below_drewN ?_ _ | with_reducible exact Below.refl _ _)))).c0).mono ?_; rintro e w2 ⟨rfl, hb2⟩
              have kb2 : Below w.heap.size w w2 := (by repeat (first | with_reducible refine Below.setCell ?_ (by first | (simp; done) | (simp; omega) | omega) _ | with_reducible refine Below.alloc ?_ (by first | (simp; done) | (simp; omega) | omega) _ | with_reducible refine Below.drew ?_ | with_reducible refine below_drewN ?_ _ | with_reducible exact Below.refl _ _ | with_reducible refine Below.trans ?_ (Below.mono hb2 (by first | (simp; done) | (simp; omega) | omega)) | with_reducible refine Below.trans ?_ (Below.mono kb0 (by first | (simp; done) | (simp; omega) | omega))))
              have HB2 := Lib.hid (((HB0.out.below (by repeat (first | with_reducible refine Below.setCell ?_ (by first | (simp; done) | (simp; omega) | omega) _ | with_reducible refine Below.alloc ?_ (by first | (simp; done) | (simp; omega) | omega) _ | with_reducible refine Below.drew ?_ | with_reducible refine below_drewN ?_ _ | with_reducible exact Below.refl _ _)))).below hb2)
              have hs2 := hb2.size
              simp at hs2
              have az2 : wo.heap.size < w2.heap.size := by omega
              have a2_0 : w2.cell? ⟨wo.heap.size, 0, none⟩ = some (.int .i64 5) := (hb2.cell (p := ⟨wo.heap.size, 0, none⟩) (by simp)).trans (by go_simp)
              have a2_1 : w2.cell? ⟨wo.heap.size, 1, none⟩ = some (.int .i64 nm) := (hb2.cell (p := ⟨wo.heap.size, 1, none⟩) (by simp)).trans (by go_simp)
              have a2_2 : w2.cell? ⟨wo.heap.size, 2, none⟩ = some (.int .i64 fr) := (hb2.cell (p := ⟨wo.heap.size, 2, none⟩) (by simp)).trans (by go_simp)
              have a2_3 : w2.cell? ⟨wo.heap.size, 3, none⟩ = some (.int .i64 fr) := (hb2.cell (p := ⟨wo.heap.size, 3, none⟩) (by simp)).trans (by go_simp)
              have a2_4 : w2.cell? ⟨wo.heap.size, 4, none⟩ = some (.string bd) := (hb2.cell (p := ⟨wo.heap.size, 4, none⟩) (by simp)).trans (by go_simp)
              go_wp2_with (fail)
              refine (between_any Bb bm lv s fr fr w2 HB2.out).mono ?_; rintro e w3 ⟨v3, rfl, hr3, hb3⟩
              obtain ⟨A3, c3, rfl⟩ := row_slice' hr3
              clear hr3
              have kb3 : Below w.heap.size w w3 := (by repeat (first | with_reducible refine Below.setCell ?_ (by first | (simp; done) | (simp; omega) | omega) _ | with_reducible refine Below.alloc ?_ (by first | (simp; done) | (simp; omega) | omega) _ | with_reducible refine Below.drew ?_ | with_reducible refine below_drewN ?_ _ | with_reducible exact Below.refl _ _ | with_reducible refine Below.trans ?_ (Below.mono hb3 (by first | (simp; done) | (simp; omega) | omega)) | with_reducible refine Below.trans ?_ (Below.mono kb2 (by first | (simp; done) | (simp; omega) | omega))))
              have HB3 := Lib.hid (HB2.out.below hb3)
              have a3_0 : w3.cell? ⟨wo.heap.size, 0, none⟩ = some (.int .i64 5) := (hb3.cell (p := ⟨wo.heap.size, 0, none⟩) az2).trans a2_0
              have a3_1 : w3.cell? ⟨wo.heap.size, 1, none⟩ = some (.int .i64 nm) := (hb3.cell (p := ⟨wo.heap.size, 1, none⟩) az2).trans a2_1
              have a3_2 : w3.cell? ⟨wo.heap.size, 2, none⟩ = some (.int .i64 fr) := (hb3.cell (p := ⟨wo.heap.size, 2, none⟩) az2).trans a2_2
              have a3_3 : w3.cell? ⟨wo.heap.size, 3, none⟩ = some (.int .i64 fr) := (hb3.cell (p := ⟨wo.heap.size, 3, none⟩) az2).trans a2_3
              have a3_4 : w3.cell? ⟨wo.heap.size, 4, none⟩ = some (.string bd) := (hb3.cell (p := ⟨wo.heap.size, 4, none⟩) az2).trans a2_4
              clear HB2
              obtain ⟨qn, hqn⟩ : ∃ qn, (btwS s fr fr).length = qn := ⟨_, rfl⟩
              rw [hqn]
              go_wp2_with (fail)
              all_goals (go_meet; exact ⟨s, lv, la, rfl, rfl, HB3, Lib.hid ⟨HC.out.fit, HC.out.last, by have := HC.out.nx; omega, by have := HC.out.sv; omega⟩, LO0, (by repeat (first | with_reducible refine Below.setCell ?_ (by first | (simp; done) | (simp; omega) | omega) _ | with_reducible refine Below.alloc ?_ (by first | (simp; done) | (simp; omega) | omega) _ | with_reducible refine Below.drew ?_ | with_reducible refine below_drewN ?_ _ | with_reducible exact Below.refl _ _ | with_reducible refine Below.trans ?_ (Below.mono kb3 (by first | (simp; done) | (simp; omega) | omega))))⟩)
            · obtain ⟨q, hq, hq2, hq3⟩ := sev_len (s := s) (a := fr) (b := to1)
              obtain ⟨S2, hS2⟩ : ∃ S2, (sevS s fr to1).1 = S2 := ⟨_, rfl⟩
              have hcut := fun (h1 : fr ≠ -1) (h2 : to1 ≠ -1) => btw_cut (s := s) hne h1 h2
              have HS2 := Lib.hid hS2
              have HCT : Hid (CtI (k + 1) la S2) := Lib.hid (by rw [← HS2.out]; unfold sevS; rw [if_neg hne]; exact ⟨by have h := sevS_fit (a := fr) (b := to1) HC.out.fit; unfold sevS at h; rw [if_neg hne] at h; exact h, HC.out.last, by have := HC.out.nx; show s.nx ≤ _; omega, by have h := svS_len s fr to1; have := HC.out.sv; show (svS s fr to1).length ≤ _; omega⟩)
              have hpr : sevS s fr to1 = (S2, (s.ls.length : Int) - q) := by rw [← hS2, ← hq3]
              rw [hS2] at hq hcut
              have HPR := Lib.hid hpr
              have HCU := Lib.hid hcut
              have HQ := Lib.hid hq3
              clear hS2 hcut hpr hq3
              have hneb : (fr == to1) = false := by simpa using hne
              have HSLT : Hid (s.sv.length < maxLen) := Lib.hid (by have := HC.out.sv; simp only [maxLen]; omega)
              go_wp2_with (fail)
              have cc := sever_any Bb bm lv s fr to1 (wo.alloc (Obj.cells #[.int .i64 5, .int .i64 nm, .int .i64 fr, .int .i64 to1, .string bd] 26)) (HB0.out.below (by repeat (first | with_reducible refine Below.setCell ?_ (by first | (simp; done) | (simp; omega) | omega) _ | with_reducible refine Below.alloc ?_ (by first | (simp; done) | (simp; omega) | omega) _ | with_reducible refine Below.drew ?_ | with_reducible refine below_drewN ?_ _ | with_reducible exact Below.refl _ _))) hne OK2.out OK3.out HSLT.out
              rw [HPR.out] at cc
              refine cc.mono ?_; clear cc; rintro e w2 ⟨rfl, lv2, hb2, hm2, ht2⟩
              have kz2 := ht2.size
              have kb2 : Below w.heap.size w w2 := ((by repeat (first | with_reducible refine Below.setCell ?_ (by first | (simp; done) | (simp; omega) | omega) _ | with_reducible refine Below.alloc ?_ (by first | (simp; done) | (simp; omega) | omega) _ | with_reducible refine Below.drew ?_ | with_reducible refine below_drewN ?_ _ | with_reducible exact Below.refl _ _ | with_reducible refine Below.trans ?_ (Below.mono kb0 (by first | (simp; done) | (simp; omega) | omega)))) : Below w.heap.size w (wo.alloc (Obj.cells #[.int .i64 5, .int .i64 nm, .int .i64 fr, .int .i64 to1, .string bd] 26))).trans (ht2.to_below LO0.out (by first | omega | (simp; done) | (simp; omega)))
              have LO2 := Lib.hid (low_next (B := w.heap.size) hm2 (by first | omega | (simp; done) | (simp; omega)) LO0.out)
              have HB2 := Lib.hid hb2
              have a2_0 : w2.cell? ⟨wo.heap.size, 0, none⟩ = some (.int .i64 5) := ht2.cell (p := ⟨wo.heap.size, 0, none⟩) ob0 (by go_simp)
              have a2_1 : w2.cell? ⟨wo.heap.size, 1, none⟩ = some (.int .i64 nm) := ht2.cell (p := ⟨wo.heap.size, 1, none⟩) ob0 (by go_simp)
              have a2_2 : w2.cell? ⟨wo.heap.size, 2, none⟩ = some (.int .i64 fr) := ht2.cell (p := ⟨wo.heap.size, 2, none⟩) ob0 (by go_simp)
              have a2_3 : w2.cell? ⟨wo.heap.size, 3, none⟩ = some (.int .i64 to1) := ht2.cell (p := ⟨wo.heap.size, 3, none⟩) ob0 (by go_simp)
              have a2_4 : w2.cell? ⟨wo.heap.size, 4, none⟩ = some (.string bd) := ht2.cell (p := ⟨wo.heap.size, 4, none⟩) ob0 (by go_simp)
              have ob2 := out_next hm2 (b := wo.heap.size) (by first | omega | (simp; done) | (simp; omega)) ob0
              have az2 : wo.heap.size < w2.heap.size := cell_lt a2_0
              (try simp at kz2)
              clear hb2 hm2 ht2 HB0 LO0 ob0 
              by_cases hm1 : fr = -1
              · subst hm1
                go_wp2_with (fail)
                refine (between_any Bb bm lv2 S2 (-1) to1 w2 HB2.out).mono ?_; rintro e w3 ⟨v3, rfl, hr3, hb3⟩
                obtain ⟨A3, c3, rfl⟩ := row_slice' hr3
                clear hr3
                have kb3 : Below w.heap.size w w3 := (by repeat (first | with_reducible refine Below.setCell ?_ (by first | (simp; done) | (simp; omega) | omega) _ | with_reducible refine Below.alloc ?_ (by first | (simp; done) | (simp; omega) | omega) _ | with_reducible refine Below.drew ?_ | with_reducible refine below_drewN ?_ _ | with_reducible exact Below.refl _ _ | with_reducible refine Below.trans ?_ (Below.mono hb3 (by first | (simp; done) | (simp; omega) | omega)) | with_reducible refine Below.trans ?_ (Below.mono kb2 (by first | (simp; done) | (simp; omega) | omega))))
                have HB3 := Lib.hid (HB2.out.below hb3)
                have a3_0 : w3.cell? ⟨wo.heap.size, 0, none⟩ = some (.int .i64 5) := (hb3.cell (p := ⟨wo.heap.size, 0, none⟩) az2).trans a2_0
                have a3_1 : w3.cell? ⟨wo.heap.size, 1, none⟩ = some (.int .i64 nm) := (hb3.cell (p := ⟨wo.heap.size, 1, none⟩) az2).trans a2_1
                have a3_2 : w3.cell? ⟨wo.heap.size, 2, none⟩ = some (.int .i64 (-1)) := (hb3.cell (p := ⟨wo.heap.size, 2, none⟩) az2).trans a2_2
                have a3_3 : w3.cell? ⟨wo.heap.size, 3, none⟩ = some (.int .i64 to1) := (hb3.cell (p := ⟨wo.heap.size, 3, none⟩) az2).trans a2_3
                have a3_4 : w3.cell? ⟨wo.heap.size, 4, none⟩ = some (.string bd) := (hb3.cell (p := ⟨wo.heap.size, 4, none⟩) az2).trans a2_4
                obtain ⟨qn, hqn⟩ : ∃ qn, (btwS S2 (-1) to1).length = qn := ⟨_, rfl⟩
                rw [hqn]
                go_wp2_with (fail)
                all_goals (go_meet; exact ⟨S2, lv2, la, rfl, by rw [hq]; (try (congr 1; omega)), HB3, HCT, LO2, (by repeat (first | with_reducible refine Below.setCell ?_ (by first | (simp; done) | (simp; omega) | omega) _ | with_reducible refine Below.alloc ?_ (by first | (simp; done) | (simp; omega) | omega) _ | with_reducible refine Below.drew ?_ | with_reducible refine below_drewN ?_ _ | with_reducible exact Below.refl _ _ | with_reducible refine Below.trans ?_ (Below.mono kb3 (by first | (simp; done) | (simp; omega) | omega))))⟩)
              · have hm1b : (fr == -1) = false := by simpa using hm1
                by_cases hm2 : to1 = -1
                · subst hm2
                  go_wp2_with (fail)
                  refine (between_any Bb bm lv2 S2 fr (-1) w2 HB2.out).mono ?_; rintro e w3 ⟨v3, rfl, hr3, hb3⟩
                  obtain ⟨A3, c3, rfl⟩ := row_slice' hr3
                  clear hr3
                  have kb3 : Below w.heap.size w w3 := (by repeat (first | with_reducible refine Below.setCell ?_ (by first | (simp; done) | (simp; omega) | omega) _ | with_reducible refine Below.alloc ?_ (by first | (simp; done) | (simp; omega) | omega) _ | with_reducible refine Below.drew ?_ | with_reducible refine below_drewN ?_ _ | with_reducible exact Below.refl _ _ | with_reducible refine Below.trans ?_ (Below.mono hb3 (by first | (simp; done) | (simp; omega) | omega)) | with_reducible refine Below.trans ?_ (Below.mono kb2 (by first | (simp; done) | (simp; omega) | omega))))
                  have HB3 := Lib.hid (HB2.out.below hb3)
                  have a3_0 : w3.cell? ⟨wo.heap.size, 0, none⟩ = some (.int .i64 5) := (hb3.cell (p := ⟨wo.heap.size, 0, none⟩) az2).trans a2_0
                  have a3_1 : w3.cell? ⟨wo.heap.size, 1, none⟩ = some (.int .i64 nm) := (hb3.cell (p := ⟨wo.heap.size, 1, none⟩) az2).trans a2_1
                  have a3_2 : w3.cell? ⟨wo.heap.size, 2, none⟩ = some (.int .i64 fr) := (hb3.cell (p := ⟨wo.heap.size, 2, none⟩) az2).trans a2_2
                  have a3_3 : w3.cell? ⟨wo.heap.size, 3, none⟩ = some (.int .i64 (-1)) := (hb3.cell (p := ⟨wo.heap.size, 3, none⟩) az2).trans a2_3
                  have a3_4 : w3.cell? ⟨wo.heap.size, 4, none⟩ = some (.string bd) := (hb3.cell (p := ⟨wo.heap.size, 4, none⟩) az2).trans a2_4
                  obtain ⟨qn, hqn⟩ : ∃ qn, (btwS S2 fr (-1)).length = qn := ⟨_, rfl⟩
                  rw [hqn]
                  go_wp2_with (fail)
                  all_goals (go_meet; exact ⟨S2, lv2, la, rfl, by rw [hq]; (try (congr 1; omega)), HB3, HCT, LO2, (by repeat (first | with_reducible refine Below.setCell ?_ (by first | (simp; done) | (simp; omega) | omega) _ | with_reducible refine Below.alloc ?_ (by first | (simp; done) | (simp; omega) | omega) _ | with_reducible refine Below.drew ?_ | with_reducible refine below_drewN ?_ _ | with_reducible exact Below.refl _ _ | with_reducible refine Below.trans ?_ (Below.mono kb3 (by first | (simp; done) | (simp; omega) | omega))))⟩)
                · have hm2b : (to1 == -1) = false := by simpa using hm2
                  go_wp2_with (fail)
                  refine (between_any Bb bm lv2 S2 fr to1 w2 HB2.out).mono ?_; rintro e w3 ⟨v3, rfl, hr3, hb3⟩
                  obtain ⟨A3, c3, rfl⟩ := row_slice' hr3
                  clear hr3
                  have kb3 : Below w.heap.size w w3 := (by repeat (first | with_reducible refine Below.setCell ?_ (by first | (simp; done) | (simp; omega) | omega) _ | with_reducible refine Below.alloc ?_ (by first | (simp; done) | (simp; omega) | omega) _ | with_reducible refine Below.drew ?_ | with_reducible refine below_drewN ?_ _ | with_reducible exact Below.refl _ _ | with_reducible refine Below.trans ?_ (Below.mono hb3 (by first | (simp; done) | (simp; omega) | omega)) | with_reducible refine Below.trans ?_ (Below.mono kb2 (by first | (simp; done) | (simp; omega) | omega))))
                  have HB3 := Lib.hid (HB2.out.below hb3)
                  have a3_0 : w3.cell? ⟨wo.heap.size, 0, none⟩ = some (.int .i64 5) := (hb3.cell (p := ⟨wo.heap.size, 0, none⟩) az2).trans a2_0
                  have a3_1 : w3.cell? ⟨wo.heap.size, 1, none⟩ = some (.int .i64 nm) := (hb3.cell (p := ⟨wo.heap.size, 1, none⟩) az2).trans a2_1
                  have a3_2 : w3.cell? ⟨wo.heap.size, 2, none⟩ = some (.int .i64 fr) := (hb3.cell (p := ⟨wo.heap.size, 2, none⟩) az2).trans a2_2
                  have a3_3 : w3.cell? ⟨wo.heap.size, 3, none⟩ = some (.int .i64 to1) := (hb3.cell (p := ⟨wo.heap.size, 3, none⟩) az2).trans a2_3
                  have a3_4 : w3.cell? ⟨wo.heap.size, 4, none⟩ = some (.string bd) := (hb3.cell (p := ⟨wo.heap.size, 4, none⟩) az2).trans a2_4
                  rw [HCU.out hm1 hm2]
                  go_wp2_with (fail)
                  go_meet
                  exact ⟨S2, lv2, la, rfl, by rw [hq]; (try (congr 1; omega)), HB3, HCT, LO2, (by repeat (first | with_reducible refine Below.setCell ?_ (by first | (simp; done) | (simp; omega) | omega) _ | with_reducible refine Below.alloc ?_ (by first | (simp; done) | (simp; omega) | omega) _ | with_reducible refine Below.drew ?_ | with_reducible refine below_drewN ?_ _ | with_reducible exact Below.refl _ _ | with_reducible refine Below.trans ?_ (Below.mono kb3 (by first | (simp; done) | (simp; omega) | omega))))⟩
        have hkb5 : (kd == 5) = false := by simpa using hk5
        clear hk5
        by_cases hk6 : kd = 6
        · as_aux_lemma =>
            subst hk6
            have hml : (mendS s fr to1).1.ls = s.ls ∧ (mendS s fr to1).1.nx = s.nx ∧ (mendS s fr to1).1.sv.length ≤ s.sv.length := by
              unfold mendS
              split
              · exact ⟨rfl, rfl, List.length_filter_le ..⟩
              · exact ⟨rfl, rfl, Nat.le_refl _⟩
            have hmf := mendS_fit (a := fr) (b := to1) HC.out.fit
            obtain ⟨S2, hS2⟩ : ∃ S2, (mendS s fr to1).1 = S2 := ⟨_, rfl⟩
            rw [hS2] at hml hmf
            have HCT : Hid (CtI (k + 1) la S2) := Lib.hid ⟨hmf, by rw [hml.2.1]; exact HC.out.last, by rw [hml.2.1]; have := HC.out.nx; omega, by have := HC.out.sv; have := hml.2.2; omega⟩
            have hls : S2.ls.length = s.ls.length := by rw [hml.1]
            clear hml hmf
            go_wp2_with (fail)
            have cc := mend_any Bb bm lv s fr to1 (wo.alloc (Obj.cells #[.int .i64 6, .int .i64 nm, .int .i64 fr, .int .i64 to1, .string bd] 26)) (HB0.out.below (by repeat (first | with_reducible refine Below.setCell ?_ (by first | (simp; done) | (simp; omega) | omega) _ | with_reducible refine Below.alloc ?_ (by first | (simp; done) | (simp; omega) | omega) _ | with_reducible refine Below.drew ?_ | with_reducible refine below_drewN ?_ _ | with_reducible exact Below.refl _ _))) OK2.out OK3.out
            rw [hS2] at cc
            refine cc.mono ?_; clear cc; rintro e w2 ⟨rfl, hb2, ht2⟩
            have kb2 : Below w.heap.size w w2 := ((by repeat (first | with_reducible refine Below.setCell ?_ (by first | (simp; done) | (simp; omega) | omega) _ | with_reducible refine Below.alloc ?_ (by first | (simp; done) | (simp; omega) | omega) _ | with_reducible refine Below.drew ?_ | with_reducible refine below_drewN ?_ _ | with_reducible exact Below.refl _ _ | with_reducible refine Below.trans ?_ (Below.mono kb0 (by first | (simp; done) | (simp; omega) | omega)))) : Below w.heap.size w (wo.alloc (Obj.cells #[.int .i64 6, .int .i64 nm, .int .i64 fr, .int .i64 to1, .string bd] 26))).trans (ht2.to_below LO0.out (by first | omega | (simp; done) | (simp; omega)))
            go_wp2_with (fail)
            go_meet
            exact ⟨S2, lv, la, rfl, by rw [hls], Lib.hid hb2, HCT, LO0, (by repeat (first | with_reducible refine Below.setCell ?_ (by first | (simp; done) | (simp; omega) | omega) _ | with_reducible refine Below.alloc ?_ (by first | (simp; done) | (simp; omega) | omega) _ | with_reducible refine Below.drew ?_ | with_reducible refine below_drewN ?_ _ | with_reducible exact Below.refl _ _ | with_reducible refine Below.trans ?_ (Below.mono kb2 (by first | (simp; done) | (simp; omega) | omega))))⟩
        have hkb6 : (kd == 6) = false := by simpa using hk6
        clear hk6
        by_cases hk7 : kd = 7
        · as_aux_lemma =>
            subst hk7
            obtain ⟨q, hq, hq2, hq3⟩ := for_len (s := s) (b := to1)
            have hcut := fun (h2 : to1 ≠ -1) => btw_for (s := s) h2
            obtain ⟨S2, hS2⟩ : ∃ S2, (forS s to1).1 = S2 := ⟨_, rfl⟩
            have hfit := forS_fit (b := to1) HC.out.fit
            have HCT : Hid (CtI (k + 1) la S2) := Lib.hid (by rw [← hS2]; exact ⟨hfit, HC.out.last, by have := HC.out.nx; show s.nx ≤ _; omega, by have := HC.out.sv; show s.sv.length ≤ _; omega⟩)
            have hpr : forS s to1 = (S2, (s.ls.length : Int) - q) := by rw [← hS2, ← hq3]
            rw [hS2] at hq hcut
            have HPR := Lib.hid hpr
            have HCU := Lib.hid hcut
            clear hS2 hcut hpr hq3 hfit
            go_wp2_with (fail)
            have cc := forget_any Bb bm lv s to1 (wo.alloc (Obj.cells #[.int .i64 7, .int .i64 nm, .int .i64 fr, .int .i64 to1, .string bd] 26)) (HB0.out.below (by repeat (first | with_reducible refine Below.setCell ?_ (by first | (simp; done) | (simp; omega) | omega) _ | with_reducible refine Below.alloc ?_ (by first | (simp; done) | (simp; omega) | omega) _ | with_reducible refine Below.drew ?_ | with_reducible refine below_drewN ?_ _ | with_reducible exact Below.refl _ _)))
            rw [HPR.out] at cc
            refine cc.mono ?_; clear cc; rintro e w2 ⟨rfl, lv2, hb2, hm2, ht2⟩
            have kz2 := ht2.size
            have kb2 : Below w.heap.size w w2 := ((by repeat (first | with_reducible refine Below.setCell ?_ (by first | (simp; done) | (simp; omega) | omega) _ | with_reducible refine Below.alloc ?_ (by first | (simp; done) | (simp; omega) | omega) _ | with_reducible refine Below.drew ?_ | with_reducible refine below_drewN ?_ _ | with_reducible exact Below.refl _ _ | with_reducible refine Below.trans ?_ (Below.mono kb0 (by first | (simp; done) | (simp; omega) | omega)))) : Below w.heap.size w (wo.alloc (Obj.cells #[.int .i64 7, .int .i64 nm, .int .i64 fr, .int .i64 to1, .string bd] 26))).trans (ht2.to_below LO0.out (by first | omega | (simp; done) | (simp; omega)))
            have LO2 := Lib.hid (low_next (B := w.heap.size) hm2 (by first | omega | (simp; done) | (simp; omega)) LO0.out)
            have HB2 := Lib.hid hb2
            have a2_0 : w2.cell? ⟨wo.heap.size, 0, none⟩ = some (.int .i64 7) := ht2.cell (p := ⟨wo.heap.size, 0, none⟩) ob0 (by go_simp)
            have a2_1 : w2.cell? ⟨wo.heap.size, 1, none⟩ = some (.int .i64 nm) := ht2.cell (p := ⟨wo.heap.size, 1, none⟩) ob0 (by go_simp)
            have a2_2 : w2.cell? ⟨wo.heap.size, 2, none⟩ = some (.int .i64 fr) := ht2.cell (p := ⟨wo.heap.size, 2, none⟩) ob0 (by go_simp)
            have a2_3 : w2.cell? ⟨wo.heap.size, 3, none⟩ = some (.int .i64 to1) := ht2.cell (p := ⟨wo.heap.size, 3, none⟩) ob0 (by go_simp)
            have a2_4 : w2.cell? ⟨wo.heap.size, 4, none⟩ = some (.string bd) := ht2.cell (p := ⟨wo.heap.size, 4, none⟩) ob0 (by go_simp)
            have ob2 := out_next hm2 (b := wo.heap.size) (by first | omega | (simp; done) | (simp; omega)) ob0
            have az2 : wo.heap.size < w2.heap.size := cell_lt a2_0
            (try simp at kz2)
            clear hb2 hm2 ht2 HB0 LO0 ob0 
            by_cases hm2 : to1 = -1
            · subst hm2
              go_wp2_with (fail)
              go_meet
              exact ⟨S2, lv2, la, rfl, by rw [hq]; (try (congr 1; omega)), HB2, HCT, LO2, (by repeat (first | with_reducible refine Below.setCell ?_ (by first | (simp; done) | (simp; omega) | omega) _ | with_reducible refine Below.alloc ?_ (by first | (simp; done) | (simp; omega) | omega) _ | with_reducible refine Below.drew ?_ | with_reducible refine below_drewN ?_ _ | with_reducible exact Below.refl _ _ | with_reducible refine Below.trans ?_ (Below.mono kb2 (by first | (simp; done) | (simp; omega) | omega))))⟩
            · have hm2b : (to1 == -1) = false := by simpa using hm2
              go_wp2_with (fail)
              refine (between_any Bb bm lv2 S2 (-1) to1 w2 HB2.out).mono ?_; rintro e w3 ⟨v3, rfl, hr3, hb3⟩
              obtain ⟨A3, c3, rfl⟩ := row_slice' hr3
              clear hr3
              have kb3 : Below w.heap.size w w3 := (by repeat (first | with_reducible refine Below.setCell ?_ (by first | (simp; done) | (simp; omega) | omega) _ | with_reducible refine Below.alloc ?_ (by first | (simp; done) | (simp; omega) | omega) _ | with_reducible refine Below.drew ?_ | with_reducible refine below_drewN ?_ _ | with_reducible exact Below.refl _ _ | with_reducible refine Below.trans ?_ (Below.mono hb3 (by first | (simp; done) | (simp; omega) | omega)) | with_reducible refine Below.trans ?_ (Below.mono kb2 (by first | (simp; done) | (simp; omega) | omega))))
              have HB3 := Lib.hid (HB2.out.below hb3)
              have a3_0 : w3.cell? ⟨wo.heap.size, 0, none⟩ = some (.int .i64 7) := (hb3.cell (p := ⟨wo.heap.size, 0, none⟩) az2).trans a2_0
              have a3_1 : w3.cell? ⟨wo.heap.size, 1, none⟩ = some (.int .i64 nm) := (hb3.cell (p := ⟨wo.heap.size, 1, none⟩) az2).trans a2_1
              have a3_2 : w3.cell? ⟨wo.heap.size, 2, none⟩ = some (.int .i64 fr) := (hb3.cell (p := ⟨wo.heap.size, 2, none⟩) az2).trans a2_2
              have a3_3 : w3.cell? ⟨wo.heap.size, 3, none⟩ = some (.int .i64 to1) := (hb3.cell (p := ⟨wo.heap.size, 3, none⟩) az2).trans a2_3
              have a3_4 : w3.cell? ⟨wo.heap.size, 4, none⟩ = some (.string bd) := (hb3.cell (p := ⟨wo.heap.size, 4, none⟩) az2).trans a2_4
              rw [HCU.out hm2]
              go_wp2_with (fail)
              go_meet
              exact ⟨S2, lv2, la, rfl, by rw [hq]; (try (congr 1; omega)), HB3, HCT, LO2, (by repeat (first | with_reducible refine Below.setCell ?_ (by first | (simp; done) | (simp; omega) | omega) _ | with_reducible refine Below.alloc ?_ (by first | (simp; done) | (simp; omega) | omega) _ | with_reducible refine Below.drew ?_ | with_reducible refine below_drewN ?_ _ | with_reducible exact Below.refl _ _ | with_reducible refine Below.trans ?_ (Below.mono kb3 (by first | (simp; done) | (simp; omega) | omega))))⟩
        have hkb7 : (kd == 7) = false := by simpa using hk7
        clear hk7
        go_wp2_with (fail)
        go_meet
        exact ⟨s, lv, la, rfl, rfl, Lib.hid (HB0.out.below (by repeat (first | with_reducible refine Below.setCell ?_ (by first | (simp; done) | (simp; omega) | omega) _ | with_reducible refine Below.alloc ?_ (by first | (simp; done) | (simp; omega) | omega) _ | with_reducible refine Below.drew ?_ | with_reducible refine below_drewN ?_ _ | with_reducible exact Below.refl _ _))), Lib.hid ⟨HC.out.fit, HC.out.last, by have := HC.out.nx; omega, by have := HC.out.sv; omega⟩, LO0, (by repeat (first | with_reducible refine Below.setCell ?_ (by first | (simp; done) | (simp; omega) | omega) _ | with_reducible refine Below.alloc ?_ (by first | (simp; done) | (simp; omega) | omega) _ | with_reducible refine Below.drew ?_ | with_reducible refine below_drewN ?_ _ | with_reducible exact Below.refl _ _ | with_reducible refine Below.trans ?_ (Below.mono kb0 (by first | (simp; done) | (simp; omega) | omega))))⟩
      case rest =>
        obtain ⟨s1, lv1, la1, rfl, rfl, HB1, HC1, LO1, kb1⟩ := hcut
        clear HB0 HC LO0 OK2 OK3 ob0 kb0 c0 c1 c2 c3 c4
        have hsz1 := kb1.size
        go_wp2_with (fail)
        refine (len_any Bb bm lv1 s1 wc HB1.out).mono ?_; rintro e w2 ⟨rfl, rfl⟩
        go_wp2_with (fail)
        refine (between_any Bb bm lv1 s1 (-1) (-1) wc HB1.out).mono ?_; rintro e w3 ⟨v3, rfl, hr3, hb3⟩
        obtain ⟨A3, c3, rfl⟩ := row_slice' hr3
        clear hr3
        rw [btw_all]
        go_wp2
        go_roundg (go - 1)
        case measure => omega
        case rel => exact ⟨k + 1, s1, lv1, la1, by omega, by simp, rfl, rfl, Lib.hid (HB1.out.below hb3), HC1, LO1, (by repeat (first | with_reducible refine Below.setCell ?_ (by first | (simp; done) | (simp; omega) | omega) _ | with_reducible refine Below.alloc ?_ (by first | (simp; done) | (simp; omega) | omega) _ | with_reducible refine Below.drew ?_ | with_reducible refine below_drewN ?_ _ | with_reducible exact Below.refl _ _ | with_reducible refine Below.trans ?_ (Below.mono hb3 (by first | (simp; done) | (simp; omega) | omega)) | with_reducible refine Below.trans ?_ (Below.mono kb1 (by first | (simp; done) | (simp; omega) | omega))))⟩
theorem bagCounts_lifted (os : Os) (started : os.Started) (H : Type) (enc : TypeId × Value → H) :
    ReturnsInHanded {} Try.checked os 3 .any (Rows.bagCountsSpec.pre6 enc Try.prog Try.f3 Rows.bagCountsRow.domain false) (Rows.bagCountsSpec.post enc Try.prog Try.f3 false true false false) := by
  refine returnsInHanded_of_change_sized (C := Try.checked) own started (by kernel_rfl) Try.func3
    (ChangeSpec.witness6 (enc := enc) (C := Try.checked) false ⟨#[], #[.slice none 0 0], []⟩ 8 (by kernel_rfl) (by kernel_rfl) (by kernel_rfl) (by kernel_rfl)) ?_
  intro W base args ds gs before hval hW _ hsz _
  have hW' := hW
  obtain ⟨p, q, hA, hV, rfl, hfz, hnd⟩ := hW
  obtain ⟨rfl, rfl⟩ := trodVars_none hV
  rw [Try.params3] at hA hval
  obtain ⟨v0, vs0, d0, ds0, p0, q0, hargs, rfl, rfl, h0, r0⟩ := trodAll_cons hA
  obtain ⟨rfl, rfl, rfl⟩ := trodAll_nil r0
  obtain rfl : args = #[v0] := by cases args; simp_all
  obtain ⟨A0, n0, c0, rs, rfl, _, hr0, ho0, hd0⟩ := open_acts (hval 0 _ v0 rfl rfl) h0
  refine (bagCounts_any A0 n0 c0 rs W hr0 ho0 (small_rows hsz (j := 0) rfl rfl Try.underlying22 (by kernel_rfl) hd0)).mono fun e W' ⟨he, hg⟩ => ?_
  subst he
  exact ⟨_, rfl, law_post laidOut rfl (by kernel_rfl) rfl Try.underlying4 rfl hW' hg⟩

theorem bagCounts_holds : Rows.BagCountsSaid :=
  OpenClaim.holds_of_wide 3 Try.f3 rfl rfl rfl rfl rfl rfl rfl ⟨rfl, rfl, rfl, rfl, rfl⟩ rfl rfl rfl rfl rfl (by kernel_rfl) Try.func3 (by kernel_rfl)
    (of_decide_eq_true (by kernel_rfl)) (by unfold Func.isWrapper; first | (rw [if_pos (by decide +kernel)]; kernel_rfl) | (rw [if_neg (by decide +kernel)]; exact ⟨rfl, rfl⟩))
    (fun os started H enc _ => bagCounts_lifted os started H enc)

end Go.Proofs.Ytdaobbffhfbceaa
