/- Whatever the arguments: eddylaw06's BagPlays returns true. No conditions. -/
import Derived.Test.YtdaobbffhfbceaaBgY
import Derived.Test.YtdaobbffhfbceaaBgW
import Derived.Test.YtdaobbffhfbceaaLaw
import Derived.ChangeMaps5
import Derived.Deep.CutRange
import Derived.Deep.Cut
import Derived.Deep.RegionHeld3
namespace Go.Proofs.Ytdaobbffhfbceaa
open Go.ChangeShapes Go.WideShapes Go.ChangeAt Go.RowKit Go.Joins Go.ChangeMaps Go.Deep Go.Shelf
set_option linter.unusedVariables false
set_option linter.unusedSimpArgs false
set_option maxRecDepth 100000
theorem keptc_low {w W : World} {l : List (Addr × Value)} {F : List Addr} (h : KeptC w l F W) : Below w.heap.size w W := h.1
/-- The bodies of a row of packets may be written. -/
def Spl (w : World) (A : Option Addr) (n : Nat) : Prop := ∀ ad, A = some ad → ∀ t, t < n → (w.cell? ⟨(ad.add (t * 4)).block, (ad.add (t * 4)).off + 3, none⟩).isSome = true ∧ w.frozen? ⟨(ad.add (t * 4)).block, (ad.add (t * 4)).off + 3, none⟩ = false
theorem spl_own {w : World} {base : Nat} {A : Option Addr} {c : Nat} {ls : List Dg} (h : OwnE encD 4 33 w base (.slice A ls.length c) ls) : Spl w A ls.length := by
  intro ad hA t ht
  obtain ⟨ad2, c2, hv, _, _, _, _, hr⟩ := h.row encD_len Dg0 (by omega)
  obtain ⟨h1, _, _⟩ := Value.slice.inj hv
  rw [hA] at h1
  obtain rfl := Option.some.inj h1
  obtain ⟨hc, hf⟩ := hr t ht
  have h3 := hf 3 (by omega)
  have h4 := hc 3 _ rfl
  rw [show (ad.add (t * 4)).add 3 = ⟨(ad.add (t * 4)).block, (ad.add (t * 4)).off + 3, none⟩ from add_next _ 2] at h3 h4
  exact ⟨by rw [h4]; rfl, h3⟩
theorem Spl.set {w : World} {A : Option Addr} {n : Nat} (h : Spl w A n) (p : Addr) (u : Value) : Spl (w.setCell p u) A n := fun ad hA t ht => ⟨set_some (h ad hA t ht).1 _ _, by rw [World.frozen?_setCell]; exact (h ad hA t ht).2⟩
theorem Spl.below {w w' : World} {A : Option Addr} {n : Nat} (h : Spl w A n) (hb : Below w.heap.size w w') : Spl w' A n := fun ad hA t ht => by
  obtain ⟨h1, h2⟩ := h ad hA t ht
  obtain ⟨v, hv⟩ := Option.isSome_iff_exists.1 h1
  exact ⟨by rw [hb.cell (cell_lt hv)]; exact h1, (hb.frozen (cell_lt hv)).trans h2⟩
theorem rows_at {α : Type} {enc : α → List Value} {k : Nat} (hk : ∀ x, (enc x).length = k) {e : TypeId} {w W : World} {base : Nat} {A : Option Addr} {c : Nat} {rs : List α} (h : OwnE enc k e w base (.slice A rs.length c) rs) (hW : Below w.heap.size w W) : RowsE enc k W W.heap.size A rs.length rs := by
  obtain ⟨A2, c2, hv, hr⟩ := (h.below hW).at_ hk
  obtain ⟨h1, _, _⟩ := Value.slice.inj hv
  rw [h1]
  exact hr
set_option maxHeartbeats 8000000 in
theorem bagPlays_any (nx : Int) (A B D : Option Addr) (n c m d k q : Nat) (ls : List Dg) (sv : List LK) (rs : List Ac) (w : World) (h1 : RowsE encD 4 w w.heap.size A n ls) (h2 : RowsE encL 2 w w.heap.size B m sv) (h3 : RowsE encA 5 w w.heap.size D k rs) (hd : ∀ d ∈ ls, i64B d.num ∧ i64B d.frm ∧ i64B d.dst) (hk : ∀ x ∈ sv, i64B x.1 ∧ i64B x.2) (ho : ∀ y ∈ rs, OkA y) (hn : n * 40 ≤ 140737488351232) (hm : m * 16 ≤ 140737488351232) (hkk : k * 48 ≤ 140737488351232) :
    Calls Try.prog 5 #[mAgg nx (.slice A n c) (.slice B m d), .slice D k q] w fun e w' => e = .returned (.bool true) ∧ Below w.heap.size w w' := by
  obtain rfl := h1.1
  obtain rfl := h2.1
  have H1 := Lib.hid h1
  have H2 := Lib.hid h2
  have H3 := Lib.hid h3
  have HK3 := Lib.hid h3.1
  have HO3 := Lib.hid ho
  have HDI := Lib.hid hd
  have HKI := Lib.hid hk
  have cp := fun (W : World) (hW : Below w.heap.size w W) => mcopy_any nx A B ls.length c sv.length d ls sv W ((h1.below hW).more hW.size) ((h2.below hW).more hW.size) hn hm
  have ft := fun (W : World) (hW : Below w.heap.size w W) => mfit_any nx A B ls.length c sv.length d ls sv W ((h1.below hW).more hW.size) ((h2.below hW).more hW.size) (by omega) (by omega)
  have CP := Lib.hid cp
  have FT := Lib.hid ft
  have HN := Lib.hid hn
  have HM := Lib.hid hm
  have HKK := Lib.hid hkk
  clear h1 h2 h3 hd hk ho cp ft
  go_enter Try.func5, Try.ntmps5
  go_wp2_with (fail)
  refine (CP.out _ (by repeat (first | with_reducible refine Below.setCell ?_ (by first | (simp; done) | (simp; omega) | omega) _ | with_reducible refine Below.alloc ?_ (by first | (simp; done) | (simp; omega) | omega) _ | with_reducible refine Below.drew ?_ | with_reducible refine below_drewN ?_ _ | with_reducible exact Below.refl _ _))).mono ?_; rintro e w1 ⟨lo, ko, rfl, o1, o2, od, hb1⟩
  obtain ⟨Ao, co, hlo⟩ := row_slice' o1
  subst hlo
  obtain ⟨Bo, dO, hko⟩ := row_slice' o2
  subst hko
  have hz1 := hb1.size
  simp at hz1
  have fr1 := own_fresh o1
  have ol1 := own_lt o1
  have hbw1 : Below w.heap.size w w1 := (by repeat (first | with_reducible refine Below.setCell ?_ (by first | (simp; done) | (simp; omega) | omega) _ | with_reducible refine Below.alloc ?_ (by first | (simp; done) | (simp; omega) | omega) _ | with_reducible refine Below.drew ?_ | with_reducible refine below_drewN ?_ _ | with_reducible exact Below.refl _ _ | with_reducible refine Below.trans ?_ (Below.mono hb1 (by first | (simp; done) | (simp; omega) | omega))))
  have a0 : w1.cell? ⟨w.heap.size, 0, none⟩ = some (.int .i64 nx) := (hb1.cell (p := ⟨w.heap.size, 0, none⟩) (by simp)).trans (by go_simp)
  have a1 : w1.cell? ⟨w.heap.size, 1, none⟩ = some (.slice A ls.length c) := (hb1.cell (p := ⟨w.heap.size, 1, none⟩) (by simp)).trans (by go_simp)
  have a2 : w1.cell? ⟨w.heap.size, 2, none⟩ = some (.slice B sv.length d) := (hb1.cell (p := ⟨w.heap.size, 2, none⟩) (by simp)).trans (by go_simp)
  obtain ⟨ob, hob⟩ : ∃ ob, ob = w1.heap.size := ⟨_, rfl⟩
  have hobw : w.heap.size < ob := by omega
  have hww1 : w.heap.size < w1.heap.size := by omega
  have HNZ : Hid (0 < ls.length → Ao ≠ none) := Lib.hid (fun h e => by
    obtain ⟨ad, c2, hv, _⟩ := o1.row encD_len Dg0 h
    obtain ⟨h1, _, _⟩ := Value.slice.inj hv
    rw [e] at h1
    cases h1)
  have HBX : Hid (∀ ad, Ao = some ad → ad.block < ob) := Lib.hid (fun ad e => by have := ol1 ad.block (by rw [e]; rfl); omega)
  have HBF : Hid (∀ x ∈ (Value.slice Ao ls.length co).ownBlock.toList, w.heap.size < x ∧ x < ob) := Lib.hid (fun x hx => by
    have e : (Value.slice Ao ls.length co).ownBlock = some x := by simpa using hx
    have h5 := fr1 x e
    have h6 := ol1 x e
    simp at h5
    omega)
  have HSP := Lib.hid (spl_own o1)
  have HO1 := Lib.hid o1
  have HO2 := Lib.hid o2
  have HB1 := Lib.hid hb1
  have HBW1 := Lib.hid hbw1
  have of := fun (W : World) (hW : Below w1.heap.size w1 W) => of_any nx Ao Bo ls.length co sv.length dO ls sv W (rows_at encD_len o1 hW) (rows_at encL_len o2 hW) (by have := HN.out; omega) (by have := HM.out; omega) HDI.out HKI.out
  have OF := Lib.hid of
  clear of o1 o2 od fr1 ol1 hb1
  have hAlen : (1 : Nat) = 1 := rfl
  clear hAlen
  go_wp2_with (fail)
  refine (OF.out _ (by repeat (first | with_reducible refine Below.setCell ?_ (by first | (simp; done) | (simp; omega) | omega) _ | with_reducible refine Below.alloc ?_ (by first | (simp; done) | (simp; omega) | omega) _ | with_reducible refine Below.drew ?_ | with_reducible refine below_drewN ?_ _ | with_reducible exact Below.refl _ _))).mono ?_; rintro e w2 ⟨hb2, hof⟩
  have hz2 := hb2.size
  simp at hz2
  have hobl : ob < w2.heap.size := by omega
  have b0 : w2.cell? ⟨w.heap.size, 0, none⟩ = some (.int .i64 nx) := (hb2.cell (p := ⟨w.heap.size, 0, none⟩) (by simp; omega)).trans (by go_simp)
  have b1 : w2.cell? ⟨w.heap.size, 1, none⟩ = some (.slice A ls.length c) := (hb2.cell (p := ⟨w.heap.size, 1, none⟩) (by simp; omega)).trans (by go_simp)
  have b2 : w2.cell? ⟨w.heap.size, 2, none⟩ = some (.slice B sv.length d) := (hb2.cell (p := ⟨w.heap.size, 2, none⟩) (by simp; omega)).trans (by go_simp)
  have b3 : w2.cell? ⟨ob, 1, none⟩ = some (.slice Ao ls.length co) := (hb2.cell (p := ⟨ob, 1, none⟩) (by simp; omega)).trans (by rw [hob]; go_simp)
  have HB12 : Hid (Below w1.heap.size w1 w2) := Lib.hid ((by repeat (first | with_reducible refine Below.setCell ?_ (by first | (simp; done) | (simp; omega) | omega) _ | with_reducible refine Below.alloc ?_ (by first | (simp; done) | (simp; omega) | omega) _ | with_reducible refine Below.drew ?_ | with_reducible refine below_drewN ?_ _ | with_reducible exact Below.refl _ _ | with_reducible refine Below.trans ?_ (Below.mono hb2 (by first | (simp; done) | (simp; omega) | omega)))))
  have HBW2 : Hid (Below w.heap.size w w2) := Lib.hid (HBW1.out.trans (HB12.out.mono HBW1.out.size))
  have HSZ2 : Hid (w1.heap.size < (w1.alloc (Obj.cells #[.int .i64 nx, .slice Ao ls.length co, .slice Bo sv.length dO] 50)).heap.size) := Lib.hid (by simp)
  clear a0 a1 a2 hb2
  rcases hof with ⟨hfit, Bb, bm, lvb, rfl, hbag, hfoot⟩ | ⟨hfit, rfl⟩
  rotate_left
  · rw [← hob]
    clear hob
    go_wp2_with (fail)
    have ft := FT.out w2 HBW2.out
    rw [hfit] at ft
    refine ft.mono ?_; rintro e w3 ⟨rfl, hb3⟩
    have hs3 := hb3.size
    have d0 : w3.cell? ⟨w.heap.size, 0, none⟩ = some (.int .i64 nx) := (hb3.cell (p := ⟨w.heap.size, 0, none⟩) (by simp only []; omega)).trans b0
    have d1 : w3.cell? ⟨w.heap.size, 1, none⟩ = some (.slice A ls.length c) := (hb3.cell (p := ⟨w.heap.size, 1, none⟩) (by simp only []; omega)).trans b1
    have d2 : w3.cell? ⟨w.heap.size, 2, none⟩ = some (.slice B sv.length d) := (hb3.cell (p := ⟨w.heap.size, 2, none⟩) (by simp only []; omega)).trans b2
    have d3 : w3.cell? ⟨ob, 1, none⟩ = some (.slice Ao ls.length co) := (hb3.cell (p := ⟨ob, 1, none⟩) (by simp only []; omega)).trans b3
    have h13 : Below w1.heap.size w1 w3 := HB12.out.trans (hb3.mono HB12.out.size)
    have HSP3 : Hid (Spl w3 Ao ls.length) := Lib.hid (HSP.out.below h13)
    have HBW3 : Hid (Below w.heap.size w w3) := Lib.hid (HBW1.out.trans (h13.mono HBW1.out.size))
    have H23 := Lib.hid hb3
    clear b0 b1 b2 b3 ft h13 hb3
    go_wp2
    go_loopw [8] (fun i w' => ∃ j : Nat, j ≤ ls.length ∧ i = .int .i64 j ∧ Hid (Turn ((Value.slice Ao ls.length co).ownBlock.toList) w3 w') ∧ Hid (Spl w' Ao ls.length) ∧ w'.cell? ⟨ob, 1, none⟩ = some (.slice Ao ls.length co)) (fun i _ => ls.length - (intOf i).toNat)
    case atStart => exact ⟨0, Nat.zero_le _, rfl, Lib.hid (Turn.refl _ _), HSP3, by assumption⟩
    case round =>
      obtain ⟨j, hj, rfl, HTs, HSs, kx⟩ := hrel
      have hbx := cell_lt kx
      simp only [] at hbx
      by_cases hlt : j < ls.length
      · cases hA : Ao with
        | none => exact absurd hA (HNZ.out (by omega))
        | some ad =>
          rw [hA] at kx HTs HSs
          obtain ⟨h1, f1⟩ := HSs.out ad rfl j hlt
          obtain ⟨v1, hv1⟩ := Option.isSome_iff_exists.1 h1
          obtain ⟨P, hP⟩ : ∃ P, ad.add (j * 4) = P := ⟨_, rfl⟩
          have hPb : P.block = ad.block := by rw [← hP, block_of_add]
          rw [hP] at hv1 f1
          have hHT : Hid (Turn ((Value.slice (some ad) ls.length co).ownBlock.toList) w3 (wr.setCell ⟨P.block, P.off + 3, none⟩ (.string { data := #[115, 112, 111, 105, 108, 116] }))) := Lib.hid (HTs.out.setCell (.inl (by simp [Value.ownBlock, hPb])) _)
          have hHS : Hid (Spl (wr.setCell ⟨P.block, P.off + 3, none⟩ (.string { data := #[115, 112, 111, 105, 108, 116] })) (some ad) ls.length) := Lib.hid (HSs.out.set _ _)
          have hne : P.block ≠ ob := fun e => by
            have := HBX.out ad hA
            omega
          have kx2 : (wr.setCell ⟨P.block, P.off + 3, none⟩ (.string { data := #[115, 112, 111, 105, 108, 116] })).cell? ⟨ob, 1, none⟩ = some (.slice (some ad) ls.length co) := (World.cell?_setCell_other _ _ _ _ (fun e => hne (by injection e))).trans kx
          have KX2 := Lib.hid kx2
          clear h1 hPb kx2
          go_wp2
          go_roundw
          case rel => exact ⟨j + 1, by omega, by go_num, hHT, hHS, KX2.out⟩
          case measure => simp [intOf]; omega
      · obtain rfl : ls.length = j := by omega
        have hbw : Below w.heap.size w wr := HBW3.out.trans (HTs.out.to_below (fun x hx => by have := (HBF.out x hx).1; omega) HBW3.out.size)
        go_wp2_with (fail)
        refine (awake_any _).mono ?_; rintro e w9 ⟨rfl, hb9⟩
        go_wp2
        go_ret
        exact ⟨rfl, (by repeat (first | with_reducible refine Below.setCell ?_ (by first | (simp; done) | (simp; omega) | omega) _ | with_reducible refine Below.alloc ?_ (by first | (simp; done) | (simp; omega) | omega) _ | with_reducible refine Below.drew ?_ | with_reducible refine below_drewN ?_ _ | with_reducible exact Below.refl _ _ | with_reducible refine Below.trans ?_ (Below.mono hb9 (by first | (simp; done) | (simp; omega) | omega)) | with_reducible refine Below.trans ?_ (Below.mono hbw (by first | (simp; done) | (simp; omega) | omega))))⟩
  · have HFO : Hid (∀ x ∈ foot Bb bm lvb, ob < x) := Lib.hid (fun x hx => by have h5 := hfoot x hx; have h6 := HSZ2.out; omega)
    have HBG := Lib.hid hbag
    rw [← hob]
    clear hob hbag hfoot
    go_wp2_with (fail)
    have ft := FT.out w2 HBW2.out
    rw [hfit] at ft
    refine ft.mono ?_; rintro e w3 ⟨rfl, hb3⟩
    have hs3 := hb3.size
    have d0 : w3.cell? ⟨w.heap.size, 0, none⟩ = some (.int .i64 nx) := (hb3.cell (p := ⟨w.heap.size, 0, none⟩) (by simp only []; omega)).trans b0
    have d1 : w3.cell? ⟨w.heap.size, 1, none⟩ = some (.slice A ls.length c) := (hb3.cell (p := ⟨w.heap.size, 1, none⟩) (by simp only []; omega)).trans b1
    have d2 : w3.cell? ⟨w.heap.size, 2, none⟩ = some (.slice B sv.length d) := (hb3.cell (p := ⟨w.heap.size, 2, none⟩) (by simp only []; omega)).trans b2
    have d3 : w3.cell? ⟨ob, 1, none⟩ = some (.slice Ao ls.length co) := (hb3.cell (p := ⟨ob, 1, none⟩) (by simp only []; omega)).trans b3
    have h13 : Below w1.heap.size w1 w3 := HB12.out.trans (hb3.mono HB12.out.size)
    have HSP3 : Hid (Spl w3 Ao ls.length) := Lib.hid (HSP.out.below h13)
    have HBW3 : Hid (Below w.heap.size w w3) := Lib.hid (HBW1.out.trans (h13.mono HBW1.out.size))
    have H23 := Lib.hid hb3
    clear b0 b1 b2 b3 ft h13 hb3
    go_wp2
    go_loopw [8] (fun i w' => ∃ j : Nat, j ≤ ls.length ∧ i = .int .i64 j ∧ Hid (Turn ((Value.slice Ao ls.length co).ownBlock.toList) w3 w') ∧ Hid (Spl w' Ao ls.length) ∧ w'.cell? ⟨ob, 1, none⟩ = some (.slice Ao ls.length co)) (fun i _ => ls.length - (intOf i).toNat)
    case atStart => exact ⟨0, Nat.zero_le _, rfl, Lib.hid (Turn.refl _ _), HSP3, by assumption⟩
    case round =>
      obtain ⟨j, hj, rfl, HTs, HSs, kx⟩ := hrel
      have hbx := cell_lt kx
      simp only [] at hbx
      by_cases hlt : j < ls.length
      · cases hA : Ao with
        | none => exact absurd hA (HNZ.out (by omega))
        | some ad =>
          rw [hA] at kx HTs HSs
          obtain ⟨h1, f1⟩ := HSs.out ad rfl j hlt
          obtain ⟨v1, hv1⟩ := Option.isSome_iff_exists.1 h1
          obtain ⟨P, hP⟩ : ∃ P, ad.add (j * 4) = P := ⟨_, rfl⟩
          have hPb : P.block = ad.block := by rw [← hP, block_of_add]
          rw [hP] at hv1 f1
          have hHT : Hid (Turn ((Value.slice (some ad) ls.length co).ownBlock.toList) w3 (wr.setCell ⟨P.block, P.off + 3, none⟩ (.string { data := #[115, 112, 111, 105, 108, 116] }))) := Lib.hid (HTs.out.setCell (.inl (by simp [Value.ownBlock, hPb])) _)
          have hHS : Hid (Spl (wr.setCell ⟨P.block, P.off + 3, none⟩ (.string { data := #[115, 112, 111, 105, 108, 116] })) (some ad) ls.length) := Lib.hid (HSs.out.set _ _)
          have hne : P.block ≠ ob := fun e => by
            have := HBX.out ad hA
            omega
          have kx2 : (wr.setCell ⟨P.block, P.off + 3, none⟩ (.string { data := #[115, 112, 111, 105, 108, 116] })).cell? ⟨ob, 1, none⟩ = some (.slice (some ad) ls.length co) := (World.cell?_setCell_other _ _ _ _ (fun e => hne (by injection e))).trans kx
          have KX2 := Lib.hid kx2
          clear h1 hPb kx2
          go_wp2
          go_roundw
          case rel => exact ⟨j + 1, by omega, by go_num, hHT, hHS, KX2.out⟩
          case measure => simp [intOf]; omega
      · obtain rfl : ls.length = j := by omega
        have hbw : Below w.heap.size w wr := HBW3.out.trans (HTs.out.to_below (fun x hx => by have := (HBF.out x hx).1; omega) HBW3.out.size)
        have q0 : wr.cell? ⟨w.heap.size, 0, none⟩ = some (.int .i64 nx) := HTs.out.cell (p := ⟨w.heap.size, 0, none⟩) (fun hx => by have := (HBF.out _ hx).1; simp only [] at this; omega) d0
        have q1 : wr.cell? ⟨w.heap.size, 1, none⟩ = some (.slice A ls.length c) := HTs.out.cell (p := ⟨w.heap.size, 1, none⟩) (fun hx => by have := (HBF.out _ hx).1; simp only [] at this; omega) d1
        have q2 : wr.cell? ⟨w.heap.size, 2, none⟩ = some (.slice B sv.length d) := HTs.out.cell (p := ⟨w.heap.size, 2, none⟩) (fun hx => by have := (HBF.out _ hx).1; simp only [] at this; omega) d2
        have HBR : Hid (BagAt wr Bb bm lvb ⟨nx, ls, sv⟩) := Lib.hid ((HBG.out.below H23.out).turn HTs.out (fun x hx hy => by have h5 := HFO.out x hx; have h6 := (HBF.out x hy).2; omega))
        have hww : w.heap.size < wr.heap.size := cell_lt q0
        have hsw := hbw.size
        clear d0 d1 d2 d3
        go_wp2_with (fail)
        refine (CP.out _ hbw).mono ?_; rintro e w5 ⟨lr, kr, rfl, o1, o2, od, hb5⟩
        obtain ⟨Ar, cr, hlr⟩ := row_slice' o1
        subst hlr
        obtain ⟨Br, dr, hkr⟩ := row_slice' o2
        subst hkr
        obtain ⟨g, hg⟩ : ∃ g, g = w5.heap.size := ⟨_, rfl⟩
        have hrn := ref_new o1 o2 od HBR.out.ok
        have f1 := own_fresh o1
        have f2 := own_fresh o2
        have hs5 := hb5.size
        rw [← hg] at hrn
        have kb5 : Below w.heap.size w w5 := hbw.trans (hb5.mono hsw)
        have HT0 : Hid (Two (w5.alloc (Obj.cells #[.int .i64 nx, .slice Ar ls.length cr, .slice Br sv.length dr] 59)) Bb bm g lvb (.slice Ar ls.length cr) (.slice Br sv.length dr) ⟨nx, ls, sv⟩) := Lib.hid ⟨HBR.out.below (hb5.alloc hs5 _), hrn, fun x hx hy => by
          have h1 := HBR.out.lt x hx
          simp only [footR, List.mem_cons, List.mem_append, Option.mem_toList] at hy
          rcases hy with rfl | hy | hy
          · omega
          · have := f1 _ hy; omega
          · have := f2 _ hy; omega⟩
        have HF0 : Hid (∀ x ∈ feet Bb bm g lvb (.slice Ar ls.length cr) (.slice Br sv.length dr), w.heap.size < x) := Lib.hid (fun x hx => by
          rcases List.mem_append.1 hx with hx | hx
          · have := HFO.out x hx; omega
          · simp only [footR, List.mem_cons, List.mem_append, Option.mem_toList] at hx
            rcases hx with rfl | hx | hx
            · omega
            · have := f1 _ hx; omega
            · have := f2 _ hx; omega)
        have KB5 := Lib.hid kb5
        clear hrn f1 f2 o1 o2 od q0 q1 q2 hb5 kb5 kx
        go_wp2
        rw [← hg]
        clear hg
        go_loopw [10] (fun i w' => ∃ (j : Nat) (s : BS) (lv lr kr : Value), j ≤ k ∧ i = .int .i64 j ∧ Hid (Two w' Bb bm g lv lr kr s) ∧ Hid (s.sv.length ≤ sv.length + j) ∧ Hid (∀ x ∈ feet Bb bm g lv lr kr, w.heap.size < x) ∧ Below w.heap.size w w') (fun i _ => k - (intOf i).toNat)
        case atStart => exact ⟨0, ⟨nx, ls, sv⟩, _, _, _, Nat.zero_le _, rfl, HT0, Lib.hid (by simp), HF0, (by repeat (first | with_reducible refine Below.setCell ?_ (by first | (simp; done) | (simp; omega) | omega) _ | with_reducible refine Below.alloc ?_ (by first | (simp; done) | (simp; omega) | omega) _ | with_reducible refine Below.drew ?_ | with_reducible refine below_drewN ?_ _ | with_reducible exact Below.refl _ _ | with_reducible refine Below.trans ?_ (Below.mono KB5.out (by first | (simp; done) | (simp; omega) | omega))))⟩
        case round =>
          clear HT0 HF0 KB5 HBR hbw hww hsw hs5
          obtain ⟨j, s, lv, lr, kr, hj, rfl, HT, HL, HFT, kb0⟩ := hrel
          have hs0 := kb0.size
          have HW : Hid ((s.sv.length + 1 + (s.sv.length + 1) / 4 + 192) * 16 ≤ 281474976710656) := Lib.hid (wide_of (by have := HL.out; have := HM.out; have := HKK.out; omega))
          by_cases hlt : j < k
          · obtain ⟨ad, y, rfl, hab, hx, h5⟩ := H3.out.get hlt
            obtain ⟨P, hP⟩ : ∃ P, ad.add (j * 5) = P := ⟨_, rfl⟩
            have hPb : P.block < w.heap.size := by rw [← hP, block_of_add]; exact hab
            rw [hP] at h5
            have HOA := Lib.hid (HO3.out y (List.mem_of_getElem? hx))
            obtain ⟨e0, e1, e2, e3, e4⟩ := acell wr P y (h5.below hPb kb0)
            have hPw : P.block < wr.heap.size := by omega
            have hww2 : w.heap.size < wr.heap.size := by have h1 := HFT.out Bb (by simp [feet, foot]); have h2 := HT.out.lt Bb (by simp [feet, foot]); omega
            clear h5 hx
            go_wp2_with (fail)
            refine (act_any Bb bm g lv lr kr s y _ HT.out HW.out HOA.out).mono ?_; rintro e w2 ⟨rfl, lv2, lr2, kr2, ht2, hf2, hT2⟩
            have kb2 : Below w.heap.size w w2 := kb0.trans (hT2.to_below (fun x hx => by have := HFT.out x hx; omega) hs0)
            have HT2 := Lib.hid ht2
            have HFT2 : Hid (∀ x ∈ feet Bb bm g lv2 lr2 kr2, w.heap.size < x) := Lib.hid (fun x hx => (hf2 x hx).elim (HFT.out x) (fun h => by omega))
            clear ht2 hf2 hT2 e0 e1 e2 e3 e4
            go_wp2
            go_roundw
            case rel => exact ⟨j + 1, actS s y, lv2, lr2, kr2, by omega, by go_num, HT2, Lib.hid (by have := actS_sv s y; have := HL.out; omega), HFT2, kb2⟩
            case measure => simp [intOf]; omega
          · obtain rfl : k = j := by omega
            obtain ⟨wo, hwo⟩ : ∃ wo, wo = wr := ⟨_, rfl⟩
            subst hwo
            go_wp2_with (fail)
            refine (state_any Bb bm lv s _ HT.out.bag HW.out).mono ?_; rintro e w7 ⟨l7, k7, rfl, o1, o2, od, hb7⟩
            obtain ⟨A7, c7, hl7⟩ := row_slice' o1
            subst hl7
            obtain ⟨B7, d7, hk7⟩ := row_slice' o2
            subst hk7
            obtain ⟨Al, cl, hlr, rl⟩ := OwnE.at_ encD_len HT.out.ref.rl
            obtain ⟨Bl, dl, hkr, rk⟩ := OwnE.at_ encL_len HT.out.ref.rs
            subst hlr
            subst hkr
            obtain ⟨sb, hsb⟩ : ∃ sb, sb = w7.heap.size := ⟨_, rfl⟩
            have hs7 := hb7.size
            have hlen7 : s.ls.length ≤ 65536 := HT.out.bag.ok.len
            have fr7 := own_fresh o1
            have ol7 := own_lt o1
            have HNZ7 : Hid (0 < s.ls.length → A7 ≠ none) := Lib.hid (fun h e => by
              obtain ⟨ad, c2, hv, _⟩ := o1.row encD_len Dg0 h
              obtain ⟨h1, _, _⟩ := Value.slice.inj hv
              rw [e] at h1
              cases h1)
            have HBX7 : Hid (∀ ad, A7 = some ad → ad.block < sb) := Lib.hid (fun ad e => by have := ol7 ad.block (by rw [e]; rfl); omega)
            have HRB7 : Hid (∀ x ∈ (Value.slice A7 s.ls.length c7).ownBlock.toList, wo.heap.size ≤ x) := Lib.hid (fun x hx => fr7 x (by simpa using hx))
            have HLT0 := Lib.hid HT.out.lt
            have HLL : Hid (s.sv.length * 2 ≤ 70368744177664) := Lib.hid (by have := HL.out; have := HM.out; have := HKK.out; omega)
            have g0 := (HT.out.below hb7).ref.c0
            have g1 := (HT.out.below hb7).ref.c1
            have g2 := (HT.out.below hb7).ref.c2
            have hgl : g < w7.heap.size := cell_lt g0
            have kb7 : Below w.heap.size w w7 := kb0.trans (hb7.mono hs0)
            have HO1' := Lib.hid o1
            have HO2' := Lib.hid o2
            have HRL := Lib.hid rl
            have HRK := Lib.hid rk
            have HB7 := Lib.hid hb7
            have HKB7 := Lib.hid kb7
            have HSP7 := Lib.hid (spl_own o1)
            clear o1 o2 od rl rk fr7 ol7 hb7
            go_upto_region 18 with (fail)
            obtain ⟨W8, hW8⟩ : ∃ W8, W8 = w7.alloc (Obj.cells #[.int .i64 s.nx, .slice A7 s.ls.length c7, .slice B7 s.sv.length d7] 50) := ⟨_, rfl⟩
            have hb8 : Below w7.heap.size w7 W8 := by rw [hW8]; exact (Below.refl _ _).alloc (Nat.le_refl _) _
            have s0 : W8.cell? ⟨sb, 0, none⟩ = some (.int .i64 s.nx) := by rw [hW8, hsb]; go_simp
            have s1 : W8.cell? ⟨sb, 1, none⟩ = some (.slice A7 s.ls.length c7) := by rw [hW8, hsb]; go_simp
            have s2 : W8.cell? ⟨sb, 2, none⟩ = some (.slice B7 s.sv.length d7) := by rw [hW8, hsb]; go_simp
            have t0 : W8.cell? ⟨g, 0, none⟩ = some (.int .i64 s.nx) := (hb8.cell (p := ⟨g, 0, none⟩) hgl).trans g0
            have t1 : W8.cell? ⟨g, 1, none⟩ = some (.slice Al s.ls.length cl) := (hb8.cell (p := ⟨g, 1, none⟩) hgl).trans g1
            have t2 : W8.cell? ⟨g, 2, none⟩ = some (.slice Bl s.sv.length dl) := (hb8.cell (p := ⟨g, 2, none⟩) hgl).trans g2
            rw [← hW8, ← hsb]
            have hb08 : Below wo.heap.size wo W8 := HB7.out.trans (hb8.mono HB7.out.size)
            have HT8 := Lib.hid (HT.out.below hb08)
            have sm := fun (W : World) (hW : Below W8.heap.size W8 W) => rsame_true s.nx A7 Al c7 cl s.ls.length s.ls B7 Bl d7 dl s.sv.length s.sv W (rows_at encD_len HO1'.out (hb8.trans (hW.mono hb8.size))) ((HRL.out.below (hb08.trans (hW.mono hb08.size))).more (Nat.le_trans hb08.size hW.size)) (rows_at encL_len HO2'.out (hb8.trans (hW.mono hb8.size))) ((HRK.out.below (hb08.trans (hW.mono hb08.size))).more (Nat.le_trans hb08.size hW.size)) HT.out.bag.ok.len HLL.out
            have ln : ∀ (W : World) (hW : Below W8.heap.size W8 W), Calls Try.prog 10 #[.pointer (some ⟨Bb, 0, none⟩)] W fun e w' => e = .returned (.int .i64 s.ls.length) ∧ Below W.heap.size W w' := fun W hW => (len_any Bb bm lv s W (HT8.out.bag.below hW)).mono fun _ _ ⟨he, hw⟩ => ⟨he, by subst hw; exact Below.refl _ _⟩
            have SM := Lib.hid sm
            have LN := Lib.hid ln
            have HB8 := Lib.hid hb8
            clear sm ln hW8 hsb hb8 hb08 g0 g1 g2
            refine wp_region_quietC_lit (KeptC W8 [(⟨sb, 0, none⟩, .int .i64 s.nx), (⟨sb, 1, none⟩, .slice A7 s.ls.length c7), (⟨sb, 2, none⟩, .slice B7 s.sv.length d7), (⟨g, 0, none⟩, .int .i64 s.nx), (⟨g, 1, none⟩, .slice Al s.ls.length cl), (⟨g, 2, none⟩, .slice Bl s.sv.length dl)] []) (by kernel_rfl) (by kernel_rfl) ?_ ?_
            · refine KeptC.drewn ?_
              repeat' (first | refine KeptC.cons ?_ ?_ | refine KeptC.consF ?_ ?_ ?_ | refine KeptC.mk0 ?_)
              all_goals (first | with_reducible assumption | (go_simp; done) | (simp; omega) | exact (by repeat (first | with_reducible refine Below.setCell ?_ (by first | (simp; done) | (simp; omega) | omega) _ | with_reducible refine Below.alloc ?_ (by first | (simp; done) | (simp; omega) | omega) _ | with_reducible refine Below.drew ?_ | with_reducible refine below_drewN ?_ _ | with_reducible exact Below.refl _ _)))
            repeat (first
              | go_big_quiet_skip
              | (go_big_quiet_want; (apply quietC_run); (· intro w' hw'; (have hk' := hw'; simp only [KeptC, List.forall_mem_cons] at hk'; go_split_ands); go_simp; first | done | rfl); (simp only [Act.put, List.setIfInBounds_toArray, List.set_cons_zero, List.set_cons_succ]; go_big_quiet_on))
              | (go_big_quiet_want; (apply quietC_call); (· intro w' hw'; go_simp; first | done | exact ⟨rfl, rfl⟩ | rfl); (· intro w' hw'; first | ((with_reducible refine (SM.out _ (keptc_low hw')).mono ?_); rintro e w2 ⟨rfl, hb⟩; exact ⟨rfl, hw'.below hb⟩) | ((with_reducible refine (LN.out _ (keptc_low hw')).mono ?_); rintro e w2 ⟨rfl, hb⟩; exact ⟨rfl, hw'.below hb⟩)); (simp only [Act.put, List.setIfInBounds_toArray, List.set_cons_zero, List.set_cons_succ]; go_big_quiet_on)))
            refine wpQuiet_nil ?_
            intro w9 hk9
            (have hk' := hk9; simp only [KeptC, List.forall_mem_cons] at hk'; go_split_ands); have hkB9 := hk9.1
            have HT9 := Lib.hid (HT8.out.below hkB9)
            have kb9 : Below w.heap.size w w9 := HKB7.out.trans ((HB8.out.trans (hkB9.mono HB8.out.size)).mono HKB7.out.size)
            have HSP9 := Lib.hid (HSP7.out.below (HB8.out.trans (hkB9.mono HB8.out.size)))
            have hw79 : wo.heap.size ≤ w9.heap.size := by have := HB8.out.size; have := hkB9.size; omega
            clear hk9 s0 s1 s2 t0 t1 t2 SM LN HT8 HT
            go_wp2
            go_loopw [12] (fun i w' => ∃ j : Nat, j ≤ s.ls.length ∧ i = .int .i64 j ∧ Hid (Turn ((Value.slice A7 s.ls.length c7).ownBlock.toList) w9 w') ∧ Hid (Spl w' A7 s.ls.length) ∧ w'.cell? ⟨sb, 1, none⟩ = some (.slice A7 s.ls.length c7)) (fun i _ => s.ls.length - (intOf i).toNat)
            case atStart => exact ⟨0, Nat.zero_le _, rfl, Lib.hid (Turn.refl _ _), HSP9, by assumption⟩
            case round =>
              obtain ⟨j, hj, rfl, HTs, HSs, kx⟩ := hrel
              have hbx := cell_lt kx
              simp only [] at hbx
              by_cases hlt : j < s.ls.length
              · cases hA : A7 with
                | none => exact absurd hA (HNZ7.out (by omega))
                | some ad =>
                  rw [hA] at kx HTs HSs
                  obtain ⟨h1, f1⟩ := HSs.out ad rfl j hlt
                  obtain ⟨v1, hv1⟩ := Option.isSome_iff_exists.1 h1
                  obtain ⟨P, hP⟩ : ∃ P, ad.add (j * 4) = P := ⟨_, rfl⟩
                  have hPb : P.block = ad.block := by rw [← hP, block_of_add]
                  rw [hP] at hv1 f1
                  have hHT : Hid (Turn ((Value.slice (some ad) s.ls.length c7).ownBlock.toList) w9 (wr.setCell ⟨P.block, P.off + 3, none⟩ (.string { data := #[115, 112, 111, 105, 108, 116] }))) := Lib.hid (HTs.out.setCell (.inl (by simp [Value.ownBlock, hPb])) _)
                  have hHS : Hid (Spl (wr.setCell ⟨P.block, P.off + 3, none⟩ (.string { data := #[115, 112, 111, 105, 108, 116] })) (some ad) s.ls.length) := Lib.hid (HSs.out.set _ _)
                  have hne : P.block ≠ sb := fun e => by
                    have := HBX7.out ad hA
                    omega
                  have kx2 : (wr.setCell ⟨P.block, P.off + 3, none⟩ (.string { data := #[115, 112, 111, 105, 108, 116] })).cell? ⟨sb, 1, none⟩ = some (.slice (some ad) s.ls.length c7) := (World.cell?_setCell_other _ _ _ _ (fun e => hne (by injection e))).trans kx
                  have KX2 := Lib.hid kx2
                  clear h1 hPb kx2
                  go_wp2
                  go_roundw
                  case rel => exact ⟨j + 1, by omega, by go_num, hHT, hHS, KX2.out⟩
                  case measure => simp [intOf]; omega
              · obtain rfl : s.ls.length = j := by omega
                have htr := HTs.out
                have hsw := htr.size
                have HTW : Hid (Two wr Bb bm g lv (.slice Al s.ls.length cl) (.slice Bl s.sv.length dl) s) := Lib.hid ((HT9.out).turn htr (fun x hx hy => by have h1 := HRB7.out x hy; have h2 := HLT0.out x hx; omega))
                have HRW := Lib.hid (rows_at encD_len HTW.out.ref.rl (Below.refl _ _))
                have HQW := Lib.hid (rows_at encL_len HTW.out.ref.rs (Below.refl _ _))
                have HBWr : Hid (Below w.heap.size w wr) := Lib.hid (kb9.trans (htr.to_below (fun x hx => by have h1 := HRB7.out x hx; omega) (by omega)))
                have g0 := HTW.out.ref.c0
                have g1 := HTW.out.ref.c1
                have g2 := HTW.out.ref.c2
                have HI : Hid (Below w.heap.size w wr ∧ wr.cell? ⟨g, 0, none⟩ = some (.int .i64 s.nx) ∧ wr.cell? ⟨g, 1, none⟩ = some (.slice Al s.ls.length cl) ∧ wr.cell? ⟨g, 2, none⟩ = some (.slice Bl s.sv.length dl)) := Lib.hid ⟨HBWr.out, g0, g1, g2⟩
                have kB : ∀ (w1 w2 : World), (Below w.heap.size w w1 ∧ w1.cell? ⟨g, 0, none⟩ = some (.int .i64 s.nx) ∧ w1.cell? ⟨g, 1, none⟩ = some (.slice Al s.ls.length cl) ∧ w1.cell? ⟨g, 2, none⟩ = some (.slice Bl s.sv.length dl)) → Below w1.heap.size w1 w2 → (Below w.heap.size w w2 ∧ w2.cell? ⟨g, 0, none⟩ = some (.int .i64 s.nx) ∧ w2.cell? ⟨g, 1, none⟩ = some (.slice Al s.ls.length cl) ∧ w2.cell? ⟨g, 2, none⟩ = some (.slice Bl s.sv.length dl)) := by
                  rintro w1 w2 ⟨k0, k1, k2, k3⟩ hb
                  exact ⟨k0.trans (hb.mono k0.size), (hb.cell (p := ⟨g, 0, none⟩) (cell_lt k1)).trans k1, (hb.cell (p := ⟨g, 1, none⟩) (cell_lt k2)).trans k2, (hb.cell (p := ⟨g, 2, none⟩) (cell_lt k3)).trans k3⟩
                have KD : Hid (∀ (w1 : World), (Below w.heap.size w w1 ∧ w1.cell? ⟨g, 0, none⟩ = some (.int .i64 s.nx) ∧ w1.cell? ⟨g, 1, none⟩ = some (.slice Al s.ls.length cl) ∧ w1.cell? ⟨g, 2, none⟩ = some (.slice Bl s.sv.length dl)) → (Below w.heap.size w w1.drew ∧ w1.drew.cell? ⟨g, 0, none⟩ = some (.int .i64 s.nx) ∧ w1.drew.cell? ⟨g, 1, none⟩ = some (.slice Al s.ls.length cl) ∧ w1.drew.cell? ⟨g, 2, none⟩ = some (.slice Bl s.sv.length dl))) := Lib.hid (fun w1 h => kB _ _ h ((Below.refl _ _).drew))
                have KB := Lib.hid kB
                have sm2 := fun (A1 : Option Addr) (c1 : Nat) (B1 : Option Addr) (d1 : Nat) (W : World) (r1 : RowsE encD 4 W W.heap.size A1 s.ls.length s.ls) (q1 : RowsE encL 2 W W.heap.size B1 s.sv.length s.sv) (hb : Below wr.heap.size wr W) => rsame_true s.nx A1 Al c1 cl s.ls.length s.ls B1 Bl d1 dl s.sv.length s.sv W r1 ((HRW.out.below hb).more hb.size) q1 ((HQW.out.below hb).more hb.size) HTW.out.bag.ok.len (by have := HLL.out; omega)
                have SM2 := Lib.hid sm2
                clear kB sm2 g0 g1 g2 htr kb9
                go_wp2_with (fail)
                go_region_held3 (fun w' => Below w.heap.size w w' ∧ w'.cell? ⟨g, 0, none⟩ = some (.int .i64 s.nx) ∧ w'.cell? ⟨g, 1, none⟩ = some (.slice Al s.ls.length cl) ∧ w'.cell? ⟨g, 2, none⟩ = some (.slice Bl s.sv.length dl)) (repeat (first | with_reducible assumption | with_reducible exact HI.out | with_reducible refine KD.out _ ?_ | with_reducible refine KB.out _ _ ?_ (by assumption))) (first | ((with_reducible refine (state_any Bb bm lv s _ (HTW.out.bag.below ((Below.refl _ _).drew)) HW.out).mono ?_); rintro e w10 ⟨l10, k10, rfl, o1, o2, od, hb10⟩; obtain ⟨A10, c10, hv1, r1⟩ := OwnE.at_ encD_len o1; subst hv1; obtain ⟨B10, d10, hv2, r2⟩ := OwnE.at_ encL_len o2; subst hv2; have HR10 := Lib.hid r1; have HQ10 := Lib.hid r2; have HB10 : Hid (Below wr.heap.size wr w10) := Lib.hid (((Below.refl wr.heap.size wr).drew).trans hb10); clear o1 o2 od r1 r2) | ((with_reducible refine (SM2.out A10 c10 B10 d10 _ HR10.out HQ10.out HB10.out).mono ?_); rintro e w11 ⟨rfl, hb11⟩) | ((with_reducible refine (awake_any _).mono ?_); rintro e w12 ⟨rfl, hb12⟩))
                all_goals (
                  have kb12 : Below w.heap.size w w12 := And.left (by assumption : Below w.heap.size w w12 ∧ _)
                  go_wp2
                  go_ret
                  exact ⟨rfl, (by repeat (first | with_reducible refine Below.setCell ?_ (by first | (simp; done) | (simp; omega) | omega) _ | with_reducible refine Below.alloc ?_ (by first | (simp; done) | (simp; omega) | omega) _ | with_reducible refine Below.drew ?_ | with_reducible refine below_drewN ?_ _ | with_reducible exact Below.refl _ _ | with_reducible refine Below.trans ?_ (Below.mono kb12 (by first | (simp; done) | (simp; omega) | omega))))⟩)
/-! ### The arguments -/
section
variable {H : Type} {enc : TypeId × Value → H} {w : World} {base b0 : Nat} {spare : Nat → Bool} {held : Bool}
theorem trod_rows {α : Type} {enc2 : α → List Value} {k : Nat} (hk : ∀ x, (enc2 x).length = k) (h0 : 0 < k) (d0 : α) {Q : α → Prop} {t e : TypeId} {v : Value} {fuel : Nat} {x : DataW H × List MemPlace}
    (ht : Try.prog.underlying t = some (.slice e)) (hc : Try.prog.cellsOf e = k)
    (hel : ∀ (fuel : Nat) (cs : List Value) (x : DataW H × List MemPlace), DataW.trod enc Try.prog w base spare held fuel e cs = some x → ∃ y, cs = enc2 y ∧ Q y)
    (h : DataW.trod enc Try.prog w base spare held fuel t [v] = some x) :
    ∃ (A : Option Addr) (n c : Nat) (rs : List α), v = .slice A n c ∧ RowsE enc2 k w w.heap.size A n rs ∧ (∀ y ∈ rs, Q y) ∧ ((x.1 = .nil ∧ n = 0) ∨ ∃ el sp, x.1 = .slice el sp ∧ el.length = n) := by
  rcases open_slice ht h with ⟨h1, h2⟩ | ⟨a, n, c, m, n', D, Pl, h1, hb, hl, hm, hmm, h2, hcell⟩
  · obtain rfl := (List.cons.inj h1).1
    exact ⟨none, 0, 0, [], rfl, rowsE_nil _ _ _, fun _ h => (by cases h), .inl ⟨by rw [h2], rfl⟩⟩
  · obtain rfl := (List.cons.inj h1).1
    have hnm : n ≤ m := by rw [hmm]; split <;> omega
    have HX : ∀ i, i < n → ∃ x : α, CellsE enc2 w (a.add (i * k)) x ∧ Q x := fun i hi => by
      obtain ⟨cs', hc', ht'⟩ := hcell i (by omega)
      rw [hc] at hc'
      obtain ⟨y, rfl, hs⟩ := hel _ _ _ ht'
      obtain ⟨_, hcl, hat⟩ := World.cells?_some hc'
      refine ⟨y, fun t u hu => ?_, hs⟩
      have htl : t < k := by have := (List.getElem?_eq_some_iff.1 hu).1; rwa [hk] at this
      rw [hat t htl, hu]
    refine ⟨some a, n, c, (List.range n).map (fun i => if h : i < n then Classical.choose (HX i h) else d0), rfl, ⟨by simp, fun hn => ⟨a, rfl, ?_, fun j x hx => ?_⟩⟩, ?_, .inr ⟨_, _, (by rw [h2]), by simp⟩⟩
    · obtain ⟨x, hx, _⟩ := HX 0 hn
      have hlx : 0 < (enc2 x).length := by rw [hk]; exact h0
      have h3 := cell_lt (hx 0 _ (List.getElem?_eq_getElem hlx))
      rwa [block_of_add, block_of_add] at h3
    · obtain ⟨hj, hx⟩ := List.getElem?_eq_some_iff.1 hx
      simp at hj
      simp [hj] at hx
      rw [← hx]
      exact (Classical.choose_spec (HX j hj)).1
    · intro x hx
      obtain ⟨i, hi, rfl⟩ := List.mem_map.1 hx
      rw [List.mem_range] at hi
      rw [dif_pos hi]
      exact (Classical.choose_spec (HX i hi)).2
theorem open_mail {v : Value} {d : DataW H} {p : List MemPlace} (hv : Value.okWide Try.prog w .any b0 50 v) (h : DataW.Trod enc Try.prog w base spare held 50 v d p) :
    ∃ (nx : Int) (A B : Option Addr) (n c m q : Nat) (ls : List Dg) (sv : List LK) (y1 y2 : DataW H) (y0 : DataW H), v = .agg #[.int .i64 nx, .slice A n c, .slice B m q] ∧ d = .agg [y0, y1, y2] ∧ RowsE encD 4 w w.heap.size A n ls ∧ RowsE encL 2 w w.heap.size B m sv ∧ (∀ y ∈ ls, i64B y.num ∧ i64B y.frm ∧ i64B y.dst) ∧ (∀ y ∈ sv, i64B y.1 ∧ i64B y.2) ∧ ((y1 = .nil ∧ n = 0) ∨ ∃ el sp, y1 = .slice el sp ∧ el.length = n) ∧ ((y2 = .nil ∧ m = 0) ∨ ∃ el sp, y2 = .slice el sp ∧ el.length = m) := by
  obtain ⟨v0, v1, v2, y0, y1, y2, n, rfl, rfl, _, t0, t1, t2⟩ := open_agg3 Try.underlying50 (by kernel_rfl) (by kernel_rfl) hv h
  obtain ⟨z0, e0, _, w0⟩ := DataW.trod_int Try.underlying2 t0
  obtain rfl := (List.cons.inj e0).1
  obtain ⟨A, n1, c1, ls, rfl, r1, q1, s1⟩ := trod_rows encD_len (by omega) Dg0 Try.underlying43 cells_dg (fun _ _ _ h => trod_dg h) t1
  obtain ⟨B, n2, c2, sv, rfl, r2, q2, s2⟩ := trod_rows encL_len (by omega) (0, 0) Try.underlying48 cells_lk (fun _ _ _ h => trod_lk h) t2
  exact ⟨z0, A, B, n1, c1, n2, c2, ls, sv, y1.1, y2.1, y0.1, rfl, rfl, r1, r2, q1, q2, s1, s2⟩
theorem small_in {ts : List TypeId} {ds : List (DataW H)} (h : (DataW.weightsEach Try.prog ts ds).all (· ≤ reachBytes) = true) {j i n : Nat} {ps : List (DataW H)} {d : DataW H} {t u e : TypeId} {b : Nat} {fs : Array Field} (ht : ts[j]? = some t) (hd : ds[j]? = some (.agg ps)) (hs : Try.prog.underlying t = some (.struct fs)) (hf : (fs.toList.map (·.type))[i]? = some u) (hp : ps[i]? = some d)
    (hu : Try.prog.underlying u = some (.slice e)) (hb : Try.prog.bytesOf e = b) (hx : (d = .nil ∧ n = 0) ∨ ∃ el sp, d = .slice el sp ∧ el.length = n) : n * b ≤ 140737488351232 := by
  rcases hx with ⟨_, rfl⟩ | ⟨el, sp, rfl, rfl⟩
  · simp
  · have hz : (el.length + sp.length) * Try.prog.bytesOf e ∈ DataW.weights Try.prog t (.agg ps) := by
      simp only [DataW.weights, hs]
      exact DataW.weights_mem_each hf hp _ (by simp [DataW.weights, hu])
    have := List.all_eq_true.1 h _ (DataW.weights_mem_each ht hd _ hz)
    rw [hb] at this
    have h2 : (el.length + sp.length) * b ≤ reachBytes := by simpa using this
    have h3 := Nat.le_trans (Nat.mul_le_mul_right b (show el.length ≤ el.length + sp.length by omega)) h2
    simp only [reachBytes] at h3
    omega
end
theorem bagPlays_lifted (os : Os) (started : os.Started) (H : Type) (enc : TypeId × Value → H) :
    ReturnsInHanded {} Try.checked os 5 .any (Rows.bagPlaysSpec.pre6 enc Try.prog Try.f5 Rows.bagPlaysRow.domain false) (Rows.bagPlaysSpec.post enc Try.prog Try.f5 false true false false) := by
  refine returnsInHanded_of_change_sized (C := Try.checked) own started (by kernel_rfl) Try.func5
    (ChangeSpec.witness6 (enc := enc) (C := Try.checked) false ⟨#[], #[.agg #[.int .i64 0, .slice none 0 0, .slice none 0 0], .slice none 0 0], []⟩ 8 (by kernel_rfl) (by kernel_rfl) (by kernel_rfl) (by kernel_rfl)) ?_
  intro W base args ds gs before hval hW _ hsz _
  have hW' := hW
  obtain ⟨p, q, hA, hV, rfl, hfz, hnd⟩ := hW
  obtain ⟨rfl, rfl⟩ := trodVars_none hV
  rw [Try.params5] at hA hval
  obtain ⟨v0, vs0, d0, ds0, p0, q0, hargs, rfl, rfl, h0, r0⟩ := trodAll_cons hA
  obtain ⟨v1, vs1, d1, ds1, p1, q1, rfl, rfl, rfl, h1, r1⟩ := trodAll_cons r0
  obtain ⟨rfl, rfl, rfl⟩ := trodAll_nil r1
  obtain rfl : args = #[v0, v1] := by cases args; simp_all
  obtain ⟨nx, A, B, n, c, m, q, ls, sv, y1, y2, y0, rfl, rfl, hr1, hr2, ho1, ho2, hy1, hy2⟩ := open_mail (hval 0 _ v0 rfl rfl) h0
  obtain ⟨D, k, c3, ts, rfl, _, hr3, ho3, hd3⟩ := open_acts (hval 1 _ v1 rfl rfl) h1
  refine (bagPlays_any nx A B D n c m q k c3 ls sv ts W hr1 hr2 hr3 ho1 ho2 ho3 (small_in hsz (j := 0) (i := 1) rfl rfl Try.underlying50 rfl rfl Try.underlying43 (by kernel_rfl) hy1) (small_in hsz (j := 0) (i := 2) rfl rfl Try.underlying50 rfl rfl Try.underlying48 (by kernel_rfl) hy2) (small_rows hsz (j := 1) rfl rfl Try.underlying22 (by kernel_rfl) hd3)).mono fun e W' ⟨he, hg⟩ => ?_
  subst he
  exact ⟨_, rfl, law_post laidOut rfl (by kernel_rfl) rfl Try.underlying4 rfl hW' hg⟩

theorem bagPlays_holds : Rows.BagPlaysSaid :=
  OpenClaim.holds_of_wide 5 Try.f5 rfl rfl rfl rfl rfl rfl rfl ⟨rfl, rfl, rfl, rfl, rfl⟩ rfl rfl rfl rfl rfl (by kernel_rfl) Try.func5 (by kernel_rfl)
    (of_decide_eq_true (by kernel_rfl)) (by unfold Func.isWrapper; first | (rw [if_pos (by decide +kernel)]; kernel_rfl) | (rw [if_neg (by decide +kernel)]; exact ⟨rfl, rfl⟩))
    (fun os started H enc _ => bagPlays_lifted os started H enc)

end Go.Proofs.Ytdaobbffhfbceaa
