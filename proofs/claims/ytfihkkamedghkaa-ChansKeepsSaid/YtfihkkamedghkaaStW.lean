/- Set of chans: what the call computes, for fit states. -/
import Derived.Test.YtfihkkamedghkaaStU
import Derived.Test.YtfihkkamedghkaaStG
import Derived.Deep.Cut
namespace Go.Proofs.Ytfihkkamedghkaa
open Go.RowKit
set_option linter.unusedVariables false
theorem lay {P : Program} {c : Code} {Q : Exit → Act → World → Prop} {a : Act} {W : World} (C : World → Prop) (hC : C W) (h : ∀ W', C W' → c.wp P Q a W') : c.wp P Q a W := h W hC
theorem st16_open {w : World} {g o : Nat} {x : St} (h : st16 w ⟨g, o, none⟩ x) : w.cell? ⟨g, o, none⟩ = some (.string x.ch.name) ∧ w.cell? ⟨g, o + 1, none⟩ = some (.int .i64 x.ch.ep) ∧ w.cell? ⟨g, o + 2, none⟩ = some (.int .i64 x.ch.who) ∧ w.cell? ⟨g, o + 3, none⟩ = some (.bool x.ch.al) ∧ w.cell? ⟨g, o + 4, none⟩ = some (.int .i64 x.ch.kd) ∧ w.cell? ⟨g, o + 5, none⟩ = some (.int .i64 x.ch.sc) ∧ w.cell? ⟨g, o + 6, none⟩ = some (.bool x.has) ∧ w.cell? ⟨g, o + 7, none⟩ = some (.int .i64 x.inp) ∧ w.cell? ⟨g, o + 8, none⟩ = some (.bool x.mn.has) ∧ w.cell? ⟨g, o + 9, none⟩ = some (.int .i64 x.mn.val) ∧ w.cell? ⟨g, o + 10, none⟩ = some (.int .i64 x.mn.org) ∧ w.cell? ⟨g, o + 11, none⟩ = some (.int .i64 x.mn.age) ∧ w.cell? ⟨g, o + 12, none⟩ = some (.bool x.mx.has) ∧ w.cell? ⟨g, o + 13, none⟩ = some (.int .i64 x.mx.val) ∧ w.cell? ⟨g, o + 14, none⟩ = some (.int .i64 x.mx.org) ∧ w.cell? ⟨g, o + 15, none⟩ = some (.int .i64 x.mx.age) := h
set_option maxRecDepth 100000 in
set_option maxHeartbeats 8000000 in
theorem sset_any (A : Option Addr) (n cp : Nat) (rs : List St) (id : Int) (nm : ByteArray) (x : Int) (w : World) (hr : StsAt w w.heap.size A n rs) (hm : n * 136 ≤ 140737488351232) (hk : ∀ y ∈ rs, 1 ≤ y.ch.kd ∧ y.ch.kd ≤ 4) (hfe : ∀ y ∈ rs, fitE y.mn ∧ fitE y.mx) (h0 : 0 ≤ id) (h16 : id < 16) :
    Calls Try.prog 17 #[.slice A n cp, .int .i64 id, .string nm, .int .i64 x] w fun e w' => ∃ lv, e = .returned (.tuple #[lv, .int .i64 (setR id rs nm x).2]) ∧ ReadS w' lv (setR id rs nm x).1 ∧ Below w.heap.size w w' := by
  have HR := Lib.hid hr
  obtain rfl := hr.len
  have cc := fun W (hb : Below w.heap.size w W) => scopy_any A rs.length cp rs W ((HR.out.below hb).more hb.size) hm
  have CC := Lib.hid cc
  have HK := Lib.hid hk
  have HFE := Lib.hid hfe
  clear hr cc hk hfe
  cases hp : plc rs nm with
  | none =>
    have HRES : Hid (setR id rs nm x = (rs, 44)) := Lib.hid (setR_none hp)
    go_enter Try.func17, Try.ntmps17
    go_wp2_with (fail)
    refine (CC.out _ (by repeat (first | with_reducible refine Below.setCell ?_ (by first | (simp; done) | (simp; omega) | omega) _ | with_reducible refine Below.alloc ?_ (by first | (simp; done) | (simp; omega) | omega) _ | with_reducible refine Below.drew ?_ | with_reducible refine below_drewN ?_ _ | with_reducible exact Below.refl _ _))).mono ?_; rintro e w1 ⟨lv, rfl, hown, hb1⟩
    obtain ⟨A1, c1, rfl, hat⟩ := hown.at_ HR.out.2
    have cp := fun W (hb : Below w1.heap.size w1 W) => place_any A1 rs.length c1 rs nm W ((hat.below hb).more hb.size) hm
    simp only [hp, Option.getD_none, Option.isSome_none] at cp
    have CP := Lib.hid cp
    have HAT := Lib.hid hat
    clear cp hat hown hp
    have hz1 := hb1.size
    go_wp2_with (fail)
    refine (CP.out _ (by repeat (first | with_reducible refine Below.setCell ?_ (by first | (simp; done) | (simp; omega) | omega) _ | with_reducible refine Below.alloc ?_ (by first | (simp; done) | (simp; omega) | omega) _ | with_reducible refine Below.drew ?_ | with_reducible refine below_drewN ?_ _ | with_reducible exact Below.refl _ _))).mono ?_; rintro e w2 ⟨rfl, hb2⟩
    have kb2 : Below w.heap.size w w2 := (by repeat (first | with_reducible refine Below.setCell ?_ (by first | (simp; done) | (simp; omega) | omega) _ | with_reducible refine Below.alloc ?_ (by first | (simp; done) | (simp; omega) | omega) _ | with_reducible refine Below.drew ?_ | with_reducible refine below_drewN ?_ _ | with_reducible exact Below.refl _ _ | with_reducible refine Below.trans ?_ (Below.mono hb2 (by first | (simp; done) | (simp; omega) | omega)) | with_reducible refine Below.trans ?_ (Below.mono hb1 (by first | (simp; done) | (simp; omega) | omega))))
    have kr2 : Below w1.heap.size w1 w2 := (by repeat (first | with_reducible refine Below.setCell ?_ (by first | (simp; done) | (simp; omega) | omega) _ | with_reducible refine Below.alloc ?_ (by first | (simp; done) | (simp; omega) | omega) _ | with_reducible refine Below.drew ?_ | with_reducible refine below_drewN ?_ _ | with_reducible exact Below.refl _ _ | with_reducible refine Below.trans ?_ (Below.mono hb2 (by first | (simp; done) | (simp; omega) | omega))))
    go_wp2
    refine bodyPost_ret (v := .tuple #[.slice A1 rs.length c1, .int .i64 44]) (by simp [results, Try.results17, go_sem, *]) rfl ⟨_, by rw [HRES.out], ?_, kb2⟩
    rw [HRES.out]
    exact ⟨A1, c1, rfl, (HAT.out.below kr2).more kr2.size⟩
  | some k =>
  obtain ⟨z, hz, _, _⟩ := plc_some hp
  have hkn : k < rs.length := (List.getElem?_eq_some_iff.1 hz).1
  obtain ⟨hk1, hk4⟩ := HK.out z (List.mem_of_getElem? hz)
  obtain ⟨hf1, hf2⟩ := HFE.out z (List.mem_of_getElem? hz)
  obtain ⟨nn, er, ht⟩ : ∃ a b, toldF z.ch.kd x z.ch.sc = (a, b) := ⟨_, _, rfl⟩
  have ct := fun W => told_any z.ch.kd x z.ch.sc hk1 hk4 W
  rw [ht] at ct
  have CT := Lib.hid ct
  have HT := Lib.hid ht
  have HP := Lib.hid hp
  have HZ := Lib.hid hz
  clear ct ht hk1 hk4
  go_enter Try.func17, Try.ntmps17
  go_wp2_with (fail)
  refine (CC.out _ (by repeat (first | with_reducible refine Below.setCell ?_ (by first | (simp; done) | (simp; omega) | omega) _ | with_reducible refine Below.alloc ?_ (by first | (simp; done) | (simp; omega) | omega) _ | with_reducible refine Below.drew ?_ | with_reducible refine below_drewN ?_ _ | with_reducible exact Below.refl _ _))).mono ?_; rintro e w1 ⟨lv, rfl, hown, hb1⟩
  obtain ⟨ad, cx, rfl, hsp, hbase, hab, _, hrow⟩ := OwnE.row stV_len St0 hown (by omega)
  have hrw : RowsE stV 16 w1 w1.heap.size (some ad) rs.length rs := row_rows hrow (Nat.le_refl _) rfl (by intro t y hy; rw [hy]; rfl) hab
  have hat : StsAt w1 w1.heap.size (some ad) rs.length rs := ⟨hrw, HR.out.2⟩
  obtain ⟨g, hg⟩ : ∃ g, ad.block = g := ⟨_, rfl⟩
  obtain ⟨o, ho⟩ : ∃ o, ad.off + k * 16 = o := ⟨_, rfl⟩
  have hq : ad.add (k * 16) = ⟨g, o, none⟩ := by rw [addr_eq hsp, hg, ho]
  rw [hg] at hbase hab
  have hfz : ∀ i, i < 16 → w1.frozen? ⟨g, o + i, none⟩ = false := fun i hi => by
    have := (hrow k hkn).2 i hi
    rwa [hq, Addr.add_lit] at this
  obtain ⟨ad2, y, hA2, _, hy, _, hc16⟩ := hat.get hkn
  obtain rfl := Option.some.inj hA2
  rw [hq] at hc16
  obtain rfl := Option.some.inj (hz.symm.trans hy)
  have cp := fun W (hb : Below w1.heap.size w1 W) => place_any (some ad) rs.length cx rs nm W ((hat.below hb).more hb.size) hm
  simp only [hp, Option.getD_some, Option.isSome_some] at cp
  have CP := Lib.hid cp
  have HRW := Lib.hid hrw
  have HFZ := Lib.hid hfz
  have H16 := Lib.hid hc16
  have hz1 := hb1.size
  clear cp hrw hfz hrow hown hp hat hc16 hg ho hy hz
  obtain ⟨⟨xs, xe, xm, xa, xk, xc⟩, xh, xi, ⟨xp, xv, xo, xg⟩, ⟨xq, xu, xr, xt⟩⟩ := z
  simp only [] at CT hf1 hf2
  go_wp2_with (fail)
  refine (CP.out _ (by repeat (first | with_reducible refine Below.setCell ?_ (by first | (simp; done) | (simp; omega) | omega) _ | with_reducible refine Below.alloc ?_ (by first | (simp; done) | (simp; omega) | omega) _ | with_reducible refine Below.drew ?_ | with_reducible refine below_drewN ?_ _ | with_reducible exact Below.refl _ _))).mono ?_; rintro e w2 ⟨rfl, hb2⟩
  have kb2 : Below w.heap.size w w2 := (by repeat (first | with_reducible refine Below.setCell ?_ (by first | (simp; done) | (simp; omega) | omega) _ | with_reducible refine Below.alloc ?_ (by first | (simp; done) | (simp; omega) | omega) _ | with_reducible refine Below.drew ?_ | with_reducible refine below_drewN ?_ _ | with_reducible exact Below.refl _ _ | with_reducible refine Below.trans ?_ (Below.mono hb2 (by first | (simp; done) | (simp; omega) | omega)) | with_reducible refine Below.trans ?_ (Below.mono hb1 (by first | (simp; done) | (simp; omega) | omega))))
  have kr2 : Below w1.heap.size w1 w2 := (by repeat (first | with_reducible refine Below.setCell ?_ (by first | (simp; done) | (simp; omega) | omega) _ | with_reducible refine Below.alloc ?_ (by first | (simp; done) | (simp; omega) | omega) _ | with_reducible refine Below.drew ?_ | with_reducible refine below_drewN ?_ _ | with_reducible exact Below.refl _ _ | with_reducible refine Below.trans ?_ (Below.mono hb2 (by first | (simp; done) | (simp; omega) | omega))))
  have hz2 := kr2.size
  clear hb2 CP hb1
  obtain ⟨c0, c1, c2, c3, c4, c5, _⟩ := st16_open (H16.out.below hab kr2)
  simp only [] at c0 c1 c2 c3 c4 c5
  have hg2 : g < w2.heap.size := by omega
  go_wp2_with (fail)
  refine (CT.out _).mono ?_; rintro e w3 ⟨rfl, hb3⟩
  have b4 : w3.cell? ⟨w2.heap.size, 4, none⟩ = some (.int .i64 xk) := (hb3.cell (p := ⟨w2.heap.size, 4, none⟩) (by first | (simp; done) | (simp; omega) | omega)).trans (by go_simp)
  have kb3 : Below w.heap.size w w3 := (by repeat (first | with_reducible refine Below.setCell ?_ (by first | (simp; done) | (simp; omega) | omega) _ | with_reducible refine Below.alloc ?_ (by first | (simp; done) | (simp; omega) | omega) _ | with_reducible refine Below.drew ?_ | with_reducible refine below_drewN ?_ _ | with_reducible exact Below.refl _ _ | with_reducible refine Below.trans ?_ (Below.mono hb3 (by first | (simp; done) | (simp; omega) | omega)) | with_reducible refine Below.trans ?_ (Below.mono kb2 (by first | (simp; done) | (simp; omega) | omega))))
  have kr3 : Below w1.heap.size w1 w3 := (by repeat (first | with_reducible refine Below.setCell ?_ (by first | (simp; done) | (simp; omega) | omega) _ | with_reducible refine Below.alloc ?_ (by first | (simp; done) | (simp; omega) | omega) _ | with_reducible refine Below.drew ?_ | with_reducible refine below_drewN ?_ _ | with_reducible exact Below.refl _ _ | with_reducible refine Below.trans ?_ (Below.mono hb3 (by first | (simp; done) | (simp; omega) | omega)) | with_reducible refine Below.trans ?_ (Below.mono kr2 (by first | (simp; done) | (simp; omega) | omega))))
  clear hb3 c0 c1 c2 c3 c4 c5
  have hg3 : g < w3.heap.size := by have := kr3.size; omega
  by_cases her : er = 0
  rotate_left
  · have hnb : (er != 0) = true := by simpa using her
    have HRES : Hid (setR id rs nm x = (rs, er)) := Lib.hid (setR_bad HP.out HZ.out HT.out her)
    go_wp2
    refine bodyPost_ret (v := .tuple #[.slice (some ad) rs.length cx, .int .i64 er]) (by simp [results, Try.results17, go_sem, *]) rfl ⟨_, by rw [HRES.out], ?_, kb3⟩
    rw [HRES.out]
    exact ⟨_, _, rfl, (HRW.out.below kr3).more kr3.size, HR.out.2⟩
  subst her
  have hfl : flowB nn = true := by have := told_flow (kd := xk) (x := x) (sc := xc) (by rw [HT.out]); rwa [HT.out] at this
  have z6 : w3.frozen? ⟨g, o + 6, none⟩ = false := (kr3.frozen (p := ⟨g, o + 6, none⟩) hab).trans (HFZ.out 6 (by omega))
  have z7 : w3.frozen? ⟨g, o + 7, none⟩ = false := (kr3.frozen (p := ⟨g, o + 7, none⟩) hab).trans (HFZ.out 7 (by omega))
  obtain ⟨_, _, _, _, _, _, c6, c7, _⟩ := st16_open (H16.out.below hab kr3)
  simp only [] at c6 c7
  have r0 : RowsE stV 16 w3 w1.heap.size (some ad) rs.length (rs.set k ⟨⟨xs, xe, xm, xa, xk, xc⟩, xh, xi, ⟨xp, xv, xo, xg⟩, ⟨xq, xu, xr, xt⟩⟩) := by rw [set_same HZ.out]; exact HRW.out.below kr3
  have r1 := rowsE_upd r0 hkn hq (i := 6) (v := .bool true) (x' := ⟨⟨xs, xe, xm, xa, xk, xc⟩, true, xi, ⟨xp, xv, xo, xg⟩, ⟨xq, xu, xr, xt⟩⟩) (by omega) rfl
  have r2 := rowsE_upd r1 hkn hq (i := 7) (v := .int .i64 nn) (x' := ⟨⟨xs, xe, xm, xa, xk, xc⟩, true, nn, ⟨xp, xv, xo, xg⟩, ⟨xq, xu, xr, xt⟩⟩) (by omega) rfl
  clear r0 r1
  have R2 := Lib.hid r2
  clear r2
  have hne : ¬ (w2.heap.size = g) := by omega
  by_cases hk4 : xk = 4
  rotate_left
  · have hkb : (xk == 4) = false := by simpa using hk4
    have HRES : Hid (setR id rs nm x = (rs.set k ⟨⟨xs, xe, xm, xa, xk, xc⟩, true, nn, ⟨xp, xv, xo, xg⟩, ⟨xq, xu, xr, xt⟩⟩, 0)) := Lib.hid (by rw [setR_ok HP.out HZ.out HT.out]; unfold setX; simp only []; rw [if_neg hk4, if_neg hk4])
    go_wp2
    refine bodyPost_ret (v := .tuple #[.slice (some ad) rs.length cx, .int .i64 0]) (by simp [results, Try.results17, go_sem, *]) rfl ⟨_, by rw [HRES.out], ?_, (by repeat (first | with_reducible refine Below.setCell ?_ (by first | (simp; done) | (simp; omega) | omega) _ | with_reducible refine Below.alloc ?_ (by first | (simp; done) | (simp; omega) | omega) _ | with_reducible refine Below.drew ?_ | with_reducible refine below_drewN ?_ _ | with_reducible exact Below.refl _ _ | with_reducible refine Below.trans ?_ (Below.mono kb3 (by first | (simp; done) | (simp; omega) | omega))))⟩
    rw [HRES.out]
    refine ⟨_, _, by rw [List.length_set], ?_, set_names HZ.out rfl HR.out.2⟩
    rw [List.length_set]
    exact R2.out.more (by have := kr3.size; simp; omega)
  subst hk4
  clear kb2 kr2 hg2
  obtain ⟨P, hP⟩ : ∃ P, setE 1 id nn ⟨xp, xv, xo, xg⟩ = P := ⟨_, rfl⟩
  obtain ⟨Q, hQ⟩ : ∃ Q, setE (-1) id nn ⟨xq, xu, xr, xt⟩ = Q := ⟨_, rfl⟩
  have cs := fun W => setE_any id nn ⟨xp, xv, xo, xg⟩ ⟨xq, xu, xr, xt⟩ h0 h16 hfl hf1 hf2 W
  rw [hP, hQ] at cs
  obtain ⟨pp, pv, po, pg⟩ := P
  obtain ⟨qq, qv, qo, qg⟩ := Q
  simp only [] at cs
  have C4 := Lib.hid cs
  have HRES : Hid (setR id rs nm x = (rs.set k ⟨⟨xs, xe, xm, xa, 4, xc⟩, true, nn, ⟨pp, pv, po, pg⟩, ⟨qq, qv, qo, qg⟩⟩, 0)) := Lib.hid (by rw [setR_ok HP.out HZ.out HT.out]; simp only [setX, if_true, hP, hQ])
  clear cs hP hQ hf1 hf2
  go_upto_region 11 with (fail)
  refine lay (fun W => Below w.heap.size w W ∧ w1.heap.size ≤ W.heap.size ∧ RowsE stV 16 W w1.heap.size (some ad) rs.length (rs.set k ⟨⟨xs, xe, xm, xa, 4, xc⟩, true, nn, ⟨xp, xv, xo, xg⟩, ⟨xq, xu, xr, xt⟩⟩) ∧ ∀ i, i < 16 → W.frozen? ⟨g, o + i, none⟩ = false) ⟨(by repeat (first | with_reducible refine Below.setCell ?_ (by first | (simp; done) | (simp; omega) | omega) _ | with_reducible refine Below.alloc ?_ (by first | (simp; done) | (simp; omega) | omega) _ | with_reducible refine Below.drew ?_ | with_reducible refine below_drewN ?_ _ | with_reducible exact Below.refl _ _ | with_reducible refine Below.trans ?_ (Below.mono kb3 (by first | (simp; done) | (simp; omega) | omega)))), by have := kr3.size; simp; omega, R2.out, fun i hi => by rw [World.frozen?_setCell, World.frozen?_setCell]; exact (kr3.frozen (p := ⟨g, o + i, none⟩) hab).trans (HFZ.out i hi)⟩ ?_
  rintro w4 ⟨kb4, hs4, hrw4, hfz4⟩
  obtain ⟨_, _, _, _, _, _, _, _, c8, c9, c10, c11, c12, c13, c14, c15⟩ := st16_open (rowsE_at hrw4 hkn hq)
  simp only [] at c8 c9 c10 c11 c12 c13 c14 c15
  have HR4 := Lib.hid hrw4
  have hg4 : g < w4.heap.size := by omega
  have f8 := hfz4 8 (by omega)
  have f9 := hfz4 9 (by omega)
  have f10 := hfz4 10 (by omega)
  have f11 := hfz4 11 (by omega)
  have f12 := hfz4 12 (by omega)
  have f13 := hfz4 13 (by omega)
  have f14 := hfz4 14 (by omega)
  have f15 := hfz4 15 (by omega)
  clear hrw4 hfz4 b4 z6 z7 c6 c7 hne kb3 kr3 R2
  have K0 : KeptC w4 [(⟨g, o + 8, none⟩, .bool xp), (⟨g, o + 9, none⟩, .int .i64 xv), (⟨g, o + 10, none⟩, .int .i64 xo), (⟨g, o + 11, none⟩, .int .i64 xg), (⟨g, o + 12, none⟩, .bool xq), (⟨g, o + 13, none⟩, .int .i64 xu), (⟨g, o + 14, none⟩, .int .i64 xr), (⟨g, o + 15, none⟩, .int .i64 xt)] [⟨g, o + 8, none⟩, ⟨g, o + 9, none⟩, ⟨g, o + 10, none⟩, ⟨g, o + 11, none⟩, ⟨g, o + 12, none⟩, ⟨g, o + 13, none⟩, ⟨g, o + 14, none⟩, ⟨g, o + 15, none⟩] w4 := (by (repeat' (first | refine KeptC.cons ?_ ?_ | refine KeptC.consF ?_ ?_ ?_ | refine KeptC.mk0 ?_)); all_goals (first | with_reducible assumption | (go_simp; done) | (simp; omega) | exact (by repeat (first | with_reducible refine Below.setCell ?_ (by first | (simp; done) | (simp; omega) | omega) _ | with_reducible refine Below.alloc ?_ (by first | (simp; done) | (simp; omega) | omega) _ | with_reducible refine Below.drew ?_ | with_reducible refine below_drewN ?_ _ | with_reducible exact Below.refl _ _))))
  go_region_with ((with_reducible refine (C4.out _).mono ?_); rintro e w5 ⟨rfl, hb5⟩; have hk5 := KeptC.below (KeptC.drewn K0) hb5; clear hb5; clear f8 f9 f10 f11 f12 f13 f14 f15 c8 c9 c10 c11 c12 c13 c14 c15; simp only [KeptC, List.forall_mem_cons] at hk5; obtain ⟨kb5, ⟨kc5_0, kc5_1, kc5_2, kc5_3, kc5_4, kc5_5, kc5_6, kc5_7, _⟩, ⟨kz5_0, kg5_0⟩, ⟨kz5_1, kg5_1⟩, ⟨kz5_2, kg5_2⟩, ⟨kz5_3, kg5_3⟩, ⟨kz5_4, kg5_4⟩, ⟨kz5_5, kg5_5⟩, ⟨kz5_6, kg5_6⟩, ⟨kz5_7, kg5_7⟩, _⟩ := hk5; have hg5 : g < w5.heap.size := cell_lt kc5_0)
  all_goals (
    go_wp2
    refine bodyPost_ret (v := .tuple #[.slice (some ad) rs.length cx, .int .i64 0]) (by simp [results, Try.results17, go_sem, *]) rfl ⟨_, by rw [HRES.out], ?_, (by repeat (first | with_reducible refine Below.setCell ?_ (by first | (simp; done) | (simp; omega) | omega) _ | with_reducible refine Below.alloc ?_ (by first | (simp; done) | (simp; omega) | omega) _ | with_reducible refine Below.drew ?_ | with_reducible refine below_drewN ?_ _ | with_reducible exact Below.refl _ _ | with_reducible refine Below.trans ?_ (Below.mono kb5 (by first | (simp; done) | (simp; omega) | omega)) | with_reducible refine Below.trans ?_ (Below.mono kb4 (by first | (simp; done) | (simp; omega) | omega))))⟩
    rw [HRES.out]
    have r0 := HR4.out.below (kb5.mono hs4)
    have r1 := rowsE_upd r0 hkn hq (i := 8) (v := .bool pp) (x' := ⟨⟨xs, xe, xm, xa, 4, xc⟩, true, nn, ⟨pp, xv, xo, xg⟩, ⟨xq, xu, xr, xt⟩⟩) (by omega) rfl
    have r2 := rowsE_upd r1 hkn hq (i := 9) (v := .int .i64 pv) (x' := ⟨⟨xs, xe, xm, xa, 4, xc⟩, true, nn, ⟨pp, pv, xo, xg⟩, ⟨xq, xu, xr, xt⟩⟩) (by omega) rfl
    have r3 := rowsE_upd r2 hkn hq (i := 10) (v := .int .i64 po) (x' := ⟨⟨xs, xe, xm, xa, 4, xc⟩, true, nn, ⟨pp, pv, po, xg⟩, ⟨xq, xu, xr, xt⟩⟩) (by omega) rfl
    have r4 := rowsE_upd r3 hkn hq (i := 11) (v := .int .i64 pg) (x' := ⟨⟨xs, xe, xm, xa, 4, xc⟩, true, nn, ⟨pp, pv, po, pg⟩, ⟨xq, xu, xr, xt⟩⟩) (by omega) rfl
    have r5 := rowsE_upd r4 hkn hq (i := 12) (v := .bool qq) (x' := ⟨⟨xs, xe, xm, xa, 4, xc⟩, true, nn, ⟨pp, pv, po, pg⟩, ⟨qq, xu, xr, xt⟩⟩) (by omega) rfl
    have r6 := rowsE_upd r5 hkn hq (i := 13) (v := .int .i64 qv) (x' := ⟨⟨xs, xe, xm, xa, 4, xc⟩, true, nn, ⟨pp, pv, po, pg⟩, ⟨qq, qv, xr, xt⟩⟩) (by omega) rfl
    have r7 := rowsE_upd r6 hkn hq (i := 14) (v := .int .i64 qo) (x' := ⟨⟨xs, xe, xm, xa, 4, xc⟩, true, nn, ⟨pp, pv, po, pg⟩, ⟨qq, qv, qo, xt⟩⟩) (by omega) rfl
    have r8 := rowsE_upd r7 hkn hq (i := 15) (v := .int .i64 qg) (x' := ⟨⟨xs, xe, xm, xa, 4, xc⟩, true, nn, ⟨pp, pv, po, pg⟩, ⟨qq, qv, qo, qg⟩⟩) (by omega) rfl
    refine ⟨_, _, by rw [List.length_set], ?_, set_names HZ.out rfl HR.out.2⟩
    rw [List.length_set]
    exact r8.more (by have := kb5.size; simp; omega))
end Go.Proofs.Ytfihkkamedghkaa
