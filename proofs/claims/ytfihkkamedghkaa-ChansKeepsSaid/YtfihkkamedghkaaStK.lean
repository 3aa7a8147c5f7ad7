/- Hear of chans: what the call computes, for fit states. -/
import Derived.Test.YtfihkkamedghkaaStJ
namespace Go.Proofs.Ytfihkkamedghkaa
open Go.RowKit
set_option linter.unusedVariables false
set_option maxRecDepth 100000 in
set_option maxHeartbeats 8000000 in
theorem shear_any (A : Option Addr) (n cp : Nat) (rs : List St) (id : Int) (nm : ByteArray) (dh : Bool) (dv dn da : Int) (uh : Bool) (uv un ua : Int) (w : World) (hr : StsAt w w.heap.size A n rs) (hm : n * 136 ≤ 140737488351232) (hfe : ∀ y ∈ rs, fitE y.mn ∧ fitE y.mx) (hd : fitE ⟨dh, dv, dn, da⟩) (hu : fitE ⟨uh, uv, un, ua⟩) :
    Calls Try.prog 36 #[.slice A n cp, .int .i64 id, .string nm, .agg #[.bool dh, .int .i64 dv, .int .i64 dn, .int .i64 da], .agg #[.bool uh, .int .i64 uv, .int .i64 un, .int .i64 ua]] w fun e w' => ∃ lv, e = .returned lv ∧ ReadS w' lv (hearR id rs nm ⟨dh, dv, dn, da⟩ ⟨uh, uv, un, ua⟩) ∧ Below w.heap.size w w' := by
  have HR := Lib.hid hr
  obtain rfl := hr.len
  have cc := fun W (hb : Below w.heap.size w W) => scopy_any A rs.length cp rs W ((HR.out.below hb).more hb.size) hm
  have CC := Lib.hid cc
  have HFE := Lib.hid hfe
  have HD := Lib.hid hd
  have HU := Lib.hid hu
  clear hr cc hfe hd hu
  cases hp : plc rs nm with
  | none =>
    have HRES : Hid (hearR id rs nm ⟨dh, dv, dn, da⟩ ⟨uh, uv, un, ua⟩ = rs) := Lib.hid (hearR_none hp)

    go_enter Try.func36, Try.ntmps36
    go_wp2_with (fail)
    refine (CC.out _ (by repeat (first | with_reducible refine Below.setCell ?_ (by first | (simp; done) | (simp; omega) | omega) _ | with_reducible refine Below.alloc ?_ (by first | (simp; done) | (simp; omega) | omega) _ | with_reducible refine Below.drew ?_ | with_reducible refine below_drewN ?_ _ | with_reducible exact Below.refl _ _))).mono ?_; rintro e w1 ⟨lv, rfl, hown, hb1⟩
    have hrd := hown.read HR.out.2
    obtain ⟨A1, c1, rfl, hat⟩ := hown.at_ HR.out.2
    have cp := fun W (hb : Below w1.heap.size w1 W) => place_any A1 rs.length c1 rs nm W ((hat.below hb).more hb.size) hm
    simp only [hp, Option.getD_none, Option.isSome_none] at cp
    have CP := Lib.hid cp
    have HRD := Lib.hid hrd
    clear cp hown hp hat hrd
    have hz1 := hb1.size
    (try simp at hz1)
    have kb1 : Below w.heap.size w w1 := (by repeat (first | with_reducible refine Below.setCell ?_ (by first | (simp; done) | (simp; omega) | omega) _ | with_reducible refine Below.alloc ?_ (by first | (simp; done) | (simp; omega) | omega) _ | with_reducible refine Below.drew ?_ | with_reducible refine below_drewN ?_ _ | with_reducible exact Below.refl _ _ | with_reducible refine Below.trans ?_ (Below.mono hb1 (by first | (simp; done) | (simp; omega) | omega))))
    go_wp2_with (fail)
    refine (CP.out _ (by repeat (first | with_reducible refine Below.setCell ?_ (by first | (simp; done) | (simp; omega) | omega) _ | with_reducible refine Below.alloc ?_ (by first | (simp; done) | (simp; omega) | omega) _ | with_reducible refine Below.drew ?_ | with_reducible refine below_drewN ?_ _ | with_reducible exact Below.refl _ _))).mono ?_; rintro e w2 ⟨rfl, hb2⟩
    have kb2 : Below w.heap.size w w2 := (by repeat (first | with_reducible refine Below.setCell ?_ (by first | (simp; done) | (simp; omega) | omega) _ | with_reducible refine Below.alloc ?_ (by first | (simp; done) | (simp; omega) | omega) _ | with_reducible refine Below.drew ?_ | with_reducible refine below_drewN ?_ _ | with_reducible exact Below.refl _ _ | with_reducible refine Below.trans ?_ (Below.mono hb2 (by first | (simp; done) | (simp; omega) | omega)) | with_reducible refine Below.trans ?_ (Below.mono kb1 (by first | (simp; done) | (simp; omega) | omega))))
    have kr2 : Below w1.heap.size w1 w2 := (by repeat (first | with_reducible refine Below.setCell ?_ (by first | (simp; done) | (simp; omega) | omega) _ | with_reducible refine Below.alloc ?_ (by first | (simp; done) | (simp; omega) | omega) _ | with_reducible refine Below.drew ?_ | with_reducible refine below_drewN ?_ _ | with_reducible exact Below.refl _ _ | with_reducible refine Below.trans ?_ (Below.mono hb2 (by first | (simp; done) | (simp; omega) | omega))))
    go_wp2
    refine bodyPost_ret (v := .slice A1 rs.length c1) (by simp [results, Try.results36, go_sem, *]) rfl ⟨_, rfl, by rw [HRES.out]; exact HRD.out.below kr2, kb2⟩
  | some k =>
  obtain ⟨z, hz, _, _⟩ := plc_some hp
  have hkn : k < rs.length := (List.getElem?_eq_some_iff.1 hz).1
  obtain ⟨hf1, hf2⟩ := HFE.out z (List.mem_of_getElem? hz)
  have HP := Lib.hid hp
  have HZ := Lib.hid hz

  go_enter Try.func36, Try.ntmps36
  go_wp2_with (fail)
  refine (CC.out _ (by repeat (first | with_reducible refine Below.setCell ?_ (by first | (simp; done) | (simp; omega) | omega) _ | with_reducible refine Below.alloc ?_ (by first | (simp; done) | (simp; omega) | omega) _ | with_reducible refine Below.drew ?_ | with_reducible refine below_drewN ?_ _ | with_reducible exact Below.refl _ _))).mono ?_; rintro e w1 ⟨lv, rfl, hown, hb1⟩
  obtain ⟨ad, cx, rfl, hsp, hbase, hab, _, hrow⟩ := OwnE.row stV_len St0 hown (by omega)
  have hrw : RowsE stV 16 w1 w1.heap.size (some ad) rs.length rs := row_rows hrow (Nat.le_refl _) rfl (by intro t y hy; rw [hy]; rfl) hab
  have hat : StsAt w1 w1.heap.size (some ad) rs.length rs := ⟨hrw, HR.out.2⟩
  obtain ⟨g, hg⟩ : ∃ g, ad.block = g := ⟨_, rfl⟩
  obtain ⟨o, ho⟩ : ∃ o, ad.off + k * 16 = o := ⟨_, rfl⟩
  have hq : ad.add (k * 16) = ⟨g, o, none⟩ := by rw [addr_eq hsp, hg, ho]
  rw [hg] at hbase hab
  have hfz : ∀ i, i < 16 → w1.frozen? ⟨g, o + i, none⟩ = false := fun i hi => by
    have := (hrow k hkn).2 i hi
    rwa [hq, Addr.add_lit] at this
  obtain ⟨ad2, y, hA2, _, hy, _, hc16⟩ := hat.get hkn
  obtain rfl := Option.some.inj hA2
  rw [hq] at hc16
  obtain rfl := Option.some.inj (hz.symm.trans hy)
  have cp := fun W (hb : Below w1.heap.size w1 W) => place_any (some ad) rs.length cx rs nm W ((hat.below hb).more hb.size) hm
  simp only [hp, Option.getD_some, Option.isSome_some] at cp
  have CP := Lib.hid cp
  have HRW := Lib.hid hrw
  have HFZ := Lib.hid hfz
  have H16 := Lib.hid hc16
  have hz1 := hb1.size
  (try simp at hz1)
  (try simp at hbase)
  have kb1 : Below w.heap.size w w1 := (by repeat (first | with_reducible refine Below.setCell ?_ (by first | (simp; done) | (simp; omega) | omega) _ | with_reducible refine Below.alloc ?_ (by first | (simp; done) | (simp; omega) | omega) _ | with_reducible refine Below.drew ?_ | with_reducible refine below_drewN ?_ _ | with_reducible exact Below.refl _ _ | with_reducible refine Below.trans ?_ (Below.mono hb1 (by first | (simp; done) | (simp; omega) | omega))))
  have q0 : w1.cell? ⟨w.heap.size, 0, none⟩ = some (.bool dh) := (hb1.cell (p := ⟨w.heap.size, 0, none⟩) (by first | (simp; done) | (simp; omega) | omega)).trans (by go_simp)
  have q1 : w1.cell? ⟨w.heap.size, 1, none⟩ = some (.int .i64 dv) := (hb1.cell (p := ⟨w.heap.size, 1, none⟩) (by first | (simp; done) | (simp; omega) | omega)).trans (by go_simp)
  have q2 : w1.cell? ⟨w.heap.size, 2, none⟩ = some (.int .i64 dn) := (hb1.cell (p := ⟨w.heap.size, 2, none⟩) (by first | (simp; done) | (simp; omega) | omega)).trans (by go_simp)
  have q3 : w1.cell? ⟨w.heap.size, 3, none⟩ = some (.int .i64 da) := (hb1.cell (p := ⟨w.heap.size, 3, none⟩) (by first | (simp; done) | (simp; omega) | omega)).trans (by go_simp)
  have q4 : w1.cell? ⟨w.heap.size + 1, 0, none⟩ = some (.bool uh) := (hb1.cell (p := ⟨w.heap.size + 1, 0, none⟩) (by first | (simp; done) | (simp; omega) | omega)).trans (by go_simp)
  have q5 : w1.cell? ⟨w.heap.size + 1, 1, none⟩ = some (.int .i64 uv) := (hb1.cell (p := ⟨w.heap.size + 1, 1, none⟩) (by first | (simp; done) | (simp; omega) | omega)).trans (by go_simp)
  have q6 : w1.cell? ⟨w.heap.size + 1, 2, none⟩ = some (.int .i64 un) := (hb1.cell (p := ⟨w.heap.size + 1, 2, none⟩) (by first | (simp; done) | (simp; omega) | omega)).trans (by go_simp)
  have q7 : w1.cell? ⟨w.heap.size + 1, 3, none⟩ = some (.int .i64 ua) := (hb1.cell (p := ⟨w.heap.size + 1, 3, none⟩) (by first | (simp; done) | (simp; omega) | omega)).trans (by go_simp)
  have HQ : Hid (w1.cell? ⟨w.heap.size, 0, none⟩ = some (.bool dh) ∧ w1.cell? ⟨w.heap.size, 1, none⟩ = some (.int .i64 dv) ∧ w1.cell? ⟨w.heap.size, 2, none⟩ = some (.int .i64 dn) ∧ w1.cell? ⟨w.heap.size, 3, none⟩ = some (.int .i64 da) ∧ w1.cell? ⟨w.heap.size + 1, 0, none⟩ = some (.bool uh) ∧ w1.cell? ⟨w.heap.size + 1, 1, none⟩ = some (.int .i64 uv) ∧ w1.cell? ⟨w.heap.size + 1, 2, none⟩ = some (.int .i64 un) ∧ w1.cell? ⟨w.heap.size + 1, 3, none⟩ = some (.int .i64 ua)) := Lib.hid ⟨q0, q1, q2, q3, q4, q5, q6, q7⟩
  clear cp hrw hfz hrow hown hp hat hc16 hg ho hy hz hb1 q0 q1 q2 q3 q4 q5 q6 q7
  obtain ⟨⟨xs, xe, xm, xa, xk, xc⟩, xh, xi, ⟨xp, xv, xo, xg⟩, ⟨xq, xu, xr, xt⟩⟩ := z
  simp only [] at hf1 hf2
  go_wp2_with (fail)
  refine (CP.out _ (by repeat (first | with_reducible refine Below.setCell ?_ (by first | (simp; done) | (simp; omega) | omega) _ | with_reducible refine Below.alloc ?_ (by first | (simp; done) | (simp; omega) | omega) _ | with_reducible refine Below.drew ?_ | with_reducible refine below_drewN ?_ _ | with_reducible exact Below.refl _ _))).mono ?_; rintro e w2 ⟨rfl, hb2⟩
  have kb2 : Below w.heap.size w w2 := (by repeat (first | with_reducible refine Below.setCell ?_ (by first | (simp; done) | (simp; omega) | omega) _ | with_reducible refine Below.alloc ?_ (by first | (simp; done) | (simp; omega) | omega) _ | with_reducible refine Below.drew ?_ | with_reducible refine below_drewN ?_ _ | with_reducible exact Below.refl _ _ | with_reducible refine Below.trans ?_ (Below.mono hb2 (by first | (simp; done) | (simp; omega) | omega)) | with_reducible refine Below.trans ?_ (Below.mono kb1 (by first | (simp; done) | (simp; omega) | omega))))
  have kr2 : Below w1.heap.size w1 w2 := (by repeat (first | with_reducible refine Below.setCell ?_ (by first | (simp; done) | (simp; omega) | omega) _ | with_reducible refine Below.alloc ?_ (by first | (simp; done) | (simp; omega) | omega) _ | with_reducible refine Below.drew ?_ | with_reducible refine below_drewN ?_ _ | with_reducible exact Below.refl _ _ | with_reducible refine Below.trans ?_ (Below.mono hb2 (by first | (simp; done) | (simp; omega) | omega))))
  have hz2 := kr2.size
  clear hb2 CP kb1
  obtain ⟨_, _, _, _, c4, _⟩ := st16_open (H16.out.below hab kr2)
  simp only [] at c4
  have hg2 : g < w2.heap.size := by omega
  by_cases hk4 : xk = 4
  rotate_left
  · have hkb : (xk == 4) = false := by simpa using hk4
    have HRES : Hid (hearR id rs nm ⟨dh, dv, dn, da⟩ ⟨uh, uv, un, ua⟩ = rs) := Lib.hid (hearR_off HP.out HZ.out hk4)
    go_wp2
    refine bodyPost_ret (v := .slice (some ad) rs.length cx) (by simp [results, Try.results36, go_sem, *]) rfl ⟨_, rfl, ?_, kb2⟩
    rw [HRES.out]
    exact ⟨_, _, rfl, (HRW.out.below kr2).more kr2.size, HR.out.2⟩
  subst hk4
  obtain ⟨P, hP⟩ : ∃ P, hearE 1 id ⟨xp, xv, xo, xg⟩ ⟨dh, dv, dn, da⟩ = P := ⟨_, rfl⟩
  obtain ⟨Q, hQ⟩ : ∃ Q, hearE (-1) id ⟨xq, xu, xr, xt⟩ ⟨uh, uv, un, ua⟩ = Q := ⟨_, rfl⟩
  have cs := fun W => hearE_any id ⟨xp, xv, xo, xg⟩ ⟨xq, xu, xr, xt⟩ ⟨dh, dv, dn, da⟩ ⟨uh, uv, un, ua⟩ hf1 hf2 HD.out HU.out W
  rw [hP, hQ] at cs
  obtain ⟨pp, pv, po, pg⟩ := P
  obtain ⟨qq, qv, qo, qg⟩ := Q
  simp only [] at cs
  have C4 := Lib.hid cs
  have HRES : Hid (hearR id rs nm ⟨dh, dv, dn, da⟩ ⟨uh, uv, un, ua⟩ = rs.set k ⟨⟨xs, xe, xm, xa, 4, xc⟩, xh, xi, ⟨pp, pv, po, pg⟩, ⟨qq, qv, qo, qg⟩⟩) := Lib.hid (by rw [hearR_on HP.out HZ.out rfl]; simp only [hearX, hP, hQ])
  clear cs hP hQ hf1 hf2
  go_upto_region 4 with (fail)
  refine lay (fun W => Below w.heap.size w W ∧ w1.heap.size ≤ W.heap.size ∧ RowsE stV 16 W w1.heap.size (some ad) rs.length (rs.set k ⟨⟨xs, xe, xm, xa, 4, xc⟩, xh, xi, ⟨xp, xv, xo, xg⟩, ⟨xq, xu, xr, xt⟩⟩) ∧ (∀ i, i < 16 → W.frozen? ⟨g, o + i, none⟩ = false) ∧ W.cell? ⟨w.heap.size, 0, none⟩ = some (.bool dh) ∧ W.cell? ⟨w.heap.size, 1, none⟩ = some (.int .i64 dv) ∧ W.cell? ⟨w.heap.size, 2, none⟩ = some (.int .i64 dn) ∧ W.cell? ⟨w.heap.size, 3, none⟩ = some (.int .i64 da) ∧ W.cell? ⟨w.heap.size + 1, 0, none⟩ = some (.bool uh) ∧ W.cell? ⟨w.heap.size + 1, 1, none⟩ = some (.int .i64 uv) ∧ W.cell? ⟨w.heap.size + 1, 2, none⟩ = some (.int .i64 un) ∧ W.cell? ⟨w.heap.size + 1, 3, none⟩ = some (.int .i64 ua)) ⟨kb2, by omega, by rw [set_same HZ.out]; exact HRW.out.below kr2, fun i hi => (kr2.frozen (p := ⟨g, o + i, none⟩) hab).trans (HFZ.out i hi), ?_⟩ ?_
  · obtain ⟨q0, q1, q2, q3, q4, q5, q6, q7⟩ := HQ.out
    exact ⟨(kr2.cell (p := ⟨w.heap.size, 0, none⟩) (cell_lt q0)).trans q0, (kr2.cell (p := ⟨w.heap.size, 1, none⟩) (cell_lt q1)).trans q1, (kr2.cell (p := ⟨w.heap.size, 2, none⟩) (cell_lt q2)).trans q2, (kr2.cell (p := ⟨w.heap.size, 3, none⟩) (cell_lt q3)).trans q3, (kr2.cell (p := ⟨w.heap.size + 1, 0, none⟩) (cell_lt q4)).trans q4, (kr2.cell (p := ⟨w.heap.size + 1, 1, none⟩) (cell_lt q5)).trans q5, (kr2.cell (p := ⟨w.heap.size + 1, 2, none⟩) (cell_lt q6)).trans q6, (kr2.cell (p := ⟨w.heap.size + 1, 3, none⟩) (cell_lt q7)).trans q7⟩
  rintro w4 ⟨kb4, hs4, hrw4, hfz4, q0, q1, q2, q3, q4, q5, q6, q7⟩
  obtain ⟨_, _, _, _, _, _, _, _, c8, c9, c10, c11, c12, c13, c14, c15⟩ := st16_open (rowsE_at hrw4 hkn hq)
  simp only [] at c8 c9 c10 c11 c12 c13 c14 c15
  have HR4 := Lib.hid hrw4
  have hg4 : g < w4.heap.size := by omega
  have hB4 : w.heap.size + 1 < w4.heap.size := by omega
  have hB4' : w.heap.size < w4.heap.size := by omega
  have f8 := hfz4 8 (by omega)
  have f9 := hfz4 9 (by omega)
  have f10 := hfz4 10 (by omega)
  have f11 := hfz4 11 (by omega)
  have f12 := hfz4 12 (by omega)
  have f13 := hfz4 13 (by omega)
  have f14 := hfz4 14 (by omega)
  have f15 := hfz4 15 (by omega)
  clear hrw4 hfz4 c4 kb2 kr2 hg2
  have K0 : KeptC w4 [(⟨g, o + 8, none⟩, .bool xp), (⟨g, o + 9, none⟩, .int .i64 xv), (⟨g, o + 10, none⟩, .int .i64 xo), (⟨g, o + 11, none⟩, .int .i64 xg), (⟨g, o + 12, none⟩, .bool xq), (⟨g, o + 13, none⟩, .int .i64 xu), (⟨g, o + 14, none⟩, .int .i64 xr), (⟨g, o + 15, none⟩, .int .i64 xt)] [⟨g, o + 8, none⟩, ⟨g, o + 9, none⟩, ⟨g, o + 10, none⟩, ⟨g, o + 11, none⟩, ⟨g, o + 12, none⟩, ⟨g, o + 13, none⟩, ⟨g, o + 14, none⟩, ⟨g, o + 15, none⟩] w4 := (by (repeat' (first | refine KeptC.cons ?_ ?_ | refine KeptC.consF ?_ ?_ ?_ | refine KeptC.mk0 ?_)); all_goals (first | with_reducible assumption | (go_simp; done) | (simp; omega) | exact (by repeat (first | with_reducible refine Below.setCell ?_ (by first | (simp; done) | (simp; omega) | omega) _ | with_reducible refine Below.alloc ?_ (by first | (simp; done) | (simp; omega) | omega) _ | with_reducible refine Below.drew ?_ | with_reducible refine below_drewN ?_ _ | with_reducible exact Below.refl _ _))))
  go_region_with ((with_reducible refine (C4.out _).mono ?_); rintro e w5 ⟨rfl, hb5⟩; have hk5 := KeptC.below (KeptC.drewn K0) hb5; clear hb5; clear f8 f9 f10 f11 f12 f13 f14 f15 c8 c9 c10 c11 c12 c13 c14 c15; simp only [KeptC, List.forall_mem_cons] at hk5; obtain ⟨kb5, ⟨kc5_0, kc5_1, kc5_2, kc5_3, kc5_4, kc5_5, kc5_6, kc5_7, _⟩, ⟨kz5_0, kg5_0⟩, ⟨kz5_1, kg5_1⟩, ⟨kz5_2, kg5_2⟩, ⟨kz5_3, kg5_3⟩, ⟨kz5_4, kg5_4⟩, ⟨kz5_5, kg5_5⟩, ⟨kz5_6, kg5_6⟩, ⟨kz5_7, kg5_7⟩, _⟩ := hk5; have hg5 : g < w5.heap.size := cell_lt kc5_0)
  all_goals (
    go_wp2
    refine bodyPost_ret (v := .slice (some ad) rs.length cx) (by simp [results, Try.results36, go_sem, *]) rfl ⟨_, rfl, ?_, (by repeat (first | with_reducible refine Below.setCell ?_ (by first | (simp; done) | (simp; omega) | omega) _ | with_reducible refine Below.alloc ?_ (by first | (simp; done) | (simp; omega) | omega) _ | with_reducible refine Below.drew ?_ | with_reducible refine below_drewN ?_ _ | with_reducible exact Below.refl _ _ | with_reducible refine Below.trans ?_ (Below.mono kb5 (by first | (simp; done) | (simp; omega) | omega)) | with_reducible refine Below.trans ?_ (Below.mono kb4 (by first | (simp; done) | (simp; omega) | omega))))⟩
    rw [HRES.out]
    have r0 := HR4.out.below (kb5.mono hs4)
    have r1 := rowsE_upd r0 hkn hq (i := 8) (v := .bool pp) (x' := ⟨⟨xs, xe, xm, xa, 4, xc⟩, xh, xi, ⟨pp, xv, xo, xg⟩, ⟨xq, xu, xr, xt⟩⟩) (by omega) rfl
    have r2 := rowsE_upd r1 hkn hq (i := 9) (v := .int .i64 pv) (x' := ⟨⟨xs, xe, xm, xa, 4, xc⟩, xh, xi, ⟨pp, pv, xo, xg⟩, ⟨xq, xu, xr, xt⟩⟩) (by omega) rfl
    have r3 := rowsE_upd r2 hkn hq (i := 10) (v := .int .i64 po) (x' := ⟨⟨xs, xe, xm, xa, 4, xc⟩, xh, xi, ⟨pp, pv, po, xg⟩, ⟨xq, xu, xr, xt⟩⟩) (by omega) rfl
    have r4 := rowsE_upd r3 hkn hq (i := 11) (v := .int .i64 pg) (x' := ⟨⟨xs, xe, xm, xa, 4, xc⟩, xh, xi, ⟨pp, pv, po, pg⟩, ⟨xq, xu, xr, xt⟩⟩) (by omega) rfl
    have r5 := rowsE_upd r4 hkn hq (i := 12) (v := .bool qq) (x' := ⟨⟨xs, xe, xm, xa, 4, xc⟩, xh, xi, ⟨pp, pv, po, pg⟩, ⟨qq, xu, xr, xt⟩⟩) (by omega) rfl
    have r6 := rowsE_upd r5 hkn hq (i := 13) (v := .int .i64 qv) (x' := ⟨⟨xs, xe, xm, xa, 4, xc⟩, xh, xi, ⟨pp, pv, po, pg⟩, ⟨qq, qv, xr, xt⟩⟩) (by omega) rfl
    have r7 := rowsE_upd r6 hkn hq (i := 14) (v := .int .i64 qo) (x' := ⟨⟨xs, xe, xm, xa, 4, xc⟩, xh, xi, ⟨pp, pv, po, pg⟩, ⟨qq, qv, qo, xt⟩⟩) (by omega) rfl
    have r8 := rowsE_upd r7 hkn hq (i := 15) (v := .int .i64 qg) (x' := ⟨⟨xs, xe, xm, xa, 4, xc⟩, xh, xi, ⟨pp, pv, po, pg⟩, ⟨qq, qv, qo, qg⟩⟩) (by omega) rfl
    refine ⟨_, _, by rw [List.length_set], ?_, set_names HZ.out rfl HR.out.2⟩
    rw [List.length_set]
    exact r8.more (by have := kb5.size; simp; omega))
end Go.Proofs.Ytfihkkamedghkaa
