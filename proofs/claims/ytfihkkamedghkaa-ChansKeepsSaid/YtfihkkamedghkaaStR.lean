/- Set of the reference of chapter 18: what the call computes, for fit states. -/
import Derived.Test.YtfihkkamedghkaaStV
import Derived.Test.YtfihkkamedghkaaStW
import Derived.Deep.RegionHeld3
import Derived.Deep.CutRange
namespace Go.Proofs.Ytfihkkamedghkaa
open Go.RowKit
set_option linter.unusedVariables false
set_option maxRecDepth 100000 in
set_option maxHeartbeats 8000000 in
theorem srset_any (A : Option Addr) (n cp : Nat) (rs : List St) (id : Int) (nm : ByteArray) (x : Int) (w : World) (hr : StsAt w w.heap.size A n rs) (hm : n * 136 ≤ 140737488351232) (hk : ∀ y ∈ rs, 1 ≤ y.ch.kd ∧ y.ch.kd ≤ 4) (hfe : ∀ y ∈ rs, fitE y.mn ∧ fitE y.mx) (h0 : 0 ≤ id) (h16 : id < 16) :
    Calls Try.prog 18 #[.slice A n cp, .int .i64 id, .string nm, .int .i64 x] w fun e w' => ∃ lv, e = .returned (.tuple #[lv, .int .i64 (setR id rs nm x).2]) ∧ ReadS w' lv (setR id rs nm x).1 ∧ Below w.heap.size w w' := by
  have HR := Lib.hid hr
  obtain rfl := hr.len
  have cc := fun W (hb : Below w.heap.size w W) => srcopy_any A rs.length cp rs W ((HR.out.below hb).more hb.size) hm
  have CC := Lib.hid cc
  have rp := fun W (hb : Below w.heap.size w W) => rplace_any A rs.length cp rs nm W ((HR.out.below hb).more hb.size) hm
  have HFE := Lib.hid hfe
  clear hr cc hk hfe
  cases hp : plc rs nm with
  | none =>
    have HRES : Hid (setR id rs nm x = (rs, 44)) := Lib.hid (setR_none hp)
    rw [plcI_none hp] at rp
    have RP := Lib.hid rp
    clear rp hp
    go_enter Try.func18, Try.ntmps18
    go_wp2_with (fail)
    refine (RP.out _ (by repeat (first | with_reducible refine Below.setCell ?_ (by first | (simp; done) | (simp; omega) | omega) _ | with_reducible refine Below.alloc ?_ (by first | (simp; done) | (simp; omega) | omega) _ | with_reducible refine Below.drew ?_ | with_reducible refine below_drewN ?_ _ | with_reducible exact Below.refl _ _))).mono ?_; rintro e w1 ⟨rfl, hb1⟩
    have hz1 := hb1.size
    go_wp2_with (fail)
    refine (CC.out _ (by repeat (first | with_reducible refine Below.setCell ?_ (by first | (simp; done) | (simp; omega) | omega) _ | with_reducible refine Below.alloc ?_ (by first | (simp; done) | (simp; omega) | omega) _ | with_reducible refine Below.drew ?_ | with_reducible refine below_drewN ?_ _ | with_reducible exact Below.refl _ _ | with_reducible refine Below.trans ?_ (Below.mono hb1 (by first | (simp; done) | (simp; omega) | omega))))).mono ?_; rintro e w2 ⟨lv, rfl, hown, hb2⟩
    have kb2 : Below w.heap.size w w2 := (by repeat (first | with_reducible refine Below.setCell ?_ (by first | (simp; done) | (simp; omega) | omega) _ | with_reducible refine Below.alloc ?_ (by first | (simp; done) | (simp; omega) | omega) _ | with_reducible refine Below.drew ?_ | with_reducible refine below_drewN ?_ _ | with_reducible exact Below.refl _ _ | with_reducible refine Below.trans ?_ (Below.mono hb2 (by first | (simp; done) | (simp; omega) | omega)) | with_reducible refine Below.trans ?_ (Below.mono hb1 (by first | (simp; done) | (simp; omega) | omega))))
    have hrd := hown.read HR.out.2
    obtain ⟨A1, c1, rfl⟩ := row_slice' hown
    go_wp2
    refine bodyPost_ret (v := .tuple #[.slice A1 rs.length c1, .int .i64 44]) (by simp [results, Try.results18, go_sem, *]) rfl ⟨_, by rw [HRES.out], by rw [HRES.out]; exact hrd, kb2⟩
  | some k =>
  obtain ⟨z, hz, _, _⟩ := plc_some hp
  have hkn : k < rs.length := (List.getElem?_eq_some_iff.1 hz).1
  obtain ⟨hf1, hf2⟩ := HFE.out z (List.mem_of_getElem? hz)
  obtain ⟨nn, er, ht⟩ : ∃ a b, toldF z.ch.kd x z.ch.sc = (a, b) := ⟨_, _, rfl⟩
  have ct : ∀ W, Calls Try.prog 51 #[.int .i64 z.ch.kd, .int .i64 x, .int .i64 z.ch.sc] W fun e w' => e = .returned (.tuple #[.int .i64 (toldF z.ch.kd x z.ch.sc).1, .int .i64 (toldF z.ch.kd x z.ch.sc).2]) ∧ Below W.heap.size W w' := fun W => (rtold_any z.ch.kd x z.ch.sc W).mono (fun e w' ⟨h1, h2⟩ => ⟨h1, h2 ▸ Below.refl _ _⟩)
  rw [ht] at ct
  have CT := Lib.hid ct
  have HT := Lib.hid ht
  have HP := Lib.hid hp
  have HZ := Lib.hid hz
  rw [plcI_some hp] at rp
  have RP := Lib.hid rp
  obtain ⟨ad0, y0, rfl, hab0, hy0, _, hc0⟩ := HR.out.get hkn
  obtain rfl := Option.some.inj (hz.symm.trans hy0)
  obtain ⟨p, hpq⟩ : ∃ p, ad0.add (k * 16) = p := ⟨_, rfl⟩
  have hpb : p.block < w.heap.size := by rw [← hpq, block_of_add]; exact hab0
  rw [hpq] at hc0
  have H0 := Lib.hid hc0
  clear ct ht hp rp hc0 hy0 hab0
  go_enter Try.func18, Try.ntmps18
  go_wp2_with (fail)
  refine (RP.out _ (by repeat (first | with_reducible refine Below.setCell ?_ (by first | (simp; done) | (simp; omega) | omega) _ | with_reducible refine Below.alloc ?_ (by first | (simp; done) | (simp; omega) | omega) _ | with_reducible refine Below.drew ?_ | with_reducible refine below_drewN ?_ _ | with_reducible exact Below.refl _ _))).mono ?_; rintro e w1 ⟨rfl, hb1⟩
  have hz1 := hb1.size
  have kb1 : Below w.heap.size w w1 := (by repeat (first | with_reducible refine Below.setCell ?_ (by first | (simp; done) | (simp; omega) | omega) _ | with_reducible refine Below.alloc ?_ (by first | (simp; done) | (simp; omega) | omega) _ | with_reducible refine Below.drew ?_ | with_reducible refine below_drewN ?_ _ | with_reducible exact Below.refl _ _ | with_reducible refine Below.trans ?_ (Below.mono hb1 (by first | (simp; done) | (simp; omega) | omega))))
  clear hb1
  obtain ⟨_, _, _, _, c4, c5, _⟩ := H0.out.below hpb kb1
  have hpw : p.block < w1.heap.size := by omega
  go_upto_region 4 with (fail)
  refine wp_region_quietC_lit (KeptC w [(⟨p.block, p.off + 4, none⟩, .int .i64 z.ch.kd), (⟨p.block, p.off + 5, none⟩, .int .i64 z.ch.sc)] []) (by kernel_rfl) (by kernel_rfl) ?_ ?_
  · refine KeptC.drewn ?_
    repeat' (first | refine KeptC.cons ?_ ?_ | refine KeptC.consF ?_ ?_ ?_ | refine KeptC.mk0 ?_)
    all_goals (first | with_reducible assumption | (go_simp; done) | (simp; omega) | exact (by repeat (first | with_reducible refine Below.setCell ?_ (by first | (simp; done) | (simp; omega) | omega) _ | with_reducible refine Below.alloc ?_ (by first | (simp; done) | (simp; omega) | omega) _ | with_reducible refine Below.drew ?_ | with_reducible refine below_drewN ?_ _ | with_reducible exact Below.refl _ _ | with_reducible refine Below.trans ?_ (Below.mono kb1 (by first | (simp; done) | (simp; omega) | omega)))))
  repeat (first
    | go_big_quiet_skip
    | (go_big_quiet_want; (apply quietC_run); (· intro w' hw'; (have hk' := hw'; simp only [KeptC, List.forall_mem_cons] at hk'; go_split_ands); go_simp; first | done | rfl); (simp only [Act.put, List.setIfInBounds_toArray, List.set_cons_zero, List.set_cons_succ]; go_big_quiet_on))
    | (go_big_quiet_want; (apply quietC_call); (· intro w' hw'; go_simp; first | done | exact ⟨rfl, rfl⟩ | rfl); (· intro w' hw'; first | ((with_reducible refine (CT.out _).mono ?_); rintro e w2 ⟨rfl, hb⟩; exact ⟨rfl, hw'.below hb⟩)); (simp only [Act.put, List.setIfInBounds_toArray, List.set_cons_zero, List.set_cons_succ]; go_big_quiet_on)))
  refine wpQuiet_nil ?_
  intro w2 hk2
  (have hk' := hk2; simp only [KeptC, List.forall_mem_cons] at hk'; go_split_ands); have hkB2 := hk2.1
  have kb1 := hkB2
  have hs1 := kb1.size
  clear c4 c5
  by_cases her : er = 0
  rotate_left
  · have hnb : (er != 0) = true := by simpa using her
    have HRES : Hid (setR id rs nm x = (rs, er)) := Lib.hid (setR_bad HP.out HZ.out HT.out her)
    go_wp2_with (fail)
    refine (CC.out _ (by repeat (first | with_reducible refine Below.setCell ?_ (by first | (simp; done) | (simp; omega) | omega) _ | with_reducible refine Below.alloc ?_ (by first | (simp; done) | (simp; omega) | omega) _ | with_reducible refine Below.drew ?_ | with_reducible refine below_drewN ?_ _ | with_reducible exact Below.refl _ _ | with_reducible refine Below.trans ?_ (Below.mono kb1 (by first | (simp; done) | (simp; omega) | omega))))).mono ?_; rintro e w2 ⟨lv, rfl, hown, hb2⟩
    have kb2 : Below w.heap.size w w2 := (by repeat (first | with_reducible refine Below.setCell ?_ (by first | (simp; done) | (simp; omega) | omega) _ | with_reducible refine Below.alloc ?_ (by first | (simp; done) | (simp; omega) | omega) _ | with_reducible refine Below.drew ?_ | with_reducible refine below_drewN ?_ _ | with_reducible exact Below.refl _ _ | with_reducible refine Below.trans ?_ (Below.mono hb2 (by first | (simp; done) | (simp; omega) | omega)) | with_reducible refine Below.trans ?_ (Below.mono kb1 (by first | (simp; done) | (simp; omega) | omega))))
    have hrd := hown.read HR.out.2
    obtain ⟨A1, c1, rfl⟩ := row_slice' hown
    go_wp2
    refine bodyPost_ret (v := .tuple #[.slice A1 rs.length c1, .int .i64 er]) (by simp [results, Try.results18, go_sem, *]) rfl ⟨_, by rw [HRES.out], by rw [HRES.out]; exact hrd, kb2⟩
  subst her
  go_wp2_with (fail)
  refine (CC.out _ (by repeat (first | with_reducible refine Below.setCell ?_ (by first | (simp; done) | (simp; omega) | omega) _ | with_reducible refine Below.alloc ?_ (by first | (simp; done) | (simp; omega) | omega) _ | with_reducible refine Below.drew ?_ | with_reducible refine below_drewN ?_ _ | with_reducible exact Below.refl _ _ | with_reducible refine Below.trans ?_ (Below.mono kb1 (by first | (simp; done) | (simp; omega) | omega))))).mono ?_; rintro e w3 ⟨lv, rfl, hown, hb3⟩
  have kb3 : Below w.heap.size w w3 := (by repeat (first | with_reducible refine Below.setCell ?_ (by first | (simp; done) | (simp; omega) | omega) _ | with_reducible refine Below.alloc ?_ (by first | (simp; done) | (simp; omega) | omega) _ | with_reducible refine Below.drew ?_ | with_reducible refine below_drewN ?_ _ | with_reducible exact Below.refl _ _ | with_reducible refine Below.trans ?_ (Below.mono hb3 (by first | (simp; done) | (simp; omega) | omega)) | with_reducible refine Below.trans ?_ (Below.mono kb1 (by first | (simp; done) | (simp; omega) | omega))))
  obtain ⟨ad, cx, rfl, hsp, hbase, hab, _, hrow⟩ := OwnE.row stV_len St0 hown (by omega)
  have hrw : RowsE stV 16 w3 w3.heap.size (some ad) rs.length rs := row_rows hrow (Nat.le_refl _) rfl (by intro t y hy; rw [hy]; rfl) hab
  have hat : StsAt w3 w3.heap.size (some ad) rs.length rs := ⟨hrw, HR.out.2⟩
  obtain ⟨g, hg⟩ : ∃ g, ad.block = g := ⟨_, rfl⟩
  obtain ⟨o, ho⟩ : ∃ o, ad.off + k * 16 = o := ⟨_, rfl⟩
  have hq : ad.add (k * 16) = ⟨g, o, none⟩ := by rw [addr_eq hsp, hg, ho]
  rw [hg] at hbase hab
  have hfz : ∀ i, i < 16 → w3.frozen? ⟨g, o + i, none⟩ = false := fun i hi => by
    have := (hrow k hkn).2 i hi
    rwa [hq, Addr.add_lit] at this
  obtain ⟨ad2, y, hA2, _, hy, _, hc16⟩ := hat.get hkn
  obtain rfl := Option.some.inj hA2
  rw [hq] at hc16
  obtain rfl := Option.some.inj (hz.symm.trans hy)
  have HRW := Lib.hid hrw
  have HFZ := Lib.hid hfz
  have H16 := Lib.hid hc16
  have hz3 := kb3.size
  have hgw : w.heap.size ≤ g := by omega
  clear hrw hfz hrow hown hat hc16 hg ho hy hz hb3 kb1 CC RP hpw hz1
  obtain ⟨⟨xs, xe, xm, xa, xk, xc⟩, xh, xi, ⟨xp, xv, xo, xg⟩, ⟨xq, xu, xr, xt⟩⟩ := z
  simp only [] at hf1 hf2
  have hfl : flowB nn = true := by have := told_flow (kd := xk) (x := x) (sc := xc) (by rw [HT.out]); rwa [HT.out] at this
  have z6 : w3.frozen? ⟨g, o + 6, none⟩ = false := HFZ.out 6 (by omega)
  have z7 : w3.frozen? ⟨g, o + 7, none⟩ = false := HFZ.out 7 (by omega)
  obtain ⟨_, _, _, _, c4, _, c6, c7, _⟩ := st16_open H16.out
  simp only [] at c4 c6 c7
  have r0 : RowsE stV 16 w3 w3.heap.size (some ad) rs.length (rs.set k ⟨⟨xs, xe, xm, xa, xk, xc⟩, xh, xi, ⟨xp, xv, xo, xg⟩, ⟨xq, xu, xr, xt⟩⟩) := by rw [set_same HZ.out]; exact HRW.out
  have r1 := rowsE_upd r0 hkn hq (i := 6) (v := .bool true) (x' := ⟨⟨xs, xe, xm, xa, xk, xc⟩, true, xi, ⟨xp, xv, xo, xg⟩, ⟨xq, xu, xr, xt⟩⟩) (by omega) rfl
  have r2 := rowsE_upd r1 hkn hq (i := 7) (v := .int .i64 nn) (x' := ⟨⟨xs, xe, xm, xa, xk, xc⟩, true, nn, ⟨xp, xv, xo, xg⟩, ⟨xq, xu, xr, xt⟩⟩) (by omega) rfl
  clear r0 r1
  have R2 := Lib.hid r2
  clear r2
  by_cases hk4 : xk = 4
  rotate_left
  · have hkb : (xk == 4) = false := by simpa using hk4
    have HRES : Hid (setR id rs nm x = (rs.set k ⟨⟨xs, xe, xm, xa, xk, xc⟩, true, nn, ⟨xp, xv, xo, xg⟩, ⟨xq, xu, xr, xt⟩⟩, 0)) := Lib.hid (by rw [setR_ok HP.out HZ.out HT.out]; unfold setX; simp only []; rw [if_neg hk4, if_neg hk4])
    go_wp2
    refine bodyPost_ret (v := .tuple #[.slice (some ad) rs.length cx, .int .i64 0]) (by simp [results, Try.results18, go_sem, *]) rfl ⟨_, by rw [HRES.out], ?_, (by repeat (first | with_reducible refine Below.setCell ?_ (by first | (simp; done) | (simp; omega) | omega) _ | with_reducible refine Below.alloc ?_ (by first | (simp; done) | (simp; omega) | omega) _ | with_reducible refine Below.drew ?_ | with_reducible refine below_drewN ?_ _ | with_reducible exact Below.refl _ _ | with_reducible refine Below.trans ?_ (Below.mono kb3 (by first | (simp; done) | (simp; omega) | omega))))⟩
    rw [HRES.out]
    refine ⟨_, _, by rw [List.length_set], ?_, set_names HZ.out rfl HR.out.2⟩
    rw [List.length_set]
    exact R2.out.more (by simp)
  subst hk4
  obtain ⟨P, hP⟩ : ∃ P, setE 1 id nn ⟨xp, xv, xo, xg⟩ = P := ⟨_, rfl⟩
  obtain ⟨Q, hQ⟩ : ∃ Q, setE (-1) id nn ⟨xq, xu, xr, xt⟩ = Q := ⟨_, rfl⟩
  have cs := fun W => rsetE_any id nn ⟨xp, xv, xo, xg⟩ ⟨xq, xu, xr, xt⟩ h0 h16 hfl hf1 hf2 W
  rw [hP, hQ] at cs
  obtain ⟨pp, pv, po, pg⟩ := P
  obtain ⟨qq, qv, qo, qg⟩ := Q
  simp only [] at cs
  have C4 := Lib.hid cs
  have HRES : Hid (setR id rs nm x = (rs.set k ⟨⟨xs, xe, xm, xa, 4, xc⟩, true, nn, ⟨pp, pv, po, pg⟩, ⟨qq, qv, qo, qg⟩⟩, 0)) := Lib.hid (by rw [setR_ok HP.out HZ.out HT.out]; simp only [setX, if_true, hP, hQ])
  clear cs hP hQ hf1 hf2
  go_upto_region 11 with (fail)
  refine lay (fun W => Below w.heap.size w W ∧ w3.heap.size ≤ W.heap.size ∧ RowsE stV 16 W w3.heap.size (some ad) rs.length (rs.set k ⟨⟨xs, xe, xm, xa, 4, xc⟩, true, nn, ⟨xp, xv, xo, xg⟩, ⟨xq, xu, xr, xt⟩⟩) ∧ ∀ i, i < 16 → W.frozen? ⟨g, o + i, none⟩ = false) ⟨(by repeat (first | with_reducible refine Below.setCell ?_ (by first | (simp; done) | (simp; omega) | omega) _ | with_reducible refine Below.alloc ?_ (by first | (simp; done) | (simp; omega) | omega) _ | with_reducible refine Below.drew ?_ | with_reducible refine below_drewN ?_ _ | with_reducible exact Below.refl _ _ | with_reducible refine Below.trans ?_ (Below.mono kb3 (by first | (simp; done) | (simp; omega) | omega)))), by simp, R2.out, fun i hi => by rw [World.frozen?_setCell, World.frozen?_setCell]; exact HFZ.out i hi⟩ ?_
  rintro w4 ⟨kb4, hs4, hrw4, hfz4⟩
  obtain ⟨_, _, _, _, _, _, _, _, c8, c9, c10, c11, c12, c13, c14, c15⟩ := st16_open (rowsE_at hrw4 hkn hq)
  simp only [] at c8 c9 c10 c11 c12 c13 c14 c15
  have HR4 := Lib.hid hrw4
  have hg4 : g < w4.heap.size := by omega
  have f8 := hfz4 8 (by omega)
  have f9 := hfz4 9 (by omega)
  have f10 := hfz4 10 (by omega)
  have f11 := hfz4 11 (by omega)
  have f12 := hfz4 12 (by omega)
  have f13 := hfz4 13 (by omega)
  have f14 := hfz4 14 (by omega)
  have f15 := hfz4 15 (by omega)
  clear hrw4 hfz4 z6 z7 c4 c6 c7 kb3 R2
  go_upto_region 11 with (fail)
  go_cut [14, 15] from 63 to 78 (fun s1 s2 w' => ∃ BU BV : Nat, s1 = .pointer (some ⟨BU, 0, none⟩) ∧ s2 = .pointer (some ⟨BV, 0, none⟩) ∧ BU ≠ BV ∧ g < BU ∧ g < BV ∧ w4.heap.size ≤ BU ∧ w4.heap.size ≤ BV ∧ KeptC w4 [(⟨g, o + 8, none⟩, .bool xp), (⟨g, o + 9, none⟩, .int .i64 xv), (⟨g, o + 10, none⟩, .int .i64 xo), (⟨g, o + 11, none⟩, .int .i64 xg), (⟨g, o + 12, none⟩, .bool xq), (⟨g, o + 13, none⟩, .int .i64 xu), (⟨g, o + 14, none⟩, .int .i64 xr), (⟨g, o + 15, none⟩, .int .i64 xt), (⟨BU, 0, none⟩, .bool pp), (⟨BU, 1, none⟩, .int .i64 pv), (⟨BU, 2, none⟩, .int .i64 po), (⟨BU, 3, none⟩, .int .i64 pg), (⟨BV, 0, none⟩, .bool qq), (⟨BV, 1, none⟩, .int .i64 qv), (⟨BV, 2, none⟩, .int .i64 qo), (⟨BV, 3, none⟩, .int .i64 qg)] [⟨g, o + 8, none⟩, ⟨g, o + 9, none⟩, ⟨g, o + 10, none⟩, ⟨g, o + 11, none⟩, ⟨g, o + 12, none⟩, ⟨g, o + 13, none⟩, ⟨g, o + 14, none⟩, ⟨g, o + 15, none⟩] w')
  case first =>
    have kS : ∀ w1 w2 : World, (Below w4.heap.size w4 w1 ∧ w1.cell? ⟨g, o + 8, none⟩ = some (.bool xp) ∧ w1.cell? ⟨g, o + 9, none⟩ = some (.int .i64 xv) ∧ w1.cell? ⟨g, o + 10, none⟩ = some (.int .i64 xo) ∧ w1.cell? ⟨g, o + 11, none⟩ = some (.int .i64 xg) ∧ w1.cell? ⟨g, o + 12, none⟩ = some (.bool xq) ∧ w1.cell? ⟨g, o + 13, none⟩ = some (.int .i64 xu) ∧ w1.cell? ⟨g, o + 14, none⟩ = some (.int .i64 xr) ∧ w1.cell? ⟨g, o + 15, none⟩ = some (.int .i64 xt) ∧ w1.frozen? ⟨g, o + 8, none⟩ = false ∧ w1.frozen? ⟨g, o + 9, none⟩ = false ∧ w1.frozen? ⟨g, o + 10, none⟩ = false ∧ w1.frozen? ⟨g, o + 11, none⟩ = false ∧ w1.frozen? ⟨g, o + 12, none⟩ = false ∧ w1.frozen? ⟨g, o + 13, none⟩ = false ∧ w1.frozen? ⟨g, o + 14, none⟩ = false ∧ w1.frozen? ⟨g, o + 15, none⟩ = false) → Below w1.heap.size w1 w2 → (Below w4.heap.size w4 w2 ∧ w2.cell? ⟨g, o + 8, none⟩ = some (.bool xp) ∧ w2.cell? ⟨g, o + 9, none⟩ = some (.int .i64 xv) ∧ w2.cell? ⟨g, o + 10, none⟩ = some (.int .i64 xo) ∧ w2.cell? ⟨g, o + 11, none⟩ = some (.int .i64 xg) ∧ w2.cell? ⟨g, o + 12, none⟩ = some (.bool xq) ∧ w2.cell? ⟨g, o + 13, none⟩ = some (.int .i64 xu) ∧ w2.cell? ⟨g, o + 14, none⟩ = some (.int .i64 xr) ∧ w2.cell? ⟨g, o + 15, none⟩ = some (.int .i64 xt) ∧ w2.frozen? ⟨g, o + 8, none⟩ = false ∧ w2.frozen? ⟨g, o + 9, none⟩ = false ∧ w2.frozen? ⟨g, o + 10, none⟩ = false ∧ w2.frozen? ⟨g, o + 11, none⟩ = false ∧ w2.frozen? ⟨g, o + 12, none⟩ = false ∧ w2.frozen? ⟨g, o + 13, none⟩ = false ∧ w2.frozen? ⟨g, o + 14, none⟩ = false ∧ w2.frozen? ⟨g, o + 15, none⟩ = false) := by
      rintro w1 w2 ⟨k0, k1, k2, k3, k4, k5, k6, k7, k8, k9, k10, k11, k12, k13, k14, k15, k16⟩ hb
      exact ⟨k0.trans (hb.mono k0.size), (hb.cell (p := ⟨g, o + 8, none⟩) (cell_lt k1)).trans k1, (hb.cell (p := ⟨g, o + 9, none⟩) (cell_lt k2)).trans k2, (hb.cell (p := ⟨g, o + 10, none⟩) (cell_lt k3)).trans k3, (hb.cell (p := ⟨g, o + 11, none⟩) (cell_lt k4)).trans k4, (hb.cell (p := ⟨g, o + 12, none⟩) (cell_lt k5)).trans k5, (hb.cell (p := ⟨g, o + 13, none⟩) (cell_lt k6)).trans k6, (hb.cell (p := ⟨g, o + 14, none⟩) (cell_lt k7)).trans k7, (hb.cell (p := ⟨g, o + 15, none⟩) (cell_lt k8)).trans k8, (hb.frozen (p := ⟨g, o + 8, none⟩) (cell_lt k1)).trans k9, (hb.frozen (p := ⟨g, o + 9, none⟩) (cell_lt k2)).trans k10, (hb.frozen (p := ⟨g, o + 10, none⟩) (cell_lt k3)).trans k11, (hb.frozen (p := ⟨g, o + 11, none⟩) (cell_lt k4)).trans k12, (hb.frozen (p := ⟨g, o + 12, none⟩) (cell_lt k5)).trans k13, (hb.frozen (p := ⟨g, o + 13, none⟩) (cell_lt k6)).trans k14, (hb.frozen (p := ⟨g, o + 14, none⟩) (cell_lt k7)).trans k15, (hb.frozen (p := ⟨g, o + 15, none⟩) (cell_lt k8)).trans k16⟩
    have KA : Hid (∀ (w1 : World) (o1 : Obj), (Below w4.heap.size w4 w1 ∧ w1.cell? ⟨g, o + 8, none⟩ = some (.bool xp) ∧ w1.cell? ⟨g, o + 9, none⟩ = some (.int .i64 xv) ∧ w1.cell? ⟨g, o + 10, none⟩ = some (.int .i64 xo) ∧ w1.cell? ⟨g, o + 11, none⟩ = some (.int .i64 xg) ∧ w1.cell? ⟨g, o + 12, none⟩ = some (.bool xq) ∧ w1.cell? ⟨g, o + 13, none⟩ = some (.int .i64 xu) ∧ w1.cell? ⟨g, o + 14, none⟩ = some (.int .i64 xr) ∧ w1.cell? ⟨g, o + 15, none⟩ = some (.int .i64 xt) ∧ w1.frozen? ⟨g, o + 8, none⟩ = false ∧ w1.frozen? ⟨g, o + 9, none⟩ = false ∧ w1.frozen? ⟨g, o + 10, none⟩ = false ∧ w1.frozen? ⟨g, o + 11, none⟩ = false ∧ w1.frozen? ⟨g, o + 12, none⟩ = false ∧ w1.frozen? ⟨g, o + 13, none⟩ = false ∧ w1.frozen? ⟨g, o + 14, none⟩ = false ∧ w1.frozen? ⟨g, o + 15, none⟩ = false) → (Below w4.heap.size w4 (w1.alloc o1) ∧ (w1.alloc o1).cell? ⟨g, o + 8, none⟩ = some (.bool xp) ∧ (w1.alloc o1).cell? ⟨g, o + 9, none⟩ = some (.int .i64 xv) ∧ (w1.alloc o1).cell? ⟨g, o + 10, none⟩ = some (.int .i64 xo) ∧ (w1.alloc o1).cell? ⟨g, o + 11, none⟩ = some (.int .i64 xg) ∧ (w1.alloc o1).cell? ⟨g, o + 12, none⟩ = some (.bool xq) ∧ (w1.alloc o1).cell? ⟨g, o + 13, none⟩ = some (.int .i64 xu) ∧ (w1.alloc o1).cell? ⟨g, o + 14, none⟩ = some (.int .i64 xr) ∧ (w1.alloc o1).cell? ⟨g, o + 15, none⟩ = some (.int .i64 xt) ∧ (w1.alloc o1).frozen? ⟨g, o + 8, none⟩ = false ∧ (w1.alloc o1).frozen? ⟨g, o + 9, none⟩ = false ∧ (w1.alloc o1).frozen? ⟨g, o + 10, none⟩ = false ∧ (w1.alloc o1).frozen? ⟨g, o + 11, none⟩ = false ∧ (w1.alloc o1).frozen? ⟨g, o + 12, none⟩ = false ∧ (w1.alloc o1).frozen? ⟨g, o + 13, none⟩ = false ∧ (w1.alloc o1).frozen? ⟨g, o + 14, none⟩ = false ∧ (w1.alloc o1).frozen? ⟨g, o + 15, none⟩ = false)) := Lib.hid (fun w1 o1 h => kS w1 _ h ((Below.refl _ _).alloc (Nat.le_refl _) _))
    have KD : Hid (∀ (w1 : World), (Below w4.heap.size w4 w1 ∧ w1.cell? ⟨g, o + 8, none⟩ = some (.bool xp) ∧ w1.cell? ⟨g, o + 9, none⟩ = some (.int .i64 xv) ∧ w1.cell? ⟨g, o + 10, none⟩ = some (.int .i64 xo) ∧ w1.cell? ⟨g, o + 11, none⟩ = some (.int .i64 xg) ∧ w1.cell? ⟨g, o + 12, none⟩ = some (.bool xq) ∧ w1.cell? ⟨g, o + 13, none⟩ = some (.int .i64 xu) ∧ w1.cell? ⟨g, o + 14, none⟩ = some (.int .i64 xr) ∧ w1.cell? ⟨g, o + 15, none⟩ = some (.int .i64 xt) ∧ w1.frozen? ⟨g, o + 8, none⟩ = false ∧ w1.frozen? ⟨g, o + 9, none⟩ = false ∧ w1.frozen? ⟨g, o + 10, none⟩ = false ∧ w1.frozen? ⟨g, o + 11, none⟩ = false ∧ w1.frozen? ⟨g, o + 12, none⟩ = false ∧ w1.frozen? ⟨g, o + 13, none⟩ = false ∧ w1.frozen? ⟨g, o + 14, none⟩ = false ∧ w1.frozen? ⟨g, o + 15, none⟩ = false) → (Below w4.heap.size w4 w1.drew ∧ w1.drew.cell? ⟨g, o + 8, none⟩ = some (.bool xp) ∧ w1.drew.cell? ⟨g, o + 9, none⟩ = some (.int .i64 xv) ∧ w1.drew.cell? ⟨g, o + 10, none⟩ = some (.int .i64 xo) ∧ w1.drew.cell? ⟨g, o + 11, none⟩ = some (.int .i64 xg) ∧ w1.drew.cell? ⟨g, o + 12, none⟩ = some (.bool xq) ∧ w1.drew.cell? ⟨g, o + 13, none⟩ = some (.int .i64 xu) ∧ w1.drew.cell? ⟨g, o + 14, none⟩ = some (.int .i64 xr) ∧ w1.drew.cell? ⟨g, o + 15, none⟩ = some (.int .i64 xt) ∧ w1.drew.frozen? ⟨g, o + 8, none⟩ = false ∧ w1.drew.frozen? ⟨g, o + 9, none⟩ = false ∧ w1.drew.frozen? ⟨g, o + 10, none⟩ = false ∧ w1.drew.frozen? ⟨g, o + 11, none⟩ = false ∧ w1.drew.frozen? ⟨g, o + 12, none⟩ = false ∧ w1.drew.frozen? ⟨g, o + 13, none⟩ = false ∧ w1.drew.frozen? ⟨g, o + 14, none⟩ = false ∧ w1.drew.frozen? ⟨g, o + 15, none⟩ = false)) := Lib.hid (fun w1 h => kS w1 _ h ((Below.refl _ _).drew))
    have KT : Hid (∀ (W : World) (BU BV : Nat), (Below w4.heap.size w4 W ∧ W.cell? ⟨g, o + 8, none⟩ = some (.bool xp) ∧ W.cell? ⟨g, o + 9, none⟩ = some (.int .i64 xv) ∧ W.cell? ⟨g, o + 10, none⟩ = some (.int .i64 xo) ∧ W.cell? ⟨g, o + 11, none⟩ = some (.int .i64 xg) ∧ W.cell? ⟨g, o + 12, none⟩ = some (.bool xq) ∧ W.cell? ⟨g, o + 13, none⟩ = some (.int .i64 xu) ∧ W.cell? ⟨g, o + 14, none⟩ = some (.int .i64 xr) ∧ W.cell? ⟨g, o + 15, none⟩ = some (.int .i64 xt) ∧ W.frozen? ⟨g, o + 8, none⟩ = false ∧ W.frozen? ⟨g, o + 9, none⟩ = false ∧ W.frozen? ⟨g, o + 10, none⟩ = false ∧ W.frozen? ⟨g, o + 11, none⟩ = false ∧ W.frozen? ⟨g, o + 12, none⟩ = false ∧ W.frozen? ⟨g, o + 13, none⟩ = false ∧ W.frozen? ⟨g, o + 14, none⟩ = false ∧ W.frozen? ⟨g, o + 15, none⟩ = false) → W.cell? ⟨BU, 0, none⟩ = some (.bool pp) → W.cell? ⟨BU, 1, none⟩ = some (.int .i64 pv) → W.cell? ⟨BU, 2, none⟩ = some (.int .i64 po) → W.cell? ⟨BU, 3, none⟩ = some (.int .i64 pg) → W.cell? ⟨BV, 0, none⟩ = some (.bool qq) → W.cell? ⟨BV, 1, none⟩ = some (.int .i64 qv) → W.cell? ⟨BV, 2, none⟩ = some (.int .i64 qo) → W.cell? ⟨BV, 3, none⟩ = some (.int .i64 qg) → KeptC w4 [(⟨g, o + 8, none⟩, .bool xp), (⟨g, o + 9, none⟩, .int .i64 xv), (⟨g, o + 10, none⟩, .int .i64 xo), (⟨g, o + 11, none⟩, .int .i64 xg), (⟨g, o + 12, none⟩, .bool xq), (⟨g, o + 13, none⟩, .int .i64 xu), (⟨g, o + 14, none⟩, .int .i64 xr), (⟨g, o + 15, none⟩, .int .i64 xt), (⟨BU, 0, none⟩, .bool pp), (⟨BU, 1, none⟩, .int .i64 pv), (⟨BU, 2, none⟩, .int .i64 po), (⟨BU, 3, none⟩, .int .i64 pg), (⟨BV, 0, none⟩, .bool qq), (⟨BV, 1, none⟩, .int .i64 qv), (⟨BV, 2, none⟩, .int .i64 qo), (⟨BV, 3, none⟩, .int .i64 qg)] [⟨g, o + 8, none⟩, ⟨g, o + 9, none⟩, ⟨g, o + 10, none⟩, ⟨g, o + 11, none⟩, ⟨g, o + 12, none⟩, ⟨g, o + 13, none⟩, ⟨g, o + 14, none⟩, ⟨g, o + 15, none⟩] W) := by
      refine Lib.hid ?_
      rintro W BU BV ⟨k0, k1, k2, k3, k4, k5, k6, k7, k8, k9, k10, k11, k12, k13, k14, k15, k16⟩ u0 u1 u2 u3 v0 v1 v2 v3
      exact KeptC.cons k1 (KeptC.cons k2 (KeptC.cons k3 (KeptC.cons k4 (KeptC.cons k5 (KeptC.cons k6 (KeptC.cons k7 (KeptC.cons k8 (KeptC.cons u0 (KeptC.cons u1 (KeptC.cons u2 (KeptC.cons u3 (KeptC.cons v0 (KeptC.cons v1 (KeptC.cons v2 (KeptC.cons v3 (KeptC.consF (cell_lt k1) k9 (KeptC.consF (cell_lt k2) k10 (KeptC.consF (cell_lt k3) k11 (KeptC.consF (cell_lt k4) k12 (KeptC.consF (cell_lt k5) k13 (KeptC.consF (cell_lt k6) k14 (KeptC.consF (cell_lt k7) k15 (KeptC.consF (cell_lt k8) k16 (KeptC.mk0 k0))))))))))))))))))))))))
    have KS := Lib.hid kS
    clear kS
    have kF : ∀ (w1 : World) (b o1 : Nat) (u1 : Value), (Below w4.heap.size w4 w1 ∧ w1.cell? ⟨g, o + 8, none⟩ = some (.bool xp) ∧ w1.cell? ⟨g, o + 9, none⟩ = some (.int .i64 xv) ∧ w1.cell? ⟨g, o + 10, none⟩ = some (.int .i64 xo) ∧ w1.cell? ⟨g, o + 11, none⟩ = some (.int .i64 xg) ∧ w1.cell? ⟨g, o + 12, none⟩ = some (.bool xq) ∧ w1.cell? ⟨g, o + 13, none⟩ = some (.int .i64 xu) ∧ w1.cell? ⟨g, o + 14, none⟩ = some (.int .i64 xr) ∧ w1.cell? ⟨g, o + 15, none⟩ = some (.int .i64 xt) ∧ w1.frozen? ⟨g, o + 8, none⟩ = false ∧ w1.frozen? ⟨g, o + 9, none⟩ = false ∧ w1.frozen? ⟨g, o + 10, none⟩ = false ∧ w1.frozen? ⟨g, o + 11, none⟩ = false ∧ w1.frozen? ⟨g, o + 12, none⟩ = false ∧ w1.frozen? ⟨g, o + 13, none⟩ = false ∧ w1.frozen? ⟨g, o + 14, none⟩ = false ∧ w1.frozen? ⟨g, o + 15, none⟩ = false) → w4.heap.size ≤ b → (Below w4.heap.size w4 (w1.setCell ⟨b, o1, none⟩ u1) ∧ (w1.setCell ⟨b, o1, none⟩ u1).cell? ⟨g, o + 8, none⟩ = some (.bool xp) ∧ (w1.setCell ⟨b, o1, none⟩ u1).cell? ⟨g, o + 9, none⟩ = some (.int .i64 xv) ∧ (w1.setCell ⟨b, o1, none⟩ u1).cell? ⟨g, o + 10, none⟩ = some (.int .i64 xo) ∧ (w1.setCell ⟨b, o1, none⟩ u1).cell? ⟨g, o + 11, none⟩ = some (.int .i64 xg) ∧ (w1.setCell ⟨b, o1, none⟩ u1).cell? ⟨g, o + 12, none⟩ = some (.bool xq) ∧ (w1.setCell ⟨b, o1, none⟩ u1).cell? ⟨g, o + 13, none⟩ = some (.int .i64 xu) ∧ (w1.setCell ⟨b, o1, none⟩ u1).cell? ⟨g, o + 14, none⟩ = some (.int .i64 xr) ∧ (w1.setCell ⟨b, o1, none⟩ u1).cell? ⟨g, o + 15, none⟩ = some (.int .i64 xt) ∧ (w1.setCell ⟨b, o1, none⟩ u1).frozen? ⟨g, o + 8, none⟩ = false ∧ (w1.setCell ⟨b, o1, none⟩ u1).frozen? ⟨g, o + 9, none⟩ = false ∧ (w1.setCell ⟨b, o1, none⟩ u1).frozen? ⟨g, o + 10, none⟩ = false ∧ (w1.setCell ⟨b, o1, none⟩ u1).frozen? ⟨g, o + 11, none⟩ = false ∧ (w1.setCell ⟨b, o1, none⟩ u1).frozen? ⟨g, o + 12, none⟩ = false ∧ (w1.setCell ⟨b, o1, none⟩ u1).frozen? ⟨g, o + 13, none⟩ = false ∧ (w1.setCell ⟨b, o1, none⟩ u1).frozen? ⟨g, o + 14, none⟩ = false ∧ (w1.setCell ⟨b, o1, none⟩ u1).frozen? ⟨g, o + 15, none⟩ = false) := by
      rintro w1 b o1 u1 ⟨k0, k1, k2, k3, k4, k5, k6, k7, k8, k9, k10, k11, k12, k13, k14, k15, k16⟩ hbb
      exact ⟨k0.trans ((Below.refl _ _).setCell hbb _), (World.cell?_setCell_far _ _ _ _ (by simp only []; omega)).trans k1, (World.cell?_setCell_far _ _ _ _ (by simp only []; omega)).trans k2, (World.cell?_setCell_far _ _ _ _ (by simp only []; omega)).trans k3, (World.cell?_setCell_far _ _ _ _ (by simp only []; omega)).trans k4, (World.cell?_setCell_far _ _ _ _ (by simp only []; omega)).trans k5, (World.cell?_setCell_far _ _ _ _ (by simp only []; omega)).trans k6, (World.cell?_setCell_far _ _ _ _ (by simp only []; omega)).trans k7, (World.cell?_setCell_far _ _ _ _ (by simp only []; omega)).trans k8, (by rw [World.frozen?_setCell]; exact k9), (by rw [World.frozen?_setCell]; exact k10), (by rw [World.frozen?_setCell]; exact k11), (by rw [World.frozen?_setCell]; exact k12), (by rw [World.frozen?_setCell]; exact k13), (by rw [World.frozen?_setCell]; exact k14), (by rw [World.frozen?_setCell]; exact k15), (by rw [World.frozen?_setCell]; exact k16)⟩
    have KF := Lib.hid kF
    clear kF
    have HI : Hid (Below w4.heap.size w4 w4 ∧ w4.cell? ⟨g, o + 8, none⟩ = some (.bool xp) ∧ w4.cell? ⟨g, o + 9, none⟩ = some (.int .i64 xv) ∧ w4.cell? ⟨g, o + 10, none⟩ = some (.int .i64 xo) ∧ w4.cell? ⟨g, o + 11, none⟩ = some (.int .i64 xg) ∧ w4.cell? ⟨g, o + 12, none⟩ = some (.bool xq) ∧ w4.cell? ⟨g, o + 13, none⟩ = some (.int .i64 xu) ∧ w4.cell? ⟨g, o + 14, none⟩ = some (.int .i64 xr) ∧ w4.cell? ⟨g, o + 15, none⟩ = some (.int .i64 xt) ∧ w4.frozen? ⟨g, o + 8, none⟩ = false ∧ w4.frozen? ⟨g, o + 9, none⟩ = false ∧ w4.frozen? ⟨g, o + 10, none⟩ = false ∧ w4.frozen? ⟨g, o + 11, none⟩ = false ∧ w4.frozen? ⟨g, o + 12, none⟩ = false ∧ w4.frozen? ⟨g, o + 13, none⟩ = false ∧ w4.frozen? ⟨g, o + 14, none⟩ = false ∧ w4.frozen? ⟨g, o + 15, none⟩ = false) := Lib.hid ⟨Below.refl _ _, by assumption, by assumption, by assumption, by assumption, by assumption, by assumption, by assumption, by assumption, by assumption, by assumption, by assumption, by assumption, by assumption, by assumption, by assumption, by assumption⟩
    go_region_held3 (fun w' => Below w4.heap.size w4 w' ∧ w'.cell? ⟨g, o + 8, none⟩ = some (.bool xp) ∧ w'.cell? ⟨g, o + 9, none⟩ = some (.int .i64 xv) ∧ w'.cell? ⟨g, o + 10, none⟩ = some (.int .i64 xo) ∧ w'.cell? ⟨g, o + 11, none⟩ = some (.int .i64 xg) ∧ w'.cell? ⟨g, o + 12, none⟩ = some (.bool xq) ∧ w'.cell? ⟨g, o + 13, none⟩ = some (.int .i64 xu) ∧ w'.cell? ⟨g, o + 14, none⟩ = some (.int .i64 xr) ∧ w'.cell? ⟨g, o + 15, none⟩ = some (.int .i64 xt) ∧ w'.frozen? ⟨g, o + 8, none⟩ = false ∧ w'.frozen? ⟨g, o + 9, none⟩ = false ∧ w'.frozen? ⟨g, o + 10, none⟩ = false ∧ w'.frozen? ⟨g, o + 11, none⟩ = false ∧ w'.frozen? ⟨g, o + 12, none⟩ = false ∧ w'.frozen? ⟨g, o + 13, none⟩ = false ∧ w'.frozen? ⟨g, o + 14, none⟩ = false ∧ w'.frozen? ⟨g, o + 15, none⟩ = false) (repeat (first | with_reducible assumption | with_reducible exact HI.out | with_reducible refine KD.out _ ?_ | with_reducible refine KA.out _ _ ?_ | with_reducible refine KF.out _ _ _ _ ?_ (by omega) | with_reducible refine KS.out _ _ ?_ (by assumption))) (first | (with_reducible refine (C4.out _).mono ?_); rintro e w2 ⟨rfl, hb2⟩; obtain ⟨hc2, hf2⟩ := bcell hb2; have hz2 := hb2.size; (try simp at hz2); (try have hq1 : w4.heap.size < w2.heap.size := (by omega)); (try have hq2 : w4.heap.size + 1 < w2.heap.size := (by omega)); (try have hq3 : w4.heap.size < w2.heap.size + 1 := (by omega)); (try have hq4 : w4.heap.size + 1 < w2.heap.size + 1 := (by omega)); (try have hq5 : w4.heap.size < w2.heap.size + 1 + 1 := (by omega)))
    · go_wp2_with (fail)
      go_meet
      (try have q00 : w2.cell? ⟨w4.heap.size, 0, none⟩ = some (.bool false) := by go_simp); (try have q01 : w2.cell? ⟨w4.heap.size, 1, none⟩ = some (.int .i64 0) := by go_simp); (try have q02 : w2.cell? ⟨w4.heap.size, 2, none⟩ = some (.int .i64 0) := by go_simp); (try have q03 : w2.cell? ⟨w4.heap.size, 3, none⟩ = some (.int .i64 0) := by go_simp); (try have q10 : w2.cell? ⟨w4.heap.size + 1, 0, none⟩ = some (.bool false) := by go_simp); (try have q11 : w2.cell? ⟨w4.heap.size + 1, 1, none⟩ = some (.int .i64 0) := by go_simp); (try have q12 : w2.cell? ⟨w4.heap.size + 1, 2, none⟩ = some (.int .i64 0) := by go_simp); (try have q13 : w2.cell? ⟨w4.heap.size + 1, 3, none⟩ = some (.int .i64 0) := by go_simp)
      refine ⟨w2.heap.size, w2.heap.size + 1, rfl, rfl, by omega, by omega, by omega, by omega, by omega, KT.out _ _ _ (by assumption) ?_ ?_ ?_ ?_ ?_ ?_ ?_ ?_⟩ <;> go_simp
    · go_wp2_with (fail)
      go_meet
      (try have q00 : w2.cell? ⟨w4.heap.size, 0, none⟩ = some (.bool false) := by go_simp); (try have q01 : w2.cell? ⟨w4.heap.size, 1, none⟩ = some (.int .i64 0) := by go_simp); (try have q02 : w2.cell? ⟨w4.heap.size, 2, none⟩ = some (.int .i64 0) := by go_simp); (try have q03 : w2.cell? ⟨w4.heap.size, 3, none⟩ = some (.int .i64 0) := by go_simp); (try have q10 : w2.cell? ⟨w4.heap.size + 1, 0, none⟩ = some (.bool false) := by go_simp); (try have q11 : w2.cell? ⟨w4.heap.size + 1, 1, none⟩ = some (.int .i64 0) := by go_simp); (try have q12 : w2.cell? ⟨w4.heap.size + 1, 2, none⟩ = some (.int .i64 0) := by go_simp); (try have q13 : w2.cell? ⟨w4.heap.size + 1, 3, none⟩ = some (.int .i64 0) := by go_simp)
      refine ⟨w2.heap.size + 1, w2.heap.size, rfl, rfl, by omega, by omega, by omega, by omega, by omega, KT.out _ _ _ (by assumption) ?_ ?_ ?_ ?_ ?_ ?_ ?_ ?_⟩ <;> go_simp
    · go_wp2_with (fail)
      go_meet
      (try have q00 : w2.cell? ⟨w4.heap.size, 0, none⟩ = some (.bool false) := by go_simp); (try have q01 : w2.cell? ⟨w4.heap.size, 1, none⟩ = some (.int .i64 0) := by go_simp); (try have q02 : w2.cell? ⟨w4.heap.size, 2, none⟩ = some (.int .i64 0) := by go_simp); (try have q03 : w2.cell? ⟨w4.heap.size, 3, none⟩ = some (.int .i64 0) := by go_simp); (try have q10 : w2.cell? ⟨w4.heap.size + 1, 0, none⟩ = some (.bool false) := by go_simp); (try have q11 : w2.cell? ⟨w4.heap.size + 1, 1, none⟩ = some (.int .i64 0) := by go_simp); (try have q12 : w2.cell? ⟨w4.heap.size + 1, 2, none⟩ = some (.int .i64 0) := by go_simp); (try have q13 : w2.cell? ⟨w4.heap.size + 1, 3, none⟩ = some (.int .i64 0) := by go_simp)
      refine ⟨w4.heap.size, w2.heap.size, rfl, rfl, by omega, by omega, by omega, by omega, by omega, KT.out _ _ _ (by assumption) ?_ ?_ ?_ ?_ ?_ ?_ ?_ ?_⟩ <;> go_simp
    · go_wp2_with (fail)
      go_meet
      (try have q00 : w2.cell? ⟨w4.heap.size, 0, none⟩ = some (.bool false) := by go_simp); (try have q01 : w2.cell? ⟨w4.heap.size, 1, none⟩ = some (.int .i64 0) := by go_simp); (try have q02 : w2.cell? ⟨w4.heap.size, 2, none⟩ = some (.int .i64 0) := by go_simp); (try have q03 : w2.cell? ⟨w4.heap.size, 3, none⟩ = some (.int .i64 0) := by go_simp); (try have q10 : w2.cell? ⟨w4.heap.size + 1, 0, none⟩ = some (.bool false) := by go_simp); (try have q11 : w2.cell? ⟨w4.heap.size + 1, 1, none⟩ = some (.int .i64 0) := by go_simp); (try have q12 : w2.cell? ⟨w4.heap.size + 1, 2, none⟩ = some (.int .i64 0) := by go_simp); (try have q13 : w2.cell? ⟨w4.heap.size + 1, 3, none⟩ = some (.int .i64 0) := by go_simp)
      refine ⟨w4.heap.size, w4.heap.size + 1, rfl, rfl, by omega, by omega, by omega, by omega, by omega, KT.out _ _ _ (by assumption) ?_ ?_ ?_ ?_ ?_ ?_ ?_ ?_⟩ <;> go_simp
    · go_wp2_with (fail)
      go_meet
      (try have q00 : w2.cell? ⟨w4.heap.size, 0, none⟩ = some (.bool false) := by go_simp); (try have q01 : w2.cell? ⟨w4.heap.size, 1, none⟩ = some (.int .i64 0) := by go_simp); (try have q02 : w2.cell? ⟨w4.heap.size, 2, none⟩ = some (.int .i64 0) := by go_simp); (try have q03 : w2.cell? ⟨w4.heap.size, 3, none⟩ = some (.int .i64 0) := by go_simp); (try have q10 : w2.cell? ⟨w4.heap.size + 1, 0, none⟩ = some (.bool false) := by go_simp); (try have q11 : w2.cell? ⟨w4.heap.size + 1, 1, none⟩ = some (.int .i64 0) := by go_simp); (try have q12 : w2.cell? ⟨w4.heap.size + 1, 2, none⟩ = some (.int .i64 0) := by go_simp); (try have q13 : w2.cell? ⟨w4.heap.size + 1, 3, none⟩ = some (.int .i64 0) := by go_simp)
      refine ⟨w2.heap.size, w4.heap.size, rfl, rfl, by omega, by omega, by omega, by omega, by omega, KT.out _ _ _ (by assumption) ?_ ?_ ?_ ?_ ?_ ?_ ?_ ?_⟩ <;> go_simp
    · go_wp2_with (fail)
      go_meet
      (try have q00 : w2.cell? ⟨w4.heap.size, 0, none⟩ = some (.bool false) := by go_simp); (try have q01 : w2.cell? ⟨w4.heap.size, 1, none⟩ = some (.int .i64 0) := by go_simp); (try have q02 : w2.cell? ⟨w4.heap.size, 2, none⟩ = some (.int .i64 0) := by go_simp); (try have q03 : w2.cell? ⟨w4.heap.size, 3, none⟩ = some (.int .i64 0) := by go_simp); (try have q10 : w2.cell? ⟨w4.heap.size + 1, 0, none⟩ = some (.bool false) := by go_simp); (try have q11 : w2.cell? ⟨w4.heap.size + 1, 1, none⟩ = some (.int .i64 0) := by go_simp); (try have q12 : w2.cell? ⟨w4.heap.size + 1, 2, none⟩ = some (.int .i64 0) := by go_simp); (try have q13 : w2.cell? ⟨w4.heap.size + 1, 3, none⟩ = some (.int .i64 0) := by go_simp)
      refine ⟨w4.heap.size + 1, w4.heap.size, rfl, rfl, by omega, by omega, by omega, by omega, by omega, KT.out _ _ _ (by assumption) ?_ ?_ ?_ ?_ ?_ ?_ ?_ ?_⟩ <;> go_simp
  case rest =>
  obtain ⟨BU, BV, rfl, rfl, hUV, hgU, hgV, hBU, hBV, hcut⟩ := hcut
  clear c8 f8 c9 f9 c10 f10 c11 f11 c12 f12 c13 f13 c14 f14 c15 f15
  simp only [KeptC, List.forall_mem_cons] at hcut; obtain ⟨kb5, ⟨kc5_0, kc5_1, kc5_2, kc5_3, kc5_4, kc5_5, kc5_6, kc5_7, kc5_8, kc5_9, kc5_10, kc5_11, kc5_12, kc5_13, kc5_14, kc5_15, _⟩, ⟨kz5_0, kg5_0⟩, ⟨kz5_1, kg5_1⟩, ⟨kz5_2, kg5_2⟩, ⟨kz5_3, kg5_3⟩, ⟨kz5_4, kg5_4⟩, ⟨kz5_5, kg5_5⟩, ⟨kz5_6, kg5_6⟩, ⟨kz5_7, kg5_7⟩, _⟩ := hcut
  have hs5 := kb5.size
  have hVU := hUV.symm
  have hgU' : BU ≠ g := by omega
  have hgV' : BV ≠ g := by omega
  have hgU2 : g ≠ BU := by omega
  have hgV2 : g ≠ BV := by omega
  go_wp2
  refine bodyPost_ret (v := .tuple #[.slice (some ad) rs.length cx, .int .i64 0]) (by simp [results, Try.results18, go_sem, *]) rfl ⟨_, by rw [HRES.out], ?_, (by repeat (first | with_reducible refine Below.setCell ?_ (by first | (simp; done) | (simp; omega) | omega) _ | with_reducible refine Below.alloc ?_ (by first | (simp; done) | (simp; omega) | omega) _ | with_reducible refine Below.drew ?_ | with_reducible refine below_drewN ?_ _ | with_reducible exact Below.refl _ _ | with_reducible refine Below.trans ?_ (Below.mono kb5 (by first | (simp; done) | (simp; omega) | omega)) | with_reducible refine Below.trans ?_ (Below.mono kb4 (by first | (simp; done) | (simp; omega) | omega))))⟩
  rw [HRES.out]
  have r0 := HR4.out.below (kb5.mono hs4)
  have r1 := rowsE_upd r0 hkn hq (i := 8) (v := .bool pp) (x' := ⟨⟨xs, xe, xm, xa, 4, xc⟩, true, nn, ⟨pp, xv, xo, xg⟩, ⟨xq, xu, xr, xt⟩⟩) (by omega) rfl
  have r2 := rowsE_upd r1 hkn hq (i := 9) (v := .int .i64 pv) (x' := ⟨⟨xs, xe, xm, xa, 4, xc⟩, true, nn, ⟨pp, pv, xo, xg⟩, ⟨xq, xu, xr, xt⟩⟩) (by omega) rfl
  have r3 := rowsE_upd r2 hkn hq (i := 10) (v := .int .i64 po) (x' := ⟨⟨xs, xe, xm, xa, 4, xc⟩, true, nn, ⟨pp, pv, po, xg⟩, ⟨xq, xu, xr, xt⟩⟩) (by omega) rfl
  have r4 := rowsE_upd r3 hkn hq (i := 11) (v := .int .i64 pg) (x' := ⟨⟨xs, xe, xm, xa, 4, xc⟩, true, nn, ⟨pp, pv, po, pg⟩, ⟨xq, xu, xr, xt⟩⟩) (by omega) rfl
  have r5 := rowsE_upd r4 hkn hq (i := 12) (v := .bool qq) (x' := ⟨⟨xs, xe, xm, xa, 4, xc⟩, true, nn, ⟨pp, pv, po, pg⟩, ⟨qq, xu, xr, xt⟩⟩) (by omega) rfl
  have r6 := rowsE_upd r5 hkn hq (i := 13) (v := .int .i64 qv) (x' := ⟨⟨xs, xe, xm, xa, 4, xc⟩, true, nn, ⟨pp, pv, po, pg⟩, ⟨qq, qv, xr, xt⟩⟩) (by omega) rfl
  have r7 := rowsE_upd r6 hkn hq (i := 14) (v := .int .i64 qo) (x' := ⟨⟨xs, xe, xm, xa, 4, xc⟩, true, nn, ⟨pp, pv, po, pg⟩, ⟨qq, qv, qo, xt⟩⟩) (by omega) rfl
  have r8 := rowsE_upd r7 hkn hq (i := 15) (v := .int .i64 qg) (x' := ⟨⟨xs, xe, xm, xa, 4, xc⟩, true, nn, ⟨pp, pv, po, pg⟩, ⟨qq, qv, qo, qg⟩⟩) (by omega) rfl
  refine ⟨_, _, by rw [List.length_set], ?_, set_names HZ.out rfl HR.out.2⟩
  rw [List.length_set]
  exact r8.more (by have := kb5.size; simp; omega)
end Go.Proofs.Ytfihkkamedghkaa
