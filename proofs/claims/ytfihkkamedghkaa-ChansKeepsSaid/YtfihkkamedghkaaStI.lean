/- Tick of chans: what the call computes, for fit states. -/
import Derived.Test.YtfihkkamedghkaaStJ
namespace Go.Proofs.Ytfihkkamedghkaa
open Go.RowKit
set_option linter.unusedVariables false
set_option maxRecDepth 100000 in
set_option maxHeartbeats 8000000 in
theorem stick_any (A : Option Addr) (n cp : Nat) (rs : List St) (id : Int) (w : World) (hr : StsAt w w.heap.size A n rs) (hm : n * 136 ≤ 140737488351232) (hfe : ∀ y ∈ rs, fitE y.mn ∧ fitE y.mx ∧ flowB y.inp = true) (h0 : 0 ≤ id) (h16 : id < 16) :
    Calls Try.prog 34 #[.slice A n cp, .int .i64 id] w fun e w' => ∃ lv, e = .returned lv ∧ ReadS w' lv (rs.map (tickX id)) ∧ Below w.heap.size w w' := by
  have HR := Lib.hid hr
  obtain rfl := hr.len
  have cc := fun W (hb : Below w.heap.size w W) => scopy_any A rs.length cp rs W ((HR.out.below hb).more hb.size) hm
  have CC := Lib.hid cc
  have HFE := Lib.hid hfe
  clear hr cc hfe
  go_enter Try.func34, Try.ntmps34
  go_wp2_with (fail)
  refine (CC.out _ (by repeat (first | with_reducible refine Below.setCell ?_ (by first | (simp; done) | (simp; omega) | omega) _ | with_reducible refine Below.alloc ?_ (by first | (simp; done) | (simp; omega) | omega) _ | with_reducible refine Below.drew ?_ | with_reducible refine below_drewN ?_ _ | with_reducible exact Below.refl _ _))).mono ?_; rintro e w1 ⟨lv, rfl, hown, hb1⟩
  have kb1 : Below w.heap.size w w1 := (by repeat (first | with_reducible refine Below.setCell ?_ (by first | (simp; done) | (simp; omega) | omega) _ | with_reducible refine Below.alloc ?_ (by first | (simp; done) | (simp; omega) | omega) _ | with_reducible refine Below.drew ?_ | with_reducible refine below_drewN ?_ _ | with_reducible exact Below.refl _ _ | with_reducible refine Below.trans ?_ (Below.mono hb1 (by first | (simp; done) | (simp; omega) | omega))))
  have hz1 := kb1.size
  rcases Nat.eq_zero_or_pos rs.length with hn0 | hn0
  · have hrs : rs = [] := List.length_eq_zero_iff.1 hn0
    have hrd := hown.read HR.out.2
    obtain ⟨A1, c1, rfl⟩ := row_slice' hown
    have HRD := Lib.hid hrd
    subst hrs
    clear hown hrd hb1
    simp only [List.length_nil] at *
    go_wp2
    refine wp_loop_rounds 1 ?_
    rw [rounds_succ]
    go_wp2
    refine bodyPost_ret (v := .slice A1 0 c1) (by simp [results, Try.results34, go_sem, *]) rfl ⟨_, rfl, HRD.out, kb1⟩
  obtain ⟨ad, cx, rfl, hsp, hbase, hab, _, hrow0⟩ := OwnE.row stV_len St0 hown hn0
  obtain ⟨g, hg⟩ : ∃ g, ad.block = g := ⟨_, rfl⟩
  have hrow0 : RowE stV 16 w1 ad rs.length (tkR id rs 0) := hrow0
  rw [hg] at hbase hab
  (try simp at hbase)
  clear hown hb1
  go_wp2
  go_loopw [12] (fun i w' => ∃ (k : Nat), k ≤ rs.length ∧ i = .int .i64 k ∧ Below w.heap.size w w' ∧ w1.heap.size ≤ w'.heap.size ∧ Hid (RowE stV 16 w' ad rs.length (tkR id rs k))) (fun i _ => rs.length - (intOf i).toNat)
  case atStart => exact ⟨0, Nat.zero_le _, rfl, kb1, Nat.le_refl _, Lib.hid hrow0⟩
  case round =>
    obtain ⟨k, hk, rfl, kb2, hs2, HK⟩ := hrel
    by_cases hlt : k < rs.length
    rotate_left
    · obtain rfl : k = rs.length := by omega
      go_wp2
      refine bodyPost_ret (v := .slice (some ad) rs.length cx) (by simp [results, Try.results34, go_sem, *]) rfl ⟨_, rfl, sts_end HK.out (by simp) (fun t x hx => tkR_end hx) (by omega) (tick_names HR.out.2), kb2⟩
    obtain ⟨z, hz⟩ : ∃ z, rs[k]? = some z := ⟨_, List.getElem?_eq_getElem hlt⟩
    obtain ⟨hf1, hf2, hfl⟩ := HFE.out z (List.mem_of_getElem? hz)
    obtain ⟨o, ho⟩ : ∃ o, ad.off + k * 16 = o := ⟨_, rfl⟩
    have hq : ad.add (k * 16) = ⟨g, o, none⟩ := by rw [addr_eq hsp, hg, ho]
    obtain ⟨hc16, hfz4⟩ := row_open HK.out hlt (tkR_at hz) hq
    have HZ := Lib.hid hz
    have hgr : g < wr.heap.size := by omega
    have hadw : ad.block < wr.heap.size := by omega
    obtain ⟨c0, c1, c2, c3, c4, c5, c6, c7, c8, c9, c10, c11, c12, c13, c14, c15⟩ := st16_open hc16
    obtain ⟨⟨xs, xe, xm, xa, xk, xc⟩, xh, xi, ⟨xp, xv, xo, xg⟩, ⟨xq, xu, xr, xt⟩⟩ := z
    simp only [] at c0 c1 c2 c3 c4 c5 c6 c7 c8 c9 c10 c11 c12 c13 c14 c15 hf1 hf2 hfl
    clear hz hc16 ho
    cases xa with
    | false =>
      have hoff : tickX id ⟨⟨xs, xe, xm, false, xk, xc⟩, xh, xi, ⟨xp, xv, xo, xg⟩, ⟨xq, xu, xr, xt⟩⟩ = ⟨⟨xs, xe, xm, false, xk, xc⟩, xh, xi, ⟨xp, xv, xo, xg⟩, ⟨xq, xu, xr, xt⟩⟩ := by unfold tickX; rw [if_neg (by simp only []; simp)]
      have hnx := tkR_next (id := id) HZ.out hoff
      go_wp2
      go_roundw
      case rel => exact ⟨k + 1, by omega, by go_num, (by repeat (first | with_reducible refine Below.setCell ?_ (by first | (simp; done) | (simp; omega) | omega) _ | with_reducible refine Below.alloc ?_ (by first | (simp; done) | (simp; omega) | omega) _ | with_reducible refine Below.drew ?_ | with_reducible refine below_drewN ?_ _ | with_reducible exact Below.refl _ _ | with_reducible refine Below.trans ?_ (Below.mono kb2 (by first | (simp; done) | (simp; omega) | omega)))), (by first | omega | (simp; omega)), Lib.hid (by rw [← hnx]; exact row_same (HK.out.below hadw (by repeat (first | with_reducible refine Below.setCell ?_ (by first | (simp; done) | (simp; omega) | omega) _ | with_reducible refine Below.alloc ?_ (by first | (simp; done) | (simp; omega) | omega) _ | with_reducible refine Below.drew ?_ | with_reducible refine below_drewN ?_ _ | with_reducible exact Below.refl _ _))) (tkR_at HZ.out))⟩
      case measure => simp [intOf]; omega
    | true =>
    by_cases hk4 : xk = 4
    rotate_left
    · have hkb : (xk == 4) = false := by simpa using hk4
      have hoff : tickX id ⟨⟨xs, xe, xm, true, xk, xc⟩, xh, xi, ⟨xp, xv, xo, xg⟩, ⟨xq, xu, xr, xt⟩⟩ = ⟨⟨xs, xe, xm, true, xk, xc⟩, xh, xi, ⟨xp, xv, xo, xg⟩, ⟨xq, xu, xr, xt⟩⟩ := by unfold tickX; rw [if_neg (by simp only []; exact fun h => hk4 h.2)]
      have hnx := tkR_next (id := id) HZ.out hoff
      go_wp2
      go_roundw
      case rel => exact ⟨k + 1, by omega, by go_num, (by repeat (first | with_reducible refine Below.setCell ?_ (by first | (simp; done) | (simp; omega) | omega) _ | with_reducible refine Below.alloc ?_ (by first | (simp; done) | (simp; omega) | omega) _ | with_reducible refine Below.drew ?_ | with_reducible refine below_drewN ?_ _ | with_reducible exact Below.refl _ _ | with_reducible refine Below.trans ?_ (Below.mono kb2 (by first | (simp; done) | (simp; omega) | omega)))), (by first | omega | (simp; omega)), Lib.hid (by rw [← hnx]; exact row_same (HK.out.below hadw (by repeat (first | with_reducible refine Below.setCell ?_ (by first | (simp; done) | (simp; omega) | omega) _ | with_reducible refine Below.alloc ?_ (by first | (simp; done) | (simp; omega) | omega) _ | with_reducible refine Below.drew ?_ | with_reducible refine below_drewN ?_ _ | with_reducible exact Below.refl _ _))) (tkR_at HZ.out))⟩
      case measure => simp [intOf]; omega
    subst hk4
    obtain ⟨P, hP⟩ : ∃ P, tickE 1 id xh xi ⟨xp, xv, xo, xg⟩ = P := ⟨_, rfl⟩
    obtain ⟨Q, hQ⟩ : ∃ Q, tickE (-1) id xh xi ⟨xq, xu, xr, xt⟩ = Q := ⟨_, rfl⟩
    have cs := fun W => tickE_any id xh xi ⟨xp, xv, xo, xg⟩ ⟨xq, xu, xr, xt⟩ h0 h16 hfl hf1 hf2 W
    rw [hP, hQ] at cs
    obtain ⟨pp, pv, po, pg⟩ := P
    obtain ⟨qq, qv, qo, qg⟩ := Q
    simp only [] at cs
    have C4 := Lib.hid cs
    have hon : tickX id ⟨⟨xs, xe, xm, true, 4, xc⟩, xh, xi, ⟨xp, xv, xo, xg⟩, ⟨xq, xu, xr, xt⟩⟩ = ⟨⟨xs, xe, xm, true, 4, xc⟩, xh, xi, ⟨pp, pv, po, pg⟩, ⟨qq, qv, qo, qg⟩⟩ := by simp [tickX, hP, hQ]
    have hnx := tkR_next (id := id) HZ.out hon
    clear cs hP hQ hf1 hf2 hon
    go_wp2_with (fail)
    refine (C4.out _).mono ?_; rintro e w5 ⟨rfl, hb5⟩
    have kb5 : Below wr.heap.size wr w5 := (by repeat (first | with_reducible refine Below.setCell ?_ (by first | (simp; done) | (simp; omega) | omega) _ | with_reducible refine Below.alloc ?_ (by first | (simp; done) | (simp; omega) | omega) _ | with_reducible refine Below.drew ?_ | with_reducible refine below_drewN ?_ _ | with_reducible exact Below.refl _ _ | with_reducible refine Below.trans ?_ (Below.mono hb5 (by first | (simp; done) | (simp; omega) | omega))))
    have hs5 := kb5.size
    have K5 : KeptC wr [(⟨g, o + 8, none⟩, .bool xp), (⟨g, o + 9, none⟩, .int .i64 xv), (⟨g, o + 10, none⟩, .int .i64 xo), (⟨g, o + 11, none⟩, .int .i64 xg), (⟨g, o + 12, none⟩, .bool xq), (⟨g, o + 13, none⟩, .int .i64 xu), (⟨g, o + 14, none⟩, .int .i64 xr), (⟨g, o + 15, none⟩, .int .i64 xt)] [⟨g, o + 8, none⟩, ⟨g, o + 9, none⟩, ⟨g, o + 10, none⟩, ⟨g, o + 11, none⟩, ⟨g, o + 12, none⟩, ⟨g, o + 13, none⟩, ⟨g, o + 14, none⟩, ⟨g, o + 15, none⟩] w5 := by
      have f8 := hfz4 8 (by omega)
      have f9 := hfz4 9 (by omega)
      have f10 := hfz4 10 (by omega)
      have f11 := hfz4 11 (by omega)
      have f12 := hfz4 12 (by omega)
      have f13 := hfz4 13 (by omega)
      have f14 := hfz4 14 (by omega)
      have f15 := hfz4 15 (by omega)
      exact KeptC.below (by (repeat' (first | refine KeptC.cons ?_ ?_ | refine KeptC.consF ?_ ?_ ?_ | refine KeptC.mk0 ?_)); all_goals (first | with_reducible assumption | (go_simp; done) | (simp; omega) | exact (by repeat (first | with_reducible refine Below.setCell ?_ (by first | (simp; done) | (simp; omega) | omega) _ | with_reducible refine Below.alloc ?_ (by first | (simp; done) | (simp; omega) | omega) _ | with_reducible refine Below.drew ?_ | with_reducible refine below_drewN ?_ _ | with_reducible exact Below.refl _ _)))) hb5
    clear hb5 kb5 hfz4 c0 c1 c2 c3 c4 c5 c6 c7 c8 c9 c10 c11 c12 c13 c14 c15
    simp only [KeptC, List.forall_mem_cons] at K5; obtain ⟨kb5, ⟨kc5_0, kc5_1, kc5_2, kc5_3, kc5_4, kc5_5, kc5_6, kc5_7, _⟩, ⟨kz5_0, kg5_0⟩, ⟨kz5_1, kg5_1⟩, ⟨kz5_2, kg5_2⟩, ⟨kz5_3, kg5_3⟩, ⟨kz5_4, kg5_4⟩, ⟨kz5_5, kg5_5⟩, ⟨kz5_6, kg5_6⟩, ⟨kz5_7, kg5_7⟩, _⟩ := K5
    have hg5 : g < w5.heap.size := by omega
    go_wp2
    go_roundw
    case rel =>
      have r0 := row_same (HK.out.below hadw kb5) (tkR_at HZ.out)
      have r1 := row_upd r0 hlt hq (i0 := 8) (v := .bool pp) (x' := ⟨⟨xs, xe, xm, true, 4, xc⟩, xh, xi, ⟨pp, xv, xo, xg⟩, ⟨xq, xu, xr, xt⟩⟩) (by omega) rfl
      have r2 := row_upd r1 hlt hq (i0 := 9) (v := .int .i64 pv) (x' := ⟨⟨xs, xe, xm, true, 4, xc⟩, xh, xi, ⟨pp, pv, xo, xg⟩, ⟨xq, xu, xr, xt⟩⟩) (by omega) rfl
      have r3 := row_upd r2 hlt hq (i0 := 10) (v := .int .i64 po) (x' := ⟨⟨xs, xe, xm, true, 4, xc⟩, xh, xi, ⟨pp, pv, po, xg⟩, ⟨xq, xu, xr, xt⟩⟩) (by omega) rfl
      have r4 := row_upd r3 hlt hq (i0 := 11) (v := .int .i64 pg) (x' := ⟨⟨xs, xe, xm, true, 4, xc⟩, xh, xi, ⟨pp, pv, po, pg⟩, ⟨xq, xu, xr, xt⟩⟩) (by omega) rfl
      have r5 := row_upd r4 hlt hq (i0 := 12) (v := .bool qq) (x' := ⟨⟨xs, xe, xm, true, 4, xc⟩, xh, xi, ⟨pp, pv, po, pg⟩, ⟨qq, xu, xr, xt⟩⟩) (by omega) rfl
      have r6 := row_upd r5 hlt hq (i0 := 13) (v := .int .i64 qv) (x' := ⟨⟨xs, xe, xm, true, 4, xc⟩, xh, xi, ⟨pp, pv, po, pg⟩, ⟨qq, qv, xr, xt⟩⟩) (by omega) rfl
      have r7 := row_upd r6 hlt hq (i0 := 14) (v := .int .i64 qo) (x' := ⟨⟨xs, xe, xm, true, 4, xc⟩, xh, xi, ⟨pp, pv, po, pg⟩, ⟨qq, qv, qo, xt⟩⟩) (by omega) rfl
      have r8 := row_upd r7 hlt hq (i0 := 15) (v := .int .i64 qg) (x' := ⟨⟨xs, xe, xm, true, 4, xc⟩, xh, xi, ⟨pp, pv, po, pg⟩, ⟨qq, qv, qo, qg⟩⟩) (by omega) rfl
      exact ⟨k + 1, by omega, by go_num, (by repeat (first | with_reducible refine Below.setCell ?_ (by first | (simp; done) | (simp; omega) | omega) _ | with_reducible refine Below.alloc ?_ (by first | (simp; done) | (simp; omega) | omega) _ | with_reducible refine Below.drew ?_ | with_reducible refine below_drewN ?_ _ | with_reducible exact Below.refl _ _ | with_reducible refine Below.trans ?_ (Below.mono kb5 (by first | (simp; done) | (simp; omega) | omega)) | with_reducible refine Below.trans ?_ (Below.mono kb2 (by first | (simp; done) | (simp; omega) | omega)))), (by simp; omega), Lib.hid (by rw [← hnx]; exact r8)⟩
    case measure => simp [intOf]; omega
end Go.Proofs.Ytfihkkamedghkaa
