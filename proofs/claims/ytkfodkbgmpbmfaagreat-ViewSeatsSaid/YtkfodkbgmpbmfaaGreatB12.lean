/- Chapter 22, parts on the way: StS -/
import Derived.Test.YtkfodkbgmpbmfaaGreatB01
import Derived.Test.YtkfodkbgmpbmfaaGreatB11
set_option linter.unusedVariables false
set_option linter.unusedSimpArgs false
namespace Go.Proofs.YtkfodkbgmpbmfaaGreat
open Go.RowKit
set_option linter.unusedVariables false
noncomputable def sameS (ra rb : List St) : Bool := @decide (ra = rb) (Classical.propDecidable _)
theorem sameS_iff {ra rb : List St} : sameS ra rb = true ↔ ra = rb := by unfold sameS; exact @decide_eq_true_iff _ (Classical.propDecidable _)
theorem sameS_eq {ra rb : List St} (h : ra = rb) : sameS ra rb = true := sameS_iff.2 h
theorem sameS_ne {ra rb : List St} (h : ra ≠ rb) : sameS ra rb = false := by
 cases e : sameS ra rb with
 | false => rfl
 | true => exact absurd (sameS_iff.1 e) h
theorem stake_next {ra rb : List St} {k : Nat} {x y : St} (hx : ra[k]? = some x) (hy : rb[k]? = some y) (h : ra.take k = rb.take k) (e : x = y) : ra.take (k + 1) = rb.take (k + 1) := by
 rw [List.take_add_one, List.take_add_one, h, hx, hy, e]
theorem stake_off {ra rb : List St} {k : Nat} {x y : St} (hx : ra[k]? = some x) (hy : rb[k]? = some y) (e : x ≠ y) : ra ≠ rb := by
 intro h
 rw [h, hy] at hx
 exact e (Option.some.inj hx).symm
set_option maxRecDepth 100000 in
set_option maxHeartbeats 8000000 in
theorem srsame_any (A1 : Option Addr) (n1 cp1 : Nat) (ra : List St) (A2 : Option Addr) (n2 cp2 : Nat) (rb : List St) (w : World) (hr1 : StsAt w w.heap.size A1 n1 ra) (hr2 : StsAt w w.heap.size A2 n2 rb) (hm1 : n1 * 136 ≤ 140737488351232) (hm2 : n2 * 136 ≤ 140737488351232) :
    Calls Tryz.prog 74 #[.slice A1 n1 cp1, .slice A2 n2 cp2] w fun x w' => x = .returned (.bool (sameS ra rb)) ∧ Below w.heap.size w w' := by
 have HR1 := Lib.hid hr1
 have HR2 := Lib.hid hr2
 clear hr1 hr2
 by_cases hn : n1 = n2
 rotate_left
 · have e := sameS_ne (ra := ra) (rb := rb) (fun h => hn (by rw [← HR1.out.len, ← HR2.out.len, h]))
   rw [e]
   clear e
   have hb : ((n1 : Int) == (n2 : Int)) = false := by simpa using (show ¬ (n1 : Int) = n2 by omega)
   have hi : ¬ (n1 : Int) = n2 := by omega
   go_enter Tryz.func74, Tryz.ntmps74
   go_wp2
   go_ret
   exact ⟨rfl, Qb⟩
 subst hn
 go_enter Tryz.func74, Tryz.ntmps74
 go_wp2
 go_loopw [5] (fun i w' => ∃ (k : Nat), k ≤ n1 ∧ i = .int .i64 k ∧ Hid (ra.take k = rb.take k) ∧ KeptC w [] [] w') (fun i _ => n1 - (intOf i).toNat)
 case atStart => exact ⟨0, Nat.zero_le _, rfl, Lib.hid rfl, Qk⟩
 case round =>
  obtain ⟨k, hk, rfl, HT, hK⟩ := hrel
  have kb0 := hK.1
  by_cases hlt : k < n1
  rotate_left
  · obtain rfl : k = n1 := by omega
    have e := sameS_eq (ra := ra) (rb := rb) (by have := HT.out; rwa [List.take_of_length_le (Nat.le_of_eq HR1.out.len), List.take_of_length_le (Nat.le_of_eq HR2.out.len)] at this)
    have HE := Lib.hid e
    clear e
    go_wp2
    go_ret
    exact ⟨by rw [HE.out]; rfl, kb0⟩
  · obtain ⟨adx, yx, hAx, habx, hxx, hszx, hc16x⟩ := HR1.out.get hlt
    subst hAx
    obtain ⟨p, hpx⟩ : ∃ p, adx.add (k * 16) = p := ⟨_, rfl⟩
    have hpbx : p.block < w.heap.size := by rw [← hpx, block_of_add]; exact habx
    rw [hpx] at hc16x
    have hwsx : w.heap.size ≤ wr.heap.size := kb0.size
    have hpwx : p.block < wr.heap.size := by omega
    obtain ⟨⟨xs, xe, xm, xa, xk, xc⟩, xh, xi, ⟨xp, xv, xo, xg⟩, ⟨xq, xu, xr, xt⟩⟩ := yx
    obtain ⟨c0, c1, c2, c3, c4, c5, c6, c7, c8, c9, c10, c11, c12, c13, c14, c15⟩ := hc16x.below hpbx kb0
    have HXx := Lib.hid hxx
    clear hxx hszx hc16x
    simp only [] at c0 c1 c2 c3 c4 c5 c6 c7 c8 c9 c10 c11 c12 c13 c14 c15
    obtain ⟨ady, yy, hAy, haby, hxy, hszy, hc16y⟩ := HR2.out.get hlt
    subst hAy
    obtain ⟨q, hpy⟩ : ∃ q, ady.add (k * 16) = q := ⟨_, rfl⟩
    have hpby : q.block < w.heap.size := by rw [← hpy, block_of_add]; exact haby
    rw [hpy] at hc16y
    have hwsy : w.heap.size ≤ wr.heap.size := kb0.size
    have hpwy : q.block < wr.heap.size := by omega
    obtain ⟨⟨ys, ye, ym, ya, yk, yc⟩, yh, yi, ⟨yp, yv, yo, yg⟩, ⟨yq, yu, yr, yt⟩⟩ := yy
    obtain ⟨d0, d1, d2, d3, d4, d5, d6, d7, d8, d9, d10, d11, d12, d13, d14, d15⟩ := hc16y.below hpby kb0
    have HXy := Lib.hid hxy
    clear hxy hszy hc16y
    simp only [] at d0 d1 d2 d3 d4 d5 d6 d7 d8 d9 d10 d11 d12 d13 d14 d15
    have qe : ∀ W, (binOp .neq 96 (.agg #[.string xs, .int .i64 xe, .int .i64 xm, .bool xa, .int .i64 xk, .int .i64 xc, .bool xh, .int .i64 xi, .bool xp, .int .i64 xv, .int .i64 xo, .int .i64 xg, .bool xq, .int .i64 xu, .int .i64 xr, .int .i64 xt]) (.agg #[.string ys, .int .i64 ye, .int .i64 ym, .bool ya, .int .i64 yk, .int .i64 yc, .bool yh, .int .i64 yi, .bool yp, .int .i64 yv, .int .i64 yo, .int .i64 yg, .bool yq, .int .i64 yu, .int .i64 yr, .int .i64 yt])).run Tryz.prog W = .ok (.bool (!stEq ⟨⟨xs, xe, xm, xa, xk, xc⟩, xh, xi, ⟨xp, xv, xo, xg⟩, ⟨xq, xu, xr, xt⟩⟩ ⟨⟨ys, ye, ym, ya, yk, yc⟩, yh, yi, ⟨yp, yv, yo, yg⟩, ⟨yq, yu, yr, yt⟩⟩)) W := fun W => neq_state ⟨⟨xs, xe, xm, xa, xk, xc⟩, xh, xi, ⟨xp, xv, xo, xg⟩, ⟨xq, xu, xr, xt⟩⟩ ⟨⟨ys, ye, ym, ya, yk, yc⟩, yh, yi, ⟨yp, yv, yo, yg⟩, ⟨yq, yu, yr, yt⟩⟩ W
    cases hq : stEq ⟨⟨xs, xe, xm, xa, xk, xc⟩, xh, xi, ⟨xp, xv, xo, xg⟩, ⟨xq, xu, xr, xt⟩⟩ ⟨⟨ys, ye, ym, ya, yk, yc⟩, yh, yi, ⟨yp, yv, yo, yg⟩, ⟨yq, yu, yr, yt⟩⟩ with
    | true =>
     rw [hq] at qe
     have HE := Lib.hid (stEq_iff.1 hq)
     clear hq
     go_wp2_with (fail)
     go_quiet (fail)
     go_wp2
     go_roundw
     case rel => exact ⟨k + 1, by omega, by go_num, Lib.hid (stake_next HXx.out HXy.out HT.out HE.out), (Qk1 kb0)⟩
     case measure => simp [intOf]; omega
    | false =>
     rw [hq] at qe
     have HE := Lib.hid (sameS_ne (stake_off HXx.out HXy.out (stEq_ne hq)))
     clear hq
     go_wp2_with (fail)
     go_quiet (fail)
     go_wp2
     go_ret
     exact ⟨by rw [HE.out]; rfl, (Qb1 kb0)⟩
end Go.Proofs.YtkfodkbgmpbmfaaGreat
