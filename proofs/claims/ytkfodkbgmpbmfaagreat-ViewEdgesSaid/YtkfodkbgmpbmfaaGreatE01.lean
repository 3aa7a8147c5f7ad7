/- Chapter 22, parts on the way: VwH VwI BgI VwO VwU VwW VwX VwY Wa -/
import Derived.WalkKit
import Derived.WalkSpells
import Derived.WalkLawsBesides
import Derived.Deep.QuietTactic
import Derived.BigQuiet
import Derived.Deep.RegionHeld
import Derived.StillTail
import Derived.Test.YtkfodkbgmpbmfaaGreatRows
import Derived.WalkMore
import Derived.Lib.Hide
import Derived.Laws.Strings
import Derived.Below
import Derived.Laws.OwnMore
import Derived.Deep.AppendLies
import Derived.Deep.Draws
import Derived.ChangeSame
import Derived.Deep.Slices
import Derived.Deep.Fields
import Derived.SizedLaws
import Derived.Lib.SmallJoins
import Derived.OpenShut
import Derived.RangeFuncNested
import Derived.RangeFuncBound
import Derived.RangeFuncCalls
import Derived.RangeFuncLeaves
import Derived.RangeFuncBox
import Derived.Shelf.Abstract
import Derived.Shelf.RegionOpen
import Derived.OwnWalkIn
import Derived.TacticsInMore
import Derived.LoopNIn
import Derived.LoopIn
import Derived.OrdersIn
import Derived.Maps.AppendAt
import Derived.RegionTactic
import Derived.OwnWalk
import Derived.Lib.SliceRun
import Derived.Deep.RegionHeld3
import Derived.Laws.EntriesVeiled
import Derived.Outline
import Derived.Laws.IdiomCopy
import Derived.RowKit
import Derived.Maps.Own
import Derived.Maps.OwnOps
import Derived.Maps.OwnSet
import Derived.Maps.Views
import Derived.Maps.RangeWalk
import Derived.DeepKeys4
import Derived.Maps.OwnIn
import Derived.Deep.OwnRows
import Derived.Deep.RegionLaw
import Derived.Deep.Cut
import Derived.Deep.CutRange
import Derived.Deep.DeepAppendWide
import Derived.Lib.Mul64
import Derived.Shelf.Spec.BitsCarry
import Derived.Laws.Bits64b
import Derived.BigRegion
import Derived.Test.YtkfodkbgmpbmfaaGreatB01
import Derived.Test.YtkfodkbgmpbmfaaGreatB02
import Derived.Test.YtkfodkbgmpbmfaaGreatB03
import Derived.Test.YtkfodkbgmpbmfaaGreatB04
import Derived.Test.YtkfodkbgmpbmfaaGreatB05
import Derived.Test.YtkfodkbgmpbmfaaGreatB06
import Derived.Test.YtkfodkbgmpbmfaaGreatB07
import Derived.Test.YtkfodkbgmpbmfaaGreatB08
import Derived.Test.YtkfodkbgmpbmfaaGreatB09
import Derived.Test.YtkfodkbgmpbmfaaGreatB10
import Derived.Test.YtkfodkbgmpbmfaaGreatB11
import Derived.Test.YtkfodkbgmpbmfaaGreatB12
import Derived.Test.YtkfodkbgmpbmfaaGreatB13
import Derived.Test.YtkfodkbgmpbmfaaGreatB14
import Derived.Test.YtkfodkbgmpbmfaaGreatB15
import Derived.Test.YtkfodkbgmpbmfaaGreatB16
import Derived.Test.YtkfodkbgmpbmfaaGreatB17
import Derived.Test.YtkfodkbgmpbmfaaGreatB18
import Derived.Test.YtkfodkbgmpbmfaaGreatB19
import Derived.Test.YtkfodkbgmpbmfaaGreatB20
import Derived.Test.YtkfodkbgmpbmfaaGreatB21
import Derived.Test.YtkfodkbgmpbmfaaGreatB22
import Derived.Test.YtkfodkbgmpbmfaaGreatB23
import Derived.Test.YtkfodkbgmpbmfaaGreatB24
import Derived.Test.YtkfodkbgmpbmfaaGreatB25
import Derived.Test.YtkfodkbgmpbmfaaGreatB26
import Derived.Test.YtkfodkbgmpbmfaaGreatB27
import Derived.Test.YtkfodkbgmpbmfaaGreatB28
import Derived.Test.YtkfodkbgmpbmfaaGreatB29
import Derived.Test.YtkfodkbgmpbmfaaGreatB30
import Derived.Test.YtkfodkbgmpbmfaaGreatB31
import Derived.Test.YtkfodkbgmpbmfaaGreatB32
import Derived.Test.YtkfodkbgmpbmfaaGreatB33
import Derived.Test.YtkfodkbgmpbmfaaGreatB34
import Derived.Test.YtkfodkbgmpbmfaaGreatB35
import Derived.Test.YtkfodkbgmpbmfaaGreatB36
import Derived.Test.YtkfodkbgmpbmfaaGreatB37
import Derived.Test.YtkfodkbgmpbmfaaGreatB38
import Derived.Test.YtkfodkbgmpbmfaaGreatB39
import Derived.Test.YtkfodkbgmpbmfaaGreatB40
import Derived.Test.YtkfodkbgmpbmfaaGreatB41
import Derived.Test.YtkfodkbgmpbmfaaGreatB42
set_option linter.unusedVariables false
set_option linter.unusedSimpArgs false
namespace Go.Proofs.YtkfodkbgmpbmfaaGreat
open Go.RowKit
set_option linter.unusedVariables false
set_option linter.unusedSimpArgs false
set_option maxRecDepth 100000
set_option maxHeartbeats 4000000 in
theorem rone_any (h : Hf) (w : World) (hl : LnsAt w w.heap.size h.la h.ln h.lines) (hm : h.ln ≤ 1000) :
    Calls Tryz.prog 124 #[HfV h] w fun e w' => ∃ A2 c2, e = .returned (HfV { h with la := A2, lc := c2 }) ∧ OwnE encLn 4 92 w' w.heap.size (.slice A2 h.ln c2) h.lines ∧ Below w.heap.size w w' := by
 obtain ⟨i0, hi0, hz0, hz1, hz2⟩ := info_parts line_inf
 obtain ⟨pe, bo, li, la, ln, lc, pd, mi, ls⟩ := h
 simp only [] at hl hm ⊢
 have HR := Lib.hid (RowsE.reads encLn_len hl.1)
 have HS := Lib.hid hl.2
 obtain rfl := hl.1.1
 clear hl
 go_enter Tryz.func124, Tryz.ntmps124
 go_wp2_with (at_builtin; refine wpList_append_any _ rfl (.tmp 7) (.tmp 9) _ rfl _ 92 i0 _ 4 40 Tryz.underlying57 hi0 hz0 hz1 hz2 rfl (by omega) (.slice none 0 0) 0 [] rfl ⟨by simp, .inl ⟨rfl, rfl⟩⟩ w.heap.size la ls.length lc _ rfl (by exact HR.out.below Qb) (flatE_one encLn_one _) (by simp only [maxLen]; omega) (by omega) (Nat.le_refl _) ?_; intro v1 w1 hown1 hg1 hat1; rw [Nat.zero_add, List.nil_append] at hown1; obtain ⟨A1, c1, hv1⟩ := row_slice' hown1; subst hv1; have hbg := (Below.refl _ _).grown hg1 (Nat.le_refl _) (by simp [Value.ownBlock]); obtain ⟨hc1, hf1⟩ := bcell hbg; have hs1 := hbg.size; (try simp at hs1); have q0 : w.heap.size < w1.heap.size := (by omega); have q1 : w.heap.size + 1 < w1.heap.size := (by omega); have q2 : w.heap.size + 1 + 1 < w1.heap.size := (by omega); have HO := Lib.hid hown1; have HB := Lib.hid hbg; clear hown1 hg1 hat1 hbg)
 obtain ⟨B4, hB4, ho4⟩ : ∃ B4, w.heap.size + 1 + 1 < B4 ∧ OwnE encLn 4 92 w1 B4 (.slice A1 ls.length c1) ls := ⟨_, by simp, HO.out⟩
 refine bodyPost_ret (v := HfV ⟨pe, bo, li, A1, ls.length, c1, pd, mi, ls⟩) (by simp [results, Tryz.results124, go_sem, *]) rfl ⟨A1, c1, rfl, ?_, (Qb1 HB.out)⟩
 refine OwnE.less (base := B4) ?_ (by omega)
 repeat refine OwnE.setc' ?_ (by first | (simp; done) | (simp; omega) | omega) _
 exact ho4
set_option maxHeartbeats 4000000 in
theorem rfindh_any (A : Option Addr) (n cp : Nat) (hs : List Hf) (p : Int) (w : World) (hr : HfsAt w w.heap.size A n hs) (hp : hs.Pairwise (fun a b => a.peer < b.peer)) (hm : n ≤ 1000) (hl : ∀ h ∈ hs, h.ln ≤ 1000) :
    Calls Tryz.prog 88 #[.slice A n cp, .int .i64 p] w fun e w' => FoundH (getH hs p) w w' e := by
 have HR := Lib.hid hr
 have HP := Lib.hid hp
 have HL := Lib.hid hl
 clear hr hp hl
 go_enter Tryz.func88, Tryz.ntmps88
 go_wp2
 go_loopw [6] (fun i w' => ∃ (k : Nat), k ≤ n ∧ i = .int .i64 k ∧ Hid (∀ (t : Nat) y, t < k → hs[t]? = some y → y.peer ≠ p) ∧ KeptC w [(⟨w.heap.size, 0, none⟩, .int .i64 0), (⟨w.heap.size, 1, none⟩, .int .i64 0), (⟨w.heap.size, 2, none⟩, .int .i64 0), (⟨w.heap.size, 3, none⟩, .slice none 0 0), (⟨w.heap.size, 4, none⟩, .bool false), (⟨w.heap.size, 5, none⟩, .int .i64 0)] [⟨w.heap.size, 0, none⟩, ⟨w.heap.size, 1, none⟩, ⟨w.heap.size, 2, none⟩, ⟨w.heap.size, 3, none⟩, ⟨w.heap.size, 4, none⟩, ⟨w.heap.size, 5, none⟩] w') (fun i _ => n - (intOf i).toNat)
 case atStart => exact ⟨0, Nat.zero_le _, rfl, Lib.hid before_zero, Qk⟩
 case round =>
  obtain ⟨k, hk, rfl, HA, hK⟩ := hrel
  simp only [KeptC, List.forall_mem_cons] at hK; obtain ⟨kb0, ⟨kc0_0, kc0_1, kc0_2, kc0_3, kc0_4, kc0_5, _⟩, ⟨kz0_0, kg0_0⟩, ⟨kz0_1, kg0_1⟩, ⟨kz0_2, kg0_2⟩, ⟨kz0_3, kg0_3⟩, ⟨kz0_4, kg0_4⟩, ⟨kz0_5, kg0_5⟩, _⟩ := hK
  have hs0 := kb0.size
  have hz0 : w.heap.size < wr.heap.size := cell_lt kc0_0
  by_cases hlt : k < n
  rotate_left
  · obtain rfl : k = n := by omega
    have HN : Hid (getH hs p = none) := Lib.hid (find_nope fun t y hy => by simpa using before_all HR.out.1.1 HA.out t y hy)
    go_wp2
    refine bodyPost_ret (v := .tuple #[HfV Hf0, .bool false]) (by simp [results, Tryz.results88, go_sem, *]) rfl ?_
    rw [HN.out]
    exact ⟨rfl, (Qb1 kb0)⟩
  · obtain ⟨ad, x, rfl, hab, hx, h6, hln⟩ := Hfs_get HR.out hlt
    obtain ⟨P, hP⟩ : ∃ P, ad.add (k * 6) = P := ⟨_, rfl⟩
    rw [hP] at h6 hab
    obtain ⟨c0, c1, c2, c3, c4, c5⟩ := h6.below hab kb0
    have hPw : P.block < wr.heap.size := by omega
    have HX := Lib.hid hx
    have C := Lib.hid (fun W (hb : Below w.heap.size w W) => rone_any x W ((hln.below hb).more hb.size) (HL.out x (List.mem_of_getElem? hx)))
    clear h6 hx hln
    cases he : (x.peer == p) with
    | true =>
     have HG : Hid (getH hs p = some x) := Lib.hid (getH_hit' HP.out HX.out (by simpa using he))
     go_wp2_with (fail)
     refine (C.out _ (Qb1 kb0)).mono ?_; rintro e w1 ⟨A2, c2, rfl, hl2, hb1⟩; obtain ⟨hcc1, hff1⟩ := bcell hb1
     have hz1 := hb1.size
     obtain ⟨B4, hB4, hl3⟩ : ∃ B4, w.heap.size < B4 ∧ OwnE encLn 4 92 w1 B4 (.slice A2 x.ln c2) x.lines := ⟨_, by omega, hl2⟩
     have HO := Lib.hid hl3
     clear hl2 hl3
     go_wp2
     refine bodyPost_ret (v := .tuple #[HfV { x with la := A2, lc := c2 }, .bool true]) (by simp [results, Tryz.results88, go_sem, *]) rfl ?_
     rw [HG.out]
     refine ⟨A2, c2, rfl, ?_, (Qb2 hb1 kb0)⟩
     refine OwnE.less (base := B4) ?_ (by omega)
     repeat refine OwnE.setc' ?_ (by first | (simp; done) | (simp; omega) | omega) _
     exact HO.out
    | false =>
     have HE : Hid (x.peer ≠ p) := Lib.hid (by simpa using he)
     go_wp2
     go_roundw
     case rel => exact ⟨k + 1, by omega, by go_num, Lib.hid (before_next HA.out HX.out HE.out), (Qk1 kb0)⟩
     case measure => simp [intOf]; omega
end Go.Proofs.YtkfodkbgmpbmfaaGreat
namespace Go.Proofs.YtkfodkbgmpbmfaaGreat
open Go.RowKit
set_option linter.unusedVariables false
set_option linter.unusedSimpArgs false
set_option maxRecDepth 100000
set_option maxHeartbeats 4000000 in
theorem rreg_any (h : Hf) (nm : ByteArray) (w : World) (hl : LnsAt w w.heap.size h.la h.ln h.lines) (hm : h.ln ≤ 1000) :
    Calls Tryz.prog 90 #[HfV h, .string nm] w fun e w' => e = .returned (RgV (getLn h.lines nm)) ∧ Below w.heap.size w w' := by
 obtain ⟨pe, bo, li, la, n, lc, pd, mi, ls⟩ := h
 simp only [] at hl hm ⊢
 have HR := Lib.hid hl
 clear hl
 go_enter Tryz.func90, Tryz.ntmps90
 go_wp2
 go_loopw [5] (fun i w' => ∃ (k : Nat), k ≤ n ∧ i = .int .i64 k ∧ Hid (∀ (t : Nat) y, t < k → ls[t]? = some y → isL nm y = false) ∧ KeptC w [(⟨w.heap.size, 3, none⟩, .slice la n lc), (⟨w.heap.size + 1, 0, none⟩, .int .i64 0), (⟨w.heap.size + 1, 1, none⟩, .int .i64 0), (⟨w.heap.size + 1, 2, none⟩, .int .i64 0)] [⟨w.heap.size + 1, 0, none⟩, ⟨w.heap.size + 1, 1, none⟩, ⟨w.heap.size + 1, 2, none⟩] w') (fun i _ => n - (intOf i).toNat)
 case atStart => exact ⟨0, Nat.zero_le _, rfl, Lib.hid before_zero, Qk⟩
 case round =>
  obtain ⟨k, hk, rfl, HA, hK⟩ := hrel
  simp only [KeptC, List.forall_mem_cons] at hK; obtain ⟨kb0, ⟨kc0_0, kc0_1, kc0_2, kc0_3, _⟩, ⟨kz0_0, kg0_0⟩, ⟨kz0_1, kg0_1⟩, ⟨kz0_2, kg0_2⟩, _⟩ := hK
  have hs0 := kb0.size
  have hz0 : w.heap.size + 1 < wr.heap.size := cell_lt kc0_1
  by_cases hlt : k < n
  rotate_left
  · obtain rfl : k = n := by omega
    have HN : Hid (getLn ls nm = Ln0) := Lib.hid (getLn_miss (before_all HR.out.1.1 HA.out))
    go_wp2
    refine bodyPost_ret (v := RgV Ln0) (by simp [results, Tryz.results90, go_sem, *]) rfl ⟨by rw [HN.out], (Qb1 kb0)⟩
  · obtain ⟨ad, x, rfl, hab, hx, h4, hsz⟩ := HR.out.get hlt
    obtain ⟨P, hP⟩ : ∃ P, ad.add (k * 4) = P := ⟨_, rfl⟩
    rw [hP] at h4 hab
    obtain ⟨c0, c1, c2, c3⟩ := h4.below hab kb0
    have hPw : P.block < wr.heap.size := by omega
    have HX := Lib.hid hx
    clear h4 hx
    cases he : (x.name.toList == nm.toList) with
    | true =>
     have HG : Hid (getLn ls nm = x) := Lib.hid (getLn_hit HX.out he HA.out)
     go_wp2
     refine bodyPost_ret (v := RgV x) (by simp [results, Tryz.results90, go_sem, *]) rfl ⟨by rw [HG.out], (Qb1 kb0)⟩
    | false =>
     have HE : Hid (isL nm x = false) := Lib.hid he
     go_wp2
     go_roundw
     case rel => exact ⟨k + 1, by omega, by go_num, Lib.hid (before_next HA.out HX.out HE.out), (Qk1 kb0)⟩
     case measure => simp [intOf]; omega
end Go.Proofs.YtkfodkbgmpbmfaaGreat
namespace Go.Proofs.YtkfodkbgmpbmfaaGreat.Bg
open Go.RowKit Go.Shelf
set_option linter.unusedVariables false
set_option linter.unusedSimpArgs false
set_option maxRecDepth 100000
def upto (ls : List Dg) (j : Nat) : List (Nat × Dg) := (List.range j).map (fun t => (t, (ls[t]?).getD Dg0))
end Go.Proofs.YtkfodkbgmpbmfaaGreat.Bg
namespace Go.Proofs.YtkfodkbgmpbmfaaGreat
open Go.RowKit
set_option linter.unusedVariables false
set_option linter.unusedSimpArgs false
set_option maxRecDepth 100000
set_option maxHeartbeats 4000000 in
theorem rup_any (x : Wd) (a : Int) (w : World) (hx : WdOk w x) :
    Calls Tryz.prog 45 #[WdV x, .int .i64 a] w fun e w' => e = .returned (.bool (upN x a).isSome) ∧ Below w.heap.size w w' := by
 have hl := hx.len
 have hn1 := hx.fit.n1
 by_cases h0 : 0 ≤ a
 · obtain ⟨k, rfl⟩ : ∃ k : Nat, a = k := ⟨a.toNat, by omega⟩
   by_cases hk : k < x.nn
   · obtain ⟨ad, b, hA, hab, hub, hc⟩ := hx.up hk
     obtain ⟨ad2, y, hA2, hab2, hy, h8, hnd⟩ := hx.nd hk
     have HU : Hid ((upN x k).isSome = b) := Lib.hid (by rw [upN_at (by omega) hub hy]; cases b <;> rfl)
     obtain ⟨na, nn, nc, ua, un, uc, da, dn, dc, nx, la, ll, lc, sa, sl, sc, lost, nds, ups⟩ := x
     simp only [] at *
     obtain ⟨e1, rfl⟩ := hl
     subst hA
     obtain ⟨P, hP⟩ : ∃ P, ad.add k = P := ⟨_, rfl⟩
     rw [hP] at hc hab
     have hkb : k < maxLen := by unfold maxLen; omega
     clear hx e1 h8 hnd hy hA2 hub hab2
     go_enter Tryz.func45, Tryz.ntmps45
     go_wp2
     go_ret
     exact ⟨by rw [HU.out]; rfl, Qb⟩
   · have HU : Hid ((upN x k).isSome = false) := Lib.hid (by rw [upN_ge (by omega)]; rfl)
     obtain ⟨na, nn, nc, ua, un, uc, da, dn, dc, nx, la, ll, lc, sa, sl, sc, lost, nds, ups⟩ := x
     simp only [] at *
     clear hx hl
     go_enter Tryz.func45, Tryz.ntmps45
     go_wp2
     go_ret
     exact ⟨by rw [HU.out]; rfl, Qb⟩
 · have HU : Hid ((upN x a).isSome = false) := Lib.hid (by rw [upN_ge (by omega)]; rfl)
   obtain ⟨na, nn, nc, ua, un, uc, da, dn, dc, nx, la, ll, lc, sa, sl, sc, lost, nds, ups⟩ := x
   simp only [] at *
   clear hx hl
   go_enter Tryz.func45, Tryz.ntmps45
   go_wp2
   go_ret
   exact ⟨by rw [HU.out]; rfl, Qb⟩
end Go.Proofs.YtkfodkbgmpbmfaaGreat
namespace Go.Proofs.YtkfodkbgmpbmfaaGreat
open Go.RowKit
set_option linter.unusedVariables false
set_option linter.unusedSimpArgs false
set_option maxRecDepth 100000
set_option maxHeartbeats 4000000 in
theorem rnames_any (x : Wd) (i j : Nat) (u v : Nd) (w : World) (hx : WdOk w x) (hi : x.nds[i]? = some u) (hj : x.nds[j]? = some v) :
    Calls Tryz.prog 51 #[WdV x, .int .i64 i, .int .i64 j] w fun e w' => e = .returned (.bool (namesB u v)) ∧ Below w.heap.size w w' := by
 have hl := hx.len
 have hn1 := hx.fit.n1
 have hin : i < x.nn := by have := (List.getElem?_eq_some_iff.1 hi).1; omega
 have hjn : j < x.nn := by have := (List.getElem?_eq_some_iff.1 hj).1; omega
 obtain ⟨ad, u2, hA, hab, hu2, h8, hnd⟩ := hx.nd hin
 obtain rfl := Option.some.inj (hi.symm.trans hu2)
 obtain ⟨ad2, v2, hA2, hab2, hv2, g8, gnd⟩ := hx.nd hjn
 obtain rfl := Option.some.inj (hj.symm.trans hv2)
 obtain rfl : ad = ad2 := Option.some.inj (hA.symm.trans hA2)
 have fu := hx.fit.nd i u hi
 have fv := hx.fit.nd j v hj
 have hnu := hnd.hn fu
 have hnv := gnd.hn fv
 have CF := Lib.hid (fun W (hb : Below w.heap.size w W) => rfindh_any u.ha u.hn u.hc u.halves j W ((hnd.2.2.1.below hb).more hb.size) fu.hs.1 hnu.1 (HfOk.ln hnd.2.2.1 fu.hs))
 have CG := Lib.hid (fun W (hb : Below w.heap.size w W) => rget_any v.sa v.sn v.sc v.seen i W ((gnd.2.1.below hb).more hb.size) (by omega))
 have HN : Hid (namesB u v = match getH u.halves j with | none => false | some h => decide (h.boot = v.boot) && decide (h.life = (getSn v.seen i).mine)) := Lib.hid (by unfold namesB; rw [fv.id, fu.id]; cases getH u.halves j <;> rfl)
 obtain ⟨na, nn, nc, ua, un, uc, da, dn, dc, nx, la, ll, lc, sa, sl, sc, lost, nds, ups⟩ := x
 simp only [] at *
 subst hA
 obtain ⟨P, hP⟩ : ∃ P, ad.add (i * 8) = P := ⟨_, rfl⟩
 rw [hP] at h8 hab
 obtain ⟨Q, hQ⟩ : ∃ Q, ad.add (j * 8) = Q := ⟨_, rfl⟩
 rw [hQ] at g8 hab2
 obtain ⟨c0, c1, c2, c3, c4, c5, c6, c7⟩ := h8
 obtain ⟨d0, d1, d2, d3, d4, d5, d6, d7⟩ := g8
 clear hx hnd gnd hu2 hv2 hA2 fu fv hnu hnv hi hj hl c0 c1 c2 c3 c4 c5 c7 d0 d2 d3 d4 d6 d7
 rw [HN.out]
 clear HN
 generalize getH u.halves j = o at CF ⊢
 generalize getSn v.seen i = s at CG ⊢
 go_enter Tryz.func51, Tryz.ntmps51
 go_wp2_with (fail)
 refine (CF.out _ Qb).mono ?_; intro e w1 hf
 clear CF c6
 cases o with
 | none =>
  obtain ⟨rfl, hb1⟩ := hf
  have hk1 : KeptC w [(⟨w.heap.size, 0, none⟩, .slice (some ad) nn nc)] [] w1 := by
   refine KeptC.below ?_ hb1
   exact Qk
  simp only [KeptC, List.forall_mem_cons] at hk1; obtain ⟨kb1, ⟨kc1_0, _⟩, _⟩ := hk1
  have hz1 : w.heap.size < w1.heap.size := cell_lt kc1_0
  clear hb1
  go_wp2_with (fail)
  refine wp_region_quietC_lit (KeptC w [(⟨w.heap.size, 0, none⟩, .slice (some ad) nn nc)] []) (by kernel_rfl) (by kernel_rfl) ?_ ?_
  · refine KeptC.drewn ?_
    exact Qk1 kb1
  repeat (first
   | go_big_quiet_skip
   | (go_big_quiet_want; (apply quietC_run); (· intro w' hw'; (have hk' := hw'; simp only [KeptC, List.forall_mem_cons] at hk'; go_split_ands); go_simp; first | done | rfl); (simp only [Act.put, List.setIfInBounds_toArray, List.set_cons_zero, List.set_cons_succ]; go_big_quiet_on))
   | (go_big_quiet_want; (apply quietC_call); (· intro w' hw'; go_simp; first | done | exact ⟨rfl, rfl⟩ | rfl); (· intro w' hw'; first | ((with_reducible refine (fail).mono ?_); rintro e w2 ⟨rfl, hb⟩; exact ⟨rfl, hw'.below hb⟩)); (simp only [Act.put, List.setIfInBounds_toArray, List.set_cons_zero, List.set_cons_succ]; go_big_quiet_on)))
  refine wpQuiet_nil ?_
  intro w9 hk9
  (have hk' := hk9; simp only [KeptC, List.forall_mem_cons] at hk'; go_split_ands); have hkB9 := hk9.1
  go_wp2
  go_ret
  exact ⟨rfl, hkB9⟩
 | some h =>
  obtain ⟨A2, c2, rfl, ho, hb1⟩ := hf
  have hk1 : KeptC w [(⟨w.heap.size, 0, none⟩, .slice (some ad) nn nc)] [] w1 := by
   refine KeptC.below ?_ hb1
   exact Qk
  simp only [KeptC, List.forall_mem_cons] at hk1; obtain ⟨kb1, ⟨kc1_0, _⟩, _⟩ := hk1
  have hz1 : w.heap.size < w1.heap.size := cell_lt kc1_0
  have hQw : Q.block < w1.heap.size := by omega
  have e1 : w1.cell? ⟨Q.block, Q.off + 1, none⟩ = some (.int .i64 v.boot) := (kb1.cell (p := ⟨Q.block, Q.off + 1, none⟩) hab2).trans d1
  have e5 : w1.cell? ⟨Q.block, Q.off + 5, none⟩ = some (.slice v.sa v.sn v.sc) := (kb1.cell (p := ⟨Q.block, Q.off + 5, none⟩) hab2).trans d5
  clear hb1 ho d1 d5
  obtain ⟨pe, bo, li, hla, hln, hlc, pd, mi, ls⟩ := h
  obtain ⟨sp, sb, sl2, sm⟩ := s
  simp only [] at *
  have hd1 : (bo == v.boot) = decide (bo = v.boot) := rfl
  have hd2 : (li == sm) = decide (li = sm) := rfl
  cases h1 : decide (bo = v.boot) with
  | false =>
   rw [h1] at hd1
   go_wp2_with (fail)
   refine wp_region_quietC_lit (KeptC w [(⟨w.heap.size, 0, none⟩, .slice (some ad) nn nc), (⟨Q.block, Q.off + 1, none⟩, .int .i64 v.boot), (⟨w1.heap.size, 1, none⟩, .int .i64 bo)] []) (by kernel_rfl) (by kernel_rfl) ?_ ?_
   · refine KeptC.drewn ?_
     exact Qk1 kb1
   repeat (first
    | go_big_quiet_skip
    | (go_big_quiet_want; (apply quietC_run); (· intro w' hw'; (have hk' := hw'; simp only [KeptC, List.forall_mem_cons] at hk'; go_split_ands); go_simp; first | done | rfl); (simp only [Act.put, List.setIfInBounds_toArray, List.set_cons_zero, List.set_cons_succ]; go_big_quiet_on))
    | (go_big_quiet_want; (apply quietC_call); (· intro w' hw'; go_simp; first | done | exact ⟨rfl, rfl⟩ | rfl); (· intro w' hw'; first | ((with_reducible refine (fail).mono ?_); rintro e w2 ⟨rfl, hb⟩; exact ⟨rfl, hw'.below hb⟩)); (simp only [Act.put, List.setIfInBounds_toArray, List.set_cons_zero, List.set_cons_succ]; go_big_quiet_on)))
   refine wpQuiet_nil ?_
   intro w9 hk9
   (have hk' := hk9; simp only [KeptC, List.forall_mem_cons] at hk'; go_split_ands); have hkB9 := hk9.1
   go_wp2
   go_ret
   exact ⟨rfl, hkB9⟩
  | true =>
   rw [h1] at hd1
   cases h2 : decide (li = sm) with
   | false =>
    rw [h2] at hd2
    go_wp2_with (fail)
    refine wp_region_quietC_lit (KeptC w [(⟨w.heap.size, 0, none⟩, .slice (some ad) nn nc), (⟨Q.block, Q.off + 1, none⟩, .int .i64 v.boot), (⟨Q.block, Q.off + 5, none⟩, .slice v.sa v.sn v.sc), (⟨w1.heap.size, 1, none⟩, .int .i64 bo), (⟨w1.heap.size, 2, none⟩, .int .i64 li)] []) (by kernel_rfl) (by kernel_rfl) ?_ ?_
    · refine KeptC.drewn ?_
      exact Qk1 kb1
    repeat (first
     | go_big_quiet_skip
     | (go_big_quiet_want; (refine quietC_run (v := .int .i64 sm) ?_ ?_); (· intro w' hw'; (have hk' := hw'; simp only [KeptC, List.forall_mem_cons] at hk'; go_split_ands); go_simp; first | done | rfl); (simp only [Act.put, List.setIfInBounds_toArray, List.set_cons_zero, List.set_cons_succ]; go_big_quiet_on))
     | (go_big_quiet_want; (apply quietC_run); (· intro w' hw'; (have hk' := hw'; simp only [KeptC, List.forall_mem_cons] at hk'; go_split_ands); go_simp; first | done | rfl); (simp only [Act.put, List.setIfInBounds_toArray, List.set_cons_zero, List.set_cons_succ]; go_big_quiet_on))
     | (go_big_quiet_want; (apply quietC_call); (· intro w' hw'; go_simp; first | done | exact ⟨rfl, rfl⟩ | rfl); (· intro w' hw'; first | ((with_reducible refine (CG.out _ hw'.lowV).mono ?_); rintro e w2 ⟨rfl, hb⟩; exact ⟨rfl, hw'.below hb⟩)); (simp only [Act.put, List.setIfInBounds_toArray, List.set_cons_zero, List.set_cons_succ]; go_big_quiet_on)))
    refine wpQuiet_nil ?_
    intro w9 hk9
    (have hk' := hk9; simp only [KeptC, List.forall_mem_cons] at hk'; go_split_ands); have hkB9 := hk9.1
    go_wp2
    go_ret
    exact ⟨rfl, hkB9⟩
   | true =>
    rw [h2] at hd2
    go_wp2_with (fail)
    refine wp_region_quietC_lit (KeptC w [(⟨w.heap.size, 0, none⟩, .slice (some ad) nn nc), (⟨Q.block, Q.off + 1, none⟩, .int .i64 v.boot), (⟨Q.block, Q.off + 5, none⟩, .slice v.sa v.sn v.sc), (⟨w1.heap.size, 1, none⟩, .int .i64 bo), (⟨w1.heap.size, 2, none⟩, .int .i64 li)] []) (by kernel_rfl) (by kernel_rfl) ?_ ?_
    · refine KeptC.drewn ?_
      exact Qk1 kb1
    repeat (first
     | go_big_quiet_skip
     | (go_big_quiet_want; (refine quietC_run (v := .int .i64 sm) ?_ ?_); (· intro w' hw'; (have hk' := hw'; simp only [KeptC, List.forall_mem_cons] at hk'; go_split_ands); go_simp; first | done | rfl); (simp only [Act.put, List.setIfInBounds_toArray, List.set_cons_zero, List.set_cons_succ]; go_big_quiet_on))
     | (go_big_quiet_want; (apply quietC_run); (· intro w' hw'; (have hk' := hw'; simp only [KeptC, List.forall_mem_cons] at hk'; go_split_ands); go_simp; first | done | rfl); (simp only [Act.put, List.setIfInBounds_toArray, List.set_cons_zero, List.set_cons_succ]; go_big_quiet_on))
     | (go_big_quiet_want; (apply quietC_call); (· intro w' hw'; go_simp; first | done | exact ⟨rfl, rfl⟩ | rfl); (· intro w' hw'; first | ((with_reducible refine (CG.out _ hw'.lowV).mono ?_); rintro e w2 ⟨rfl, hb⟩; exact ⟨rfl, hw'.below hb⟩)); (simp only [Act.put, List.setIfInBounds_toArray, List.set_cons_zero, List.set_cons_succ]; go_big_quiet_on)))
    refine wpQuiet_nil ?_
    intro w9 hk9
    (have hk' := hk9; simp only [KeptC, List.forall_mem_cons] at hk'; go_split_ands); have hkB9 := hk9.1
    go_wp2
    go_ret
    exact ⟨rfl, hkB9⟩
end Go.Proofs.YtkfodkbgmpbmfaaGreat
namespace Go.Proofs.YtkfodkbgmpbmfaaGreat
open Go.RowKit
set_option linter.unusedVariables false
set_option linter.unusedSimpArgs false
set_option maxRecDepth 100000
theorem rheld_off (x : Wd) (a b : Int) (w : World) (k1 k2 : Bool) (H1 : Hid (∀ W, Below w.heap.size w W → Calls Tryz.prog 45 #[WdV x, .int .i64 a] W fun e w' => e = .returned (.bool k1) ∧ Below W.heap.size W w'))
    (H2 : Hid (∀ W, Below w.heap.size w W → Calls Tryz.prog 45 #[WdV x, .int .i64 b] W fun e w' => e = .returned (.bool k2) ∧ Below W.heap.size W w')) (hk : k1 = false ∨ (k1 = true ∧ k2 = false) ∨ (k1 = true ∧ k2 = true ∧ (a != b) = false)) :
    Calls Tryz.prog 14 #[WdV x, .int .i64 a, .int .i64 b] w fun e w' => e = .returned (.bool false) ∧ Below w.heap.size w w' := by
 cases hab : (a != b) with
 | false =>
  clear hk
  go_enter Tryz.func14, Tryz.ntmps14
  go_wp2
  go_ret
  exact ⟨rfl, Qb⟩
 | true =>
  rcases hk with rfl | ⟨rfl, rfl⟩ | ⟨rfl, rfl, hab2⟩
  · go_enter Tryz.func14, Tryz.ntmps14
    go_wp2_with (fail)
    refine (H1.out _ Qb).mono ?_; rintro e w1 ⟨rfl, hb1⟩
    have kb1 : Below w.heap.size w w1 := (Qb1 hb1)
    clear hb1
    go_wp2
    go_ret
    exact ⟨rfl, (Qb1 kb1)⟩
  · go_enter Tryz.func14, Tryz.ntmps14
    go_wp2_with (fail)
    refine (H1.out _ Qb).mono ?_; rintro e w1 ⟨rfl, hb1⟩
    have hk1 : KeptC w [(⟨w.heap.size, 0, none⟩, .slice x.na x.nn x.nc), (⟨w.heap.size, 1, none⟩, .slice x.ua x.un x.uc), (⟨w.heap.size, 2, none⟩, .slice x.da x.dn x.dc), (⟨w.heap.size, 3, none⟩, .int .i64 x.nx), (⟨w.heap.size, 4, none⟩, .slice x.la x.ll x.lc), (⟨w.heap.size, 5, none⟩, .slice x.sa x.sl x.sc), (⟨w.heap.size, 6, none⟩, .int .i64 x.lost)] [] w1 := by
     refine KeptC.below ?_ hb1
     exact Qk
    simp only [KeptC, List.forall_mem_cons] at hk1; obtain ⟨kb1, ⟨kc1_0, kc1_1, kc1_2, kc1_3, kc1_4, kc1_5, kc1_6, _⟩, _⟩ := hk1
    clear hb1
    go_wp2_with (fail)
    refine (H2.out _ (Qb1 kb1)).mono ?_; rintro e w2 ⟨rfl, hb2⟩
    have hs1 := kb1.size
    have kb2 : Below w.heap.size w w2 := (Qb2 hb2 kb1)
    clear hb2
    go_wp2
    go_ret
    exact ⟨rfl, (Qb1 kb2)⟩
  · rw [hab] at hab2
    cases hab2
set_option maxHeartbeats 4000000 in
theorem rheld_on (x : Wd) (a b : Int) (w : World) (b1 b2 : Bool) (hab : (a != b) = true) (H1 : Hid (∀ W, Below w.heap.size w W → Calls Tryz.prog 45 #[WdV x, .int .i64 a] W fun e w' => e = .returned (.bool true) ∧ Below W.heap.size W w'))
    (H2 : Hid (∀ W, Below w.heap.size w W → Calls Tryz.prog 45 #[WdV x, .int .i64 b] W fun e w' => e = .returned (.bool true) ∧ Below W.heap.size W w'))
    (H3 : Hid (∀ W, Below w.heap.size w W → Calls Tryz.prog 51 #[WdV x, .int .i64 a, .int .i64 b] W fun e w' => e = .returned (.bool b1) ∧ Below W.heap.size W w'))
    (H4 : Hid (∀ W, Below w.heap.size w W → Calls Tryz.prog 51 #[WdV x, .int .i64 b, .int .i64 a] W fun e w' => e = .returned (.bool b2) ∧ Below W.heap.size W w')) :
    Calls Tryz.prog 14 #[WdV x, .int .i64 a, .int .i64 b] w fun e w' => e = .returned (.bool (b1 && b2)) ∧ Below w.heap.size w w' := by
 go_enter Tryz.func14, Tryz.ntmps14
 go_wp2_with (fail)
 refine (H1.out _ Qb).mono ?_; rintro e w1 ⟨rfl, hb1⟩
 have hk1 : KeptC w [(⟨w.heap.size, 0, none⟩, .slice x.na x.nn x.nc), (⟨w.heap.size, 1, none⟩, .slice x.ua x.un x.uc), (⟨w.heap.size, 2, none⟩, .slice x.da x.dn x.dc), (⟨w.heap.size, 3, none⟩, .int .i64 x.nx), (⟨w.heap.size, 4, none⟩, .slice x.la x.ll x.lc), (⟨w.heap.size, 5, none⟩, .slice x.sa x.sl x.sc), (⟨w.heap.size, 6, none⟩, .int .i64 x.lost)] [] w1 := by
  refine KeptC.below ?_ hb1
  exact Qk
 simp only [KeptC, List.forall_mem_cons] at hk1; obtain ⟨kb1, ⟨kc1_0, kc1_1, kc1_2, kc1_3, kc1_4, kc1_5, kc1_6, _⟩, _⟩ := hk1
 clear hb1
 go_wp2_with (fail)
 refine (H2.out _ (Qb1 kb1)).mono ?_; rintro e w2 ⟨rfl, hb2⟩
 have hk2 : KeptC w [(⟨w.heap.size, 0, none⟩, .slice x.na x.nn x.nc), (⟨w.heap.size, 1, none⟩, .slice x.ua x.un x.uc), (⟨w.heap.size, 2, none⟩, .slice x.da x.dn x.dc), (⟨w.heap.size, 3, none⟩, .int .i64 x.nx), (⟨w.heap.size, 4, none⟩, .slice x.la x.ll x.lc), (⟨w.heap.size, 5, none⟩, .slice x.sa x.sl x.sc), (⟨w.heap.size, 6, none⟩, .int .i64 x.lost)] [] w2 := by
  refine KeptC.below ?_ hb2
  exact Qk1 kb1
 simp only [KeptC, List.forall_mem_cons] at hk2; obtain ⟨kb2, ⟨kc2_0, kc2_1, kc2_2, kc2_3, kc2_4, kc2_5, kc2_6, _⟩, _⟩ := hk2
 clear hb2 kc1_0 kc1_1 kc1_2 kc1_3 kc1_4 kc1_5 kc1_6
 go_wp2_with (fail)
 refine (H3.out _ (Qb1 kb2)).mono ?_; rintro e w3 ⟨rfl, hb3⟩
 have hk3 : KeptC w [(⟨w.heap.size, 0, none⟩, .slice x.na x.nn x.nc), (⟨w.heap.size, 1, none⟩, .slice x.ua x.un x.uc), (⟨w.heap.size, 2, none⟩, .slice x.da x.dn x.dc), (⟨w.heap.size, 3, none⟩, .int .i64 x.nx), (⟨w.heap.size, 4, none⟩, .slice x.la x.ll x.lc), (⟨w.heap.size, 5, none⟩, .slice x.sa x.sl x.sc), (⟨w.heap.size, 6, none⟩, .int .i64 x.lost)] [] w3 := by
  refine KeptC.below ?_ hb3
  exact Qk1 kb2
 simp only [KeptC, List.forall_mem_cons] at hk3; obtain ⟨kb3, ⟨kc3_0, kc3_1, kc3_2, kc3_3, kc3_4, kc3_5, kc3_6, _⟩, _⟩ := hk3
 clear hb3 kc2_0 kc2_1 kc2_2 kc2_3 kc2_4 kc2_5 kc2_6
 cases b1 with
 | false =>
  go_wp2
  go_ret
  exact ⟨rfl, (Qb1 kb3)⟩
 | true =>
  go_wp2_with (fail)
  refine (H4.out _ (Qb1 kb3)).mono ?_; rintro e w4 ⟨rfl, hb4⟩
  have hs3 := kb3.size
  have kb4 : Below w.heap.size w w4 := (Qb2 hb4 kb3)
  clear hb4
  go_wp2
  go_ret
  exact ⟨rfl, (Qb1 kb4)⟩
theorem rheld_any (x : Wd) (a b : Int) (w : World) (hx : WdOk w x) : Calls Tryz.prog 14 #[WdV x, .int .i64 a, .int .i64 b] w fun e w' => e = .returned (.bool (heldB x a b)) ∧ Below w.heap.size w w' := by
 have H : ∀ c k, (upN x c).isSome = k → ∀ W, Below w.heap.size w W → Calls Tryz.prog 45 #[WdV x, .int .i64 c] W fun e w' => e = .returned (.bool k) ∧ Below W.heap.size W w' := fun c k hk W hb => by rw [← hk]; exact rup_any x c W (hx.below hb)
 cases hu : upN x a with
 | none => rw [heldB_off (.inl hu)]; exact rheld_off x a b w false _ (Lib.hid (H a _ (by rw [hu]; rfl))) (Lib.hid (H b _ rfl)) (.inl rfl)
 | some u =>
  cases hv : upN x b with
  | none => rw [heldB_off (.inr (.inl hv))]; exact rheld_off x a b w true false (Lib.hid (H a _ (by rw [hu]; rfl))) (Lib.hid (H b _ (by rw [hv]; rfl))) (.inr (.inl ⟨rfl, rfl⟩))
  | some v =>
   by_cases hab : a = b
   · rw [heldB_off (.inr (.inr hab))]; exact rheld_off x a b w true true (Lib.hid (H a _ (by rw [hu]; rfl))) (Lib.hid (H b _ (by rw [hv]; rfl))) (.inr (.inr ⟨rfl, rfl, by simpa using hab⟩))
   · rw [heldB_on hu hv hab]
     obtain ⟨i, rfl, hi, hyi, _⟩ := upN_some hu
     obtain ⟨j, rfl, hj, hyj, _⟩ := upN_some hv
     exact rheld_on x i j w _ _ (by simpa using hab) (Lib.hid (H i _ (by rw [hu]; rfl))) (Lib.hid (H j _ (by rw [hv]; rfl))) (Lib.hid fun W hb => rnames_any x i j u v W (hx.below hb) hyi hyj) (Lib.hid fun W hb => rnames_any x j i v u W (hx.below hb) hyj hyi)
end Go.Proofs.YtkfodkbgmpbmfaaGreat
namespace Go.Proofs.YtkfodkbgmpbmfaaGreat
open Go.RowKit
set_option linter.unusedVariables false
set_option linter.unusedSimpArgs false
set_option maxRecDepth 100000
set_option maxHeartbeats 8000000 in
theorem rinst_any (x : Wd) (a : Int) (nm : ByteArray) (w : World) (hx : WdOk w x) :
    Calls Tryz.prog 11 #[WdV x, .int .i64 a, .string nm] w fun e w' => e = .returned (.tuple #[ChV ((instS x a nm).getD St0).ch, .bool (instS x a nm).isSome]) ∧ Below w.heap.size w w' := by
 have CU := Lib.hid (fun W (hb : Below w.heap.size w W) => rup_any x a W (hx.below hb))
 cases hu : upN x a with
 | none =>
  have e1 : instS x a nm = none := by unfold instS; rw [hu]; rfl
  rw [hu] at CU
  rw [e1]
  clear hx e1
  go_enter Tryz.func11, Tryz.ntmps11
  go_wp2_with (fail)
  refine (CU.out _ Qb).mono ?_; rintro e w1 ⟨rfl, hb1⟩
  have hk1 : KeptC w [(⟨w.heap.size + 1, 0, none⟩, .string ⟨#[]⟩), (⟨w.heap.size + 1, 1, none⟩, .int .i64 0), (⟨w.heap.size + 1, 2, none⟩, .int .i64 0), (⟨w.heap.size + 1, 3, none⟩, .bool false), (⟨w.heap.size + 1, 4, none⟩, .int .i64 0), (⟨w.heap.size + 1, 5, none⟩, .int .i64 0)] [⟨w.heap.size + 1, 0, none⟩, ⟨w.heap.size + 1, 1, none⟩, ⟨w.heap.size + 1, 2, none⟩, ⟨w.heap.size + 1, 3, none⟩, ⟨w.heap.size + 1, 4, none⟩, ⟨w.heap.size + 1, 5, none⟩] w1 := by
   refine KeptC.below ?_ hb1
   exact Qk
  simp only [KeptC, List.forall_mem_cons] at hk1; obtain ⟨kb1, ⟨kc1_0, kc1_1, kc1_2, kc1_3, kc1_4, kc1_5, _⟩, ⟨kz1_0, kg1_0⟩, ⟨kz1_1, kg1_1⟩, ⟨kz1_2, kg1_2⟩, ⟨kz1_3, kg1_3⟩, ⟨kz1_4, kg1_4⟩, ⟨kz1_5, kg1_5⟩, _⟩ := hk1
  have hz1 : w.heap.size + 1 < w1.heap.size := cell_lt kc1_0
  clear hb1 CU
  simp only [Option.isSome_none]
  go_wp2
  refine bodyPost_ret (v := .tuple #[ChV Ch0, .bool false]) (by simp [results, Tryz.results11, go_sem, *]) rfl ⟨rfl, (Qb1 kb1)⟩
 | some u =>
  obtain ⟨hc, hcn⟩ := hx.chs a
  have e1 : instS x a nm = findS u.chans nm := by unfold instS; rw [hu]; rfl
  obtain ⟨k, rfl, hk, hy, _⟩ := upN_some hu
  have hl := hx.len
  have hn1 := hx.fit.n1
  obtain ⟨ad, u2, hA, hab, hu2, h8, hnd⟩ := hx.nd (k := k) (by omega)
  obtain rfl := Option.some.inj (hy.symm.trans hu2)
  rw [hu] at CU hc hcn
  simp only [Option.getD_some] at hc hcn
  rw [e1]
  have CF := Lib.hid (fun W (hb : Below w.heap.size w W) => srfind_any u.ca u.cn u.cc u.chans nm W ((hc.below hb).more hb.size) (by omega))
  generalize (findS u.chans nm).getD St0 = y at CF ⊢
  generalize (findS u.chans nm).isSome = ok at CF ⊢
  obtain ⟨⟨ys, ye, ym, ya, yk, yc⟩, yh, yi, ⟨yp, yv, yo, yg⟩, ⟨yq, yu, yr, yt⟩⟩ := y
  simp only [] at CF ⊢
  have hkn : k < x.nn := by omega
  obtain ⟨na, nn, nc, ua, un, uc, da, dn, dc, nx, la, ll, lc, sa, sl, sc, lost, nds, ups⟩ := x
  simp only [] at *
  subst hA
  obtain ⟨P, hP⟩ : ∃ P, ad.add (k * 8) = P := ⟨_, rfl⟩
  rw [hP] at h8 hab
  obtain ⟨c0, c1, c2, c3, c4, c5, c6, c7⟩ := h8
  clear hx hc e1 hu hy hu2 hnd hl c0 c1 c2 c3 c4 c5 c6 hk
  go_enter Tryz.func11, Tryz.ntmps11
  go_wp2_with (fail)
  refine (CU.out _ Qb).mono ?_; rintro e w1 ⟨rfl, hb1⟩
  have hk1 : KeptC w [(⟨w.heap.size, 0, none⟩, .slice (some ad) nn nc), (⟨w.heap.size + 1, 0, none⟩, .string ⟨#[]⟩), (⟨w.heap.size + 1, 1, none⟩, .int .i64 0), (⟨w.heap.size + 1, 2, none⟩, .int .i64 0), (⟨w.heap.size + 1, 3, none⟩, .bool false), (⟨w.heap.size + 1, 4, none⟩, .int .i64 0), (⟨w.heap.size + 1, 5, none⟩, .int .i64 0)] [⟨w.heap.size + 1, 0, none⟩, ⟨w.heap.size + 1, 1, none⟩, ⟨w.heap.size + 1, 2, none⟩, ⟨w.heap.size + 1, 3, none⟩, ⟨w.heap.size + 1, 4, none⟩, ⟨w.heap.size + 1, 5, none⟩] w1 := by
   refine KeptC.below ?_ hb1
   exact Qk
  simp only [KeptC, List.forall_mem_cons] at hk1; obtain ⟨kb1, ⟨kc1_0, kc1_1, kc1_2, kc1_3, kc1_4, kc1_5, kc1_6, _⟩, ⟨kz1_0, kg1_0⟩, ⟨kz1_1, kg1_1⟩, ⟨kz1_2, kg1_2⟩, ⟨kz1_3, kg1_3⟩, ⟨kz1_4, kg1_4⟩, ⟨kz1_5, kg1_5⟩, _⟩ := hk1
  have hz1 : w.heap.size + 1 < w1.heap.size := cell_lt kc1_1
  have hz1a : w.heap.size < w1.heap.size := cell_lt kc1_0
  have d7 : w1.cell? ⟨P.block, P.off + 7, none⟩ = some (.slice u.ca u.cn u.cc) := (kb1.cell (p := ⟨P.block, P.off + 7, none⟩) hab).trans c7
  have hPw : P.block < w1.heap.size := by omega
  clear hb1 CU c7
  simp only [Option.isSome_some]
  go_wp2_with (fail)
  refine (CF.out _ (Qb1 kb1)).mono ?_; rintro e w2 ⟨rfl, hb2⟩
  have hk2 : KeptC w [(⟨w.heap.size + 1, 0, none⟩, .string ⟨#[]⟩), (⟨w.heap.size + 1, 1, none⟩, .int .i64 0), (⟨w.heap.size + 1, 2, none⟩, .int .i64 0), (⟨w.heap.size + 1, 3, none⟩, .bool false), (⟨w.heap.size + 1, 4, none⟩, .int .i64 0), (⟨w.heap.size + 1, 5, none⟩, .int .i64 0)] [⟨w.heap.size + 1, 0, none⟩, ⟨w.heap.size + 1, 1, none⟩, ⟨w.heap.size + 1, 2, none⟩, ⟨w.heap.size + 1, 3, none⟩, ⟨w.heap.size + 1, 4, none⟩, ⟨w.heap.size + 1, 5, none⟩] w2 := by
   refine KeptC.below ?_ hb2
   exact Qk1 kb1
  simp only [KeptC, List.forall_mem_cons] at hk2; obtain ⟨kb2, ⟨kc2_0, kc2_1, kc2_2, kc2_3, kc2_4, kc2_5, _⟩, ⟨kz2_0, kg2_0⟩, ⟨kz2_1, kg2_1⟩, ⟨kz2_2, kg2_2⟩, ⟨kz2_3, kg2_3⟩, ⟨kz2_4, kg2_4⟩, ⟨kz2_5, kg2_5⟩, _⟩ := hk2
  have hz2 : w.heap.size + 1 < w2.heap.size := cell_lt kc2_0
  clear hb2 CF kc1_0 kc1_1 kc1_2 kc1_3 kc1_4 kc1_5 kc1_6 kz1_0 kg1_0 kz1_1 kg1_1 kz1_2 kg1_2 kz1_3 kg1_3 kz1_4 kg1_4 kz1_5 kg1_5
  go_wp2
  refine bodyPost_ret (v := .tuple #[.agg #[.string ys, .int .i64 ye, .int .i64 ym, .bool ya, .int .i64 yk, .int .i64 yc], .bool ok]) (by simp [results, Tryz.results11, go_sem, *]) rfl ⟨rfl, (Qb1 kb2)⟩
end Go.Proofs.YtkfodkbgmpbmfaaGreat
namespace Go.Proofs.YtkfodkbgmpbmfaaGreat
open Go.RowKit
set_option linter.unusedVariables false
set_option linter.unusedSimpArgs false
set_option maxRecDepth 100000
set_option maxHeartbeats 4000000 in
theorem same_any (ys : ByteArray) (ye ym : Int) (ya : Bool) (yk yc : Int) (zs : ByteArray) (ze zm : Int) (za : Bool) (zk zc : Int) (w : World) :
    Calls Tryz.prog 89 #[.agg #[.string ys, .int .i64 ye, .int .i64 ym, .bool ya, .int .i64 yk, .int .i64 yc], .agg #[.string zs, .int .i64 ze, .int .i64 zm, .bool za, .int .i64 zk, .int .i64 zc]] w fun e w' => e = .returned (.bool (sameV ye ym yk ze zm zk)) ∧ Below w.heap.size w w' := by
 unfold sameV
 go_enter Tryz.func89, Tryz.ntmps89
 cases h1 : (ye == ze) with
 | false =>
  go_wp2
  go_ret
  exact ⟨by first | rfl | (simp only [h1]; rfl), Qb⟩
 | true =>
  cases h2 : (ym == zm) with
  | false =>
   go_wp2
   go_ret
   exact ⟨by first | rfl | (simp only [h1, h2]; rfl), Qb⟩
  | true =>
   go_wp2_with (fail)
   refine (srflows_any yk _).mono ?_; rintro e w3 ⟨rfl, hb3⟩
   have hk3 : KeptC w [(⟨w.heap.size + 1, 4, none⟩, .int .i64 zk)] [] w3 := by
    refine KeptC.below ?_ hb3
    exact Qk
   simp only [KeptC, List.forall_mem_cons] at hk3; obtain ⟨kb3, ⟨kc3_0, _⟩, _⟩ := hk3
   clear hb3
   obtain ⟨F1, hF1⟩ : ∃ F, (decide (1 ≤ yk) && decide (yk ≤ 3)) = F := ⟨_, rfl⟩
   rw [hF1]
   have HF1 := Lib.hid hF1
   clear hF1
   cases F1 with
   | false =>
    go_wp2
    go_ret
    exact ⟨by first | (simp only [HF1.out]; rfl) | (simp only [h1, h2, HF1.out]; rfl), (Qb1 kb3)⟩
   | true =>
    go_wp2_with (fail)
    refine (srflows_any zk _).mono ?_; rintro e w4 ⟨rfl, hb4⟩
    have hs3 := kb3.size
    have kb4 : Below w.heap.size w w4 := (Qb2 hb4 kb3)
    clear hb4
    obtain ⟨F2, hF2⟩ : ∃ F, (decide (1 ≤ zk) && decide (zk ≤ 3)) = F := ⟨_, rfl⟩
    rw [hF2]
    have HF2 := Lib.hid hF2
    clear hF2
    go_wp2
    go_ret
    exact ⟨by first | (simp only [HF1.out, HF2.out]; rfl) | (simp only [h1, h2, HF1.out, HF2.out]; rfl), (Qb1 kb4)⟩
set_option maxHeartbeats 4000000 in
theorem rboth_any (x : Wd) (a b : Int) (nm : ByteArray) (w : World) (hx : WdOk w x) :
    Calls Tryz.prog 52 #[WdV x, .int .i64 a, .int .i64 b, .string nm] w fun e w' => e = .returned (.bool (bothB x a b nm)) ∧ Below w.heap.size w w' := by
 have C1 := Lib.hid (fun W (hb : Below w.heap.size w W) => rinst_any x a nm W (hx.below hb))
 have C2 := Lib.hid (fun W (hb : Below w.heap.size w W) => rinst_any x b nm W (hx.below hb))
 clear hx
 rw [bothB_eq]
 generalize (instS x a nm).getD St0 = y at C1 ⊢
 generalize (instS x a nm).isSome = k1 at C1 ⊢
 generalize (instS x b nm).getD St0 = z at C2 ⊢
 generalize (instS x b nm).isSome = k2 at C2 ⊢
 obtain ⟨⟨ys, ye, ym, ya, yk, yc⟩, _, _, _, _⟩ := y
 obtain ⟨⟨zs, ze, zm, za, zk, zc⟩, _, _, _, _⟩ := z
 simp only [] at C1 C2 ⊢
 have CS := Lib.hid (fun W => same_any ys ye ym ya yk yc zs ze zm za zk zc W)
 generalize sameV ye ym yk ze zm zk = r at CS ⊢
 go_enter Tryz.func52, Tryz.ntmps52
 go_wp2_with (fail)
 refine (C1.out _ Qb).mono ?_; rintro e w1 ⟨rfl, hb1⟩
 have hk1 : KeptC w [(⟨w.heap.size, 0, none⟩, .slice x.na x.nn x.nc), (⟨w.heap.size, 1, none⟩, .slice x.ua x.un x.uc), (⟨w.heap.size, 2, none⟩, .slice x.da x.dn x.dc), (⟨w.heap.size, 3, none⟩, .int .i64 x.nx), (⟨w.heap.size, 4, none⟩, .slice x.la x.ll x.lc), (⟨w.heap.size, 5, none⟩, .slice x.sa x.sl x.sc), (⟨w.heap.size, 6, none⟩, .int .i64 x.lost)] [] w1 := by
  refine KeptC.below ?_ hb1
  exact Qk
 simp only [KeptC, List.forall_mem_cons] at hk1; obtain ⟨kb1, ⟨kc1_0, kc1_1, kc1_2, kc1_3, kc1_4, kc1_5, kc1_6, _⟩, _⟩ := hk1
 have hz1 : w.heap.size < w1.heap.size := cell_lt kc1_0
 clear hb1 C1
 go_wp2_with (fail)
 refine (C2.out _ (Qb1 kb1)).mono ?_; rintro e w2 ⟨rfl, hb2⟩
 have hk2 : KeptC w [(⟨w1.heap.size, 0, none⟩, .string ys), (⟨w1.heap.size, 1, none⟩, .int .i64 ye), (⟨w1.heap.size, 2, none⟩, .int .i64 ym), (⟨w1.heap.size, 3, none⟩, .bool ya), (⟨w1.heap.size, 4, none⟩, .int .i64 yk), (⟨w1.heap.size, 5, none⟩, .int .i64 yc)] [] w2 := by
  refine KeptC.below ?_ hb2
  exact Qk1 kb1
 simp only [KeptC, List.forall_mem_cons] at hk2; obtain ⟨kb2, ⟨kc2_0, kc2_1, kc2_2, kc2_3, kc2_4, kc2_5, _⟩, _⟩ := hk2
 have hz2 : w1.heap.size < w2.heap.size := cell_lt kc2_0
 clear hb2 C2 kc1_0 kc1_1 kc1_2 kc1_3 kc1_4 kc1_5 kc1_6
 cases k1 with
 | false =>
  go_wp2
  go_ret
  exact ⟨rfl, (Qb1 kb2)⟩
 | true =>
  cases k2 with
  | false =>
   go_wp2
   go_ret
   exact ⟨rfl, (Qb1 kb2)⟩
  | true =>
   go_wp2_with (fail)
   refine (CS.out _).mono ?_; rintro e w3 ⟨rfl, hb3⟩
   have hs2 := kb2.size
   have kb3 : Below w.heap.size w w3 := (Qb2 hb3 kb2)
   clear hb3
   go_wp2
   go_ret
   exact ⟨rfl, (Qb1 kb3)⟩
end Go.Proofs.YtkfodkbgmpbmfaaGreat
namespace Go.Proofs.YtkfodkbgmpbmfaaGreat
open Go.RowKit
set_option linter.unusedVariables false
set_option linter.unusedSimpArgs false
set_option maxRecDepth 100000
theorem found_sim {o : Option Hf} {w w' : World} {e : Ending} (hs : ∀ h, o = some h → ∀ x ∈ h.lines, x.name.size ≤ maxLen) (h : FoundH o w w' e) : ∃ g, e = .returned (.tuple #[HfV g, .bool o.isSome]) ∧ OwnE encLn 4 92 w' w.heap.size (.slice g.la g.ln g.lc) g.lines ∧ (∀ x ∈ g.lines, x.name.size ≤ maxLen) ∧ g.lines = (o.getD Hf0).lines ∧ Below w.heap.size w w' := by
 cases o with
 | none => exact ⟨Hf0, h.1, OwnE.nil _ _ _, (fun x hx => by cases hx), rfl, h.2⟩
 | some h0 =>
  obtain ⟨A2, c2, e1, h2, hb⟩ := h
  exact ⟨{ h0 with la := A2, lc := c2 }, e1, h2, hs h0 rfl, rfl, hb⟩
set_option maxHeartbeats 8000000 in
theorem regw_any (x : Wd) (i j : Nat) (nm : ByteArray) (u : Nd) (w : World) (hx : WdOk w x) (hi : x.nds[i]? = some u) :
    Calls Tryz.prog 53 #[WdV x, .int .i64 i, .int .i64 j, .string nm] w fun e w' => e = .returned (RgV (regN u j nm)) ∧ Below w.heap.size w w' := by
 have hl := hx.len
 have hn1 := hx.fit.n1
 have hin : i < x.nn := by have := (List.getElem?_eq_some_iff.1 hi).1; omega
 obtain ⟨ad, u2, hA, hab, hu2, h8, hnd⟩ := hx.nd hin
 obtain rfl := Option.some.inj (hi.symm.trans hu2)
 have fu := hx.fit.nd i u hi
 have hnu := hnd.hn fu
 have CF := Lib.hid (fun W (hb : Below w.heap.size w W) => (rfindh_any u.ha u.hn u.hc u.halves j W ((hnd.2.2.1.below hb).more hb.size) fu.hs.1 hnu.1 (HfOk.ln hnd.2.2.1 fu.hs)).mono fun e w' h => found_sim (fun h0 e0 => (hnd.2.2.1.2 h0 (getH_mem e0).1).2) h)
 have hln : ((getH u.halves j).getD Hf0).lines.length ≤ 8 := by
  cases e : getH u.halves j with
  | none => simp
  | some h0 => exact (fu.hs.2 h0 (getH_mem e).1).2.1
 have HN : Hid (regN u j nm = getLn ((getH u.halves j).getD Hf0).lines nm) := Lib.hid rfl
 rw [HN.out]
 obtain ⟨na, nn, nc, ua, un, uc, da, dn, dc, nx, la, ll, lc, sa, sl, sc, lost, nds, ups⟩ := x
 simp only [] at *
 subst hA
 obtain ⟨P, hP⟩ : ∃ P, ad.add (i * 8) = P := ⟨_, rfl⟩
 rw [hP] at h8 hab
 obtain ⟨c0, c1, c2, c3, c4, c5, c6, c7⟩ := h8
 clear hx hnd hu2 fu hnu hi hl c0 c1 c2 c3 c4 c5 c7 HN
 generalize (getH u.halves j).isSome = k at CF
 generalize ((getH u.halves j).getD Hf0).lines = ls at CF hln ⊢
 go_enter Tryz.func53, Tryz.ntmps53
 go_wp2_with (fail)
 refine (CF.out _ Qb).mono ?_; rintro e w1 ⟨g, rfl, ho, hsz, hgl, hb1⟩
 have hk1 : KeptC w [(⟨w.heap.size + 1, 0, none⟩, .int .i64 0), (⟨w.heap.size + 1, 1, none⟩, .int .i64 0), (⟨w.heap.size + 1, 2, none⟩, .int .i64 0)] [⟨w.heap.size + 1, 0, none⟩, ⟨w.heap.size + 1, 1, none⟩, ⟨w.heap.size + 1, 2, none⟩] w1 := by
  refine KeptC.below ?_ hb1
  exact Qk
 simp only [KeptC, List.forall_mem_cons] at hk1; obtain ⟨kb1, ⟨kc1_0, kc1_1, kc1_2, _⟩, ⟨kz1_0, kg1_0⟩, ⟨kz1_1, kg1_1⟩, ⟨kz1_2, kg1_2⟩, _⟩ := hk1
 have hz1 : w.heap.size + 1 < w1.heap.size := cell_lt kc1_0
 have hlns := LnsAt.ofOwn ho hsz
 have CR := Lib.hid (fun W (hb : Below w1.heap.size w1 W) => rreg_any g nm W ((hlns.below hb).more hb.size) (by have := hlns.1.1; rw [hgl] at this; omega))
 rw [hgl] at CR
 obtain ⟨l, hl9⟩ : ∃ l, getLn ls nm = l := ⟨_, rfl⟩
 rw [hl9] at CR
 have HL9 := Lib.hid hl9
 clear hl9
 obtain ⟨lm, lv, lw, lf⟩ := l
 clear hb1 CF c6 ho hsz hgl hlns
 go_wp2_with (fail)
 refine (CR.out _ Qb).mono ?_; rintro e w2 ⟨rfl, hb2⟩
 have hk2 : KeptC w [(⟨w.heap.size + 1, 0, none⟩, .int .i64 0), (⟨w.heap.size + 1, 1, none⟩, .int .i64 0), (⟨w.heap.size + 1, 2, none⟩, .int .i64 0)] [⟨w.heap.size + 1, 0, none⟩, ⟨w.heap.size + 1, 1, none⟩, ⟨w.heap.size + 1, 2, none⟩] w2 := by
  refine KeptC.below ?_ hb2
  exact Qk1 kb1
 simp only [KeptC, List.forall_mem_cons] at hk2; obtain ⟨kb2, ⟨kc2_0, kc2_1, kc2_2, _⟩, ⟨kz2_0, kg2_0⟩, ⟨kz2_1, kg2_1⟩, ⟨kz2_2, kg2_2⟩, _⟩ := hk2
 have hz2 : w.heap.size + 1 < w2.heap.size := cell_lt kc2_0
 clear hb2 CR
 go_wp2
 refine bodyPost_ret (v := .agg #[.int .i64 lv, .int .i64 lw, .int .i64 lf]) (by simp [results, Tryz.results53, go_sem, *]) rfl ⟨by rw [HL9.out], (Qb1 kb2)⟩
set_option maxHeartbeats 8000000 in
theorem ragreed_any (x : Wd) (a b : Int) (nm : ByteArray) (w : World) (hx : WdOk w x) :
    Calls Tryz.prog 15 #[WdV x, .int .i64 a, .int .i64 b, .string nm] w fun e w' => e = .returned (.bool (agreedB x a b nm)) ∧ Below w.heap.size w w' := by
 have CH := Lib.hid (fun W (hb : Below w.heap.size w W) => rheld_any x a b W (hx.below hb))
 have CB := Lib.hid (fun W (hb : Below w.heap.size w W) => rboth_any x a b nm W (hx.below hb))
 cases hh : heldB x a b with
 | false =>
  rw [regEq_off (.inl hh)]
  rw [hh] at CH
  clear hx hh
  go_enter Tryz.func15, Tryz.ntmps15
  go_wp2_with (fail)
  refine wp_region_quietC_lit (KeptC w [(⟨w.heap.size, 0, none⟩, .slice x.na x.nn x.nc), (⟨w.heap.size, 1, none⟩, .slice x.ua x.un x.uc), (⟨w.heap.size, 2, none⟩, .slice x.da x.dn x.dc), (⟨w.heap.size, 3, none⟩, .int .i64 x.nx), (⟨w.heap.size, 4, none⟩, .slice x.la x.ll x.lc), (⟨w.heap.size, 5, none⟩, .slice x.sa x.sl x.sc), (⟨w.heap.size, 6, none⟩, .int .i64 x.lost)] []) (by kernel_rfl) (by kernel_rfl) ?_ ?_
  · refine KeptC.drewn ?_
    exact Qk
  repeat (first
   | go_big_quiet_skip
   | (go_big_quiet_want; (apply quietC_run); (· intro w' hw'; (have hk' := hw'; simp only [KeptC, List.forall_mem_cons] at hk'; go_split_ands); go_simp; first | done | rfl); (simp only [Act.put, List.setIfInBounds_toArray, List.set_cons_zero, List.set_cons_succ]; go_big_quiet_on))
   | (go_big_quiet_want; (apply quietC_call); (· intro w' hw'; go_simp; first | done | exact ⟨rfl, rfl⟩ | rfl); (· intro w' hw'; first | ((with_reducible refine (CH.out _ hw'.lowV).mono ?_); rintro e w2 ⟨rfl, hb⟩; exact ⟨rfl, hw'.below hb⟩)); (simp only [Act.put, List.setIfInBounds_toArray, List.set_cons_zero, List.set_cons_succ]; go_big_quiet_on)))
  refine wpQuiet_nil ?_
  intro w9 hk9
  (have hk' := hk9; simp only [KeptC, List.forall_mem_cons] at hk'; go_split_ands); have hkB9 := hk9.1
  go_wp2
  go_ret
  exact ⟨rfl, hkB9⟩
 | true =>
  cases hbo : bothB x a b nm with
  | false =>
   rw [regEq_off (.inr hbo)]
   rw [hh] at CH
   rw [hbo] at CB
   clear hx hh hbo
   go_enter Tryz.func15, Tryz.ntmps15
   go_wp2_with (fail)
   refine wp_region_quietC_lit (KeptC w [(⟨w.heap.size, 0, none⟩, .slice x.na x.nn x.nc), (⟨w.heap.size, 1, none⟩, .slice x.ua x.un x.uc), (⟨w.heap.size, 2, none⟩, .slice x.da x.dn x.dc), (⟨w.heap.size, 3, none⟩, .int .i64 x.nx), (⟨w.heap.size, 4, none⟩, .slice x.la x.ll x.lc), (⟨w.heap.size, 5, none⟩, .slice x.sa x.sl x.sc), (⟨w.heap.size, 6, none⟩, .int .i64 x.lost)] []) (by kernel_rfl) (by kernel_rfl) ?_ ?_
   · refine KeptC.drewn ?_
     exact Qk
   repeat (first
    | go_big_quiet_skip
    | (go_big_quiet_want; (apply quietC_run); (· intro w' hw'; (have hk' := hw'; simp only [KeptC, List.forall_mem_cons] at hk'; go_split_ands); go_simp; first | done | rfl); (simp only [Act.put, List.setIfInBounds_toArray, List.set_cons_zero, List.set_cons_succ]; go_big_quiet_on))
    | (go_big_quiet_want; (apply quietC_call); (· intro w' hw'; go_simp; first | done | exact ⟨rfl, rfl⟩ | rfl); (· intro w' hw'; first | ((with_reducible refine (CH.out _ hw'.lowV).mono ?_); rintro e w2 ⟨rfl, hb⟩; exact ⟨rfl, hw'.below hb⟩) | ((with_reducible refine (CB.out _ hw'.lowV).mono ?_); rintro e w2 ⟨rfl, hb⟩; exact ⟨rfl, hw'.below hb⟩)); (simp only [Act.put, List.setIfInBounds_toArray, List.set_cons_zero, List.set_cons_succ]; go_big_quiet_on)))
   refine wpQuiet_nil ?_
   intro w9 hk9
   (have hk' := hk9; simp only [KeptC, List.forall_mem_cons] at hk'; go_split_ands); have hkB9 := hk9.1
   go_wp2
   go_ret
   exact ⟨rfl, hkB9⟩
  | true =>
   have hh2 := hh
   unfold heldB at hh2
   cases hu : upN x a with
   | none => rw [hu] at hh2; cases hh2
   | some u =>
    cases hv : upN x b with
    | none => rw [hu, hv] at hh2; cases hh2
    | some v =>
     rw [agreedB_on hu hv hh hbo]
     rw [hh] at CH
     rw [hbo] at CB
     obtain ⟨i, rfl, hi, hyi, _⟩ := upN_some hu
     obtain ⟨j, rfl, hj, hyj, _⟩ := upN_some hv
     have CR1 := Lib.hid (fun W (hb : Below w.heap.size w W) => regw_any x i j nm u W (hx.below hb) hyi)
     have CR2 := Lib.hid (fun W (hb : Below w.heap.size w W) => regw_any x j i nm v W (hx.below hb) hyj)
     have e1 := (hx.fit.nd i u hyi).id
     have e2 := (hx.fit.nd j v hyj).id
     rw [e1, e2]
     clear hx hh hbo hh2 hu hv hyi hyj e1 e2 hi hj
     generalize regN u j nm = l1 at CR1 ⊢
     generalize regN v i nm = l2 at CR2 ⊢
     obtain ⟨m1, v1, q1, f1⟩ := l1
     obtain ⟨m2, v2, q2, f2⟩ := l2
     by_cases h1 : v1 = v2
     · subst h1
       by_cases h2 : q1 = q2
       · subst h2
         by_cases h3 : f1 = f2
         · subst h3
           go_enter Tryz.func15, Tryz.ntmps15
           go_wp2_with (fail)
           refine wp_region_quietC_lit (KeptC w [(⟨w.heap.size, 0, none⟩, .slice x.na x.nn x.nc), (⟨w.heap.size, 1, none⟩, .slice x.ua x.un x.uc), (⟨w.heap.size, 2, none⟩, .slice x.da x.dn x.dc), (⟨w.heap.size, 3, none⟩, .int .i64 x.nx), (⟨w.heap.size, 4, none⟩, .slice x.la x.ll x.lc), (⟨w.heap.size, 5, none⟩, .slice x.sa x.sl x.sc), (⟨w.heap.size, 6, none⟩, .int .i64 x.lost)] []) (by kernel_rfl) (by kernel_rfl) ?_ ?_
           · refine KeptC.drewn ?_
             exact Qk
           repeat (first
            | go_big_quiet_skip
            | (go_big_quiet_want; (apply quietC_run); (· intro w' hw'; (have hk' := hw'; simp only [KeptC, List.forall_mem_cons] at hk'; go_split_ands); go_simp; first | done | rfl); (simp only [Act.put, List.setIfInBounds_toArray, List.set_cons_zero, List.set_cons_succ]; go_big_quiet_on))
            | (go_big_quiet_want; (apply quietC_call); (· intro w' hw'; go_simp; first | done | exact ⟨rfl, rfl⟩ | rfl); (· intro w' hw'; first | ((with_reducible refine (CH.out _ hw'.lowV).mono ?_); rintro e w2 ⟨rfl, hb⟩; exact ⟨rfl, hw'.below hb⟩) | ((with_reducible refine (CB.out _ hw'.lowV).mono ?_); rintro e w2 ⟨rfl, hb⟩; exact ⟨rfl, hw'.below hb⟩) | ((with_reducible refine (CR1.out _ hw'.lowV).mono ?_); rintro e w2 ⟨rfl, hb⟩; exact ⟨rfl, hw'.below hb⟩) | ((with_reducible refine (CR2.out _ hw'.lowV).mono ?_); rintro e w2 ⟨rfl, hb⟩; exact ⟨rfl, hw'.below hb⟩)); (simp only [Act.put, List.setIfInBounds_toArray, List.set_cons_zero, List.set_cons_succ]; go_big_quiet_on)))
           refine wpQuiet_nil ?_
           intro w9 hk9
           (have hk' := hk9; simp only [KeptC, List.forall_mem_cons] at hk'; go_split_ands); have hkB9 := hk9.1
           go_wp2
           go_ret
           exact ⟨by first | rfl | (simp [regEq, *]; done), hkB9⟩
         · skip
           go_enter Tryz.func15, Tryz.ntmps15
           go_wp2_with (fail)
           refine wp_region_quietC_lit (KeptC w [(⟨w.heap.size, 0, none⟩, .slice x.na x.nn x.nc), (⟨w.heap.size, 1, none⟩, .slice x.ua x.un x.uc), (⟨w.heap.size, 2, none⟩, .slice x.da x.dn x.dc), (⟨w.heap.size, 3, none⟩, .int .i64 x.nx), (⟨w.heap.size, 4, none⟩, .slice x.la x.ll x.lc), (⟨w.heap.size, 5, none⟩, .slice x.sa x.sl x.sc), (⟨w.heap.size, 6, none⟩, .int .i64 x.lost)] []) (by kernel_rfl) (by kernel_rfl) ?_ ?_
           · refine KeptC.drewn ?_
             exact Qk
           repeat (first
            | go_big_quiet_skip
            | (go_big_quiet_want; (apply quietC_run); (· intro w' hw'; (have hk' := hw'; simp only [KeptC, List.forall_mem_cons] at hk'; go_split_ands); go_simp; first | done | rfl); (simp only [Act.put, List.setIfInBounds_toArray, List.set_cons_zero, List.set_cons_succ]; go_big_quiet_on))
            | (go_big_quiet_want; (apply quietC_call); (· intro w' hw'; go_simp; first | done | exact ⟨rfl, rfl⟩ | rfl); (· intro w' hw'; first | ((with_reducible refine (CH.out _ hw'.lowV).mono ?_); rintro e w2 ⟨rfl, hb⟩; exact ⟨rfl, hw'.below hb⟩) | ((with_reducible refine (CB.out _ hw'.lowV).mono ?_); rintro e w2 ⟨rfl, hb⟩; exact ⟨rfl, hw'.below hb⟩) | ((with_reducible refine (CR1.out _ hw'.lowV).mono ?_); rintro e w2 ⟨rfl, hb⟩; exact ⟨rfl, hw'.below hb⟩) | ((with_reducible refine (CR2.out _ hw'.lowV).mono ?_); rintro e w2 ⟨rfl, hb⟩; exact ⟨rfl, hw'.below hb⟩)); (simp only [Act.put, List.setIfInBounds_toArray, List.set_cons_zero, List.set_cons_succ]; go_big_quiet_on)))
           refine wpQuiet_nil ?_
           intro w9 hk9
           (have hk' := hk9; simp only [KeptC, List.forall_mem_cons] at hk'; go_split_ands); have hkB9 := hk9.1
           go_wp2
           go_ret
           exact ⟨by first | rfl | (simp [regEq, *]; done), hkB9⟩
       · skip
         go_enter Tryz.func15, Tryz.ntmps15
         go_wp2_with (fail)
         refine wp_region_quietC_lit (KeptC w [(⟨w.heap.size, 0, none⟩, .slice x.na x.nn x.nc), (⟨w.heap.size, 1, none⟩, .slice x.ua x.un x.uc), (⟨w.heap.size, 2, none⟩, .slice x.da x.dn x.dc), (⟨w.heap.size, 3, none⟩, .int .i64 x.nx), (⟨w.heap.size, 4, none⟩, .slice x.la x.ll x.lc), (⟨w.heap.size, 5, none⟩, .slice x.sa x.sl x.sc), (⟨w.heap.size, 6, none⟩, .int .i64 x.lost)] []) (by kernel_rfl) (by kernel_rfl) ?_ ?_
         · refine KeptC.drewn ?_
           exact Qk
         repeat (first
          | go_big_quiet_skip
          | (go_big_quiet_want; (apply quietC_run); (· intro w' hw'; (have hk' := hw'; simp only [KeptC, List.forall_mem_cons] at hk'; go_split_ands); go_simp; first | done | rfl); (simp only [Act.put, List.setIfInBounds_toArray, List.set_cons_zero, List.set_cons_succ]; go_big_quiet_on))
          | (go_big_quiet_want; (apply quietC_call); (· intro w' hw'; go_simp; first | done | exact ⟨rfl, rfl⟩ | rfl); (· intro w' hw'; first | ((with_reducible refine (CH.out _ hw'.lowV).mono ?_); rintro e w2 ⟨rfl, hb⟩; exact ⟨rfl, hw'.below hb⟩) | ((with_reducible refine (CB.out _ hw'.lowV).mono ?_); rintro e w2 ⟨rfl, hb⟩; exact ⟨rfl, hw'.below hb⟩) | ((with_reducible refine (CR1.out _ hw'.lowV).mono ?_); rintro e w2 ⟨rfl, hb⟩; exact ⟨rfl, hw'.below hb⟩) | ((with_reducible refine (CR2.out _ hw'.lowV).mono ?_); rintro e w2 ⟨rfl, hb⟩; exact ⟨rfl, hw'.below hb⟩)); (simp only [Act.put, List.setIfInBounds_toArray, List.set_cons_zero, List.set_cons_succ]; go_big_quiet_on)))
         refine wpQuiet_nil ?_
         intro w9 hk9
         (have hk' := hk9; simp only [KeptC, List.forall_mem_cons] at hk'; go_split_ands); have hkB9 := hk9.1
         go_wp2
         go_ret
         exact ⟨by first | rfl | (simp [regEq, *]; done), hkB9⟩
     · skip
       go_enter Tryz.func15, Tryz.ntmps15
       go_wp2_with (fail)
       refine wp_region_quietC_lit (KeptC w [(⟨w.heap.size, 0, none⟩, .slice x.na x.nn x.nc), (⟨w.heap.size, 1, none⟩, .slice x.ua x.un x.uc), (⟨w.heap.size, 2, none⟩, .slice x.da x.dn x.dc), (⟨w.heap.size, 3, none⟩, .int .i64 x.nx), (⟨w.heap.size, 4, none⟩, .slice x.la x.ll x.lc), (⟨w.heap.size, 5, none⟩, .slice x.sa x.sl x.sc), (⟨w.heap.size, 6, none⟩, .int .i64 x.lost)] []) (by kernel_rfl) (by kernel_rfl) ?_ ?_
       · refine KeptC.drewn ?_
         exact Qk
       repeat (first
        | go_big_quiet_skip
        | (go_big_quiet_want; (apply quietC_run); (· intro w' hw'; (have hk' := hw'; simp only [KeptC, List.forall_mem_cons] at hk'; go_split_ands); go_simp; first | done | rfl); (simp only [Act.put, List.setIfInBounds_toArray, List.set_cons_zero, List.set_cons_succ]; go_big_quiet_on))
        | (go_big_quiet_want; (apply quietC_call); (· intro w' hw'; go_simp; first | done | exact ⟨rfl, rfl⟩ | rfl); (· intro w' hw'; first | ((with_reducible refine (CH.out _ hw'.lowV).mono ?_); rintro e w2 ⟨rfl, hb⟩; exact ⟨rfl, hw'.below hb⟩) | ((with_reducible refine (CB.out _ hw'.lowV).mono ?_); rintro e w2 ⟨rfl, hb⟩; exact ⟨rfl, hw'.below hb⟩) | ((with_reducible refine (CR1.out _ hw'.lowV).mono ?_); rintro e w2 ⟨rfl, hb⟩; exact ⟨rfl, hw'.below hb⟩) | ((with_reducible refine (CR2.out _ hw'.lowV).mono ?_); rintro e w2 ⟨rfl, hb⟩; exact ⟨rfl, hw'.below hb⟩)); (simp only [Act.put, List.setIfInBounds_toArray, List.set_cons_zero, List.set_cons_succ]; go_big_quiet_on)))
       refine wpQuiet_nil ?_
       intro w9 hk9
       (have hk' := hk9; simp only [KeptC, List.forall_mem_cons] at hk'; go_split_ands); have hkB9 := hk9.1
       go_wp2
       go_ret
       exact ⟨by first | rfl | (simp [regEq, *]; done), hkB9⟩
end Go.Proofs.YtkfodkbgmpbmfaaGreat
