/- ViewGroups: of any fit world and any name: each node that is up stands in one group, and no other; a group is closed if and only if its half-edges are agreed and its nodes have one instance; each edge is held, and agreed, or open, or one end lacks the instance. For every input, without a condition. -/
import Derived.WalkKit
import Derived.WalkSpells
import Derived.WalkLawsBesides
import Derived.Deep.QuietTactic
import Derived.BigQuiet
import Derived.Deep.RegionHeld
import Derived.StillTail
import Derived.Test.YtkfodkbgmpbmfaaGreatRows
import Derived.WalkMore
import Derived.Lib.Hide
import Derived.Laws.Strings
import Derived.Below
import Derived.Laws.OwnMore
import Derived.Deep.AppendLies
import Derived.Deep.Draws
import Derived.ChangeSame
import Derived.Deep.Slices
import Derived.Deep.Fields
import Derived.SizedLaws
import Derived.Lib.SmallJoins
import Derived.OpenShut
import Derived.RangeFuncNested
import Derived.RangeFuncBound
import Derived.RangeFuncCalls
import Derived.RangeFuncLeaves
import Derived.RangeFuncBox
import Derived.Shelf.Abstract
import Derived.Shelf.RegionOpen
import Derived.OwnWalkIn
import Derived.TacticsInMore
import Derived.LoopNIn
import Derived.LoopIn
import Derived.OrdersIn
import Derived.Maps.AppendAt
import Derived.RegionTactic
import Derived.OwnWalk
import Derived.Lib.SliceRun
import Derived.Deep.RegionHeld3
import Derived.Laws.EntriesVeiled
import Derived.Outline
import Derived.Laws.IdiomCopy
import Derived.RowKit
import Derived.Maps.Own
import Derived.Maps.OwnOps
import Derived.Maps.OwnSet
import Derived.Maps.Views
import Derived.Maps.RangeWalk
import Derived.DeepKeys4
import Derived.Maps.OwnIn
import Derived.Deep.OwnRows
import Derived.Deep.RegionLaw
import Derived.Deep.Cut
import Derived.Deep.CutRange
import Derived.Deep.DeepAppendWide
import Derived.Lib.Mul64
import Derived.Shelf.Spec.BitsCarry
import Derived.Laws.Bits64b
import Derived.BigRegion
import Derived.Shelf.SlSortCmp.WholeK
import Derived.Shelf.SlicesG.Cmp
import Derived.Test.YtkfodkbgmpbmfaaGreatProg
import Derived.Shelf.SlSortCmp.NoneTotal
import Derived.Laws.BytesString
import Derived.Deep.MidRow
import Derived.Laws.ResultCell
import Derived.ProofKit
import Derived.ChangeMaps5
import Derived.Deep.LoopGhost
import Derived.Test.YtkfodkbgmpbmfaaGreatB01
import Derived.Test.YtkfodkbgmpbmfaaGreatB02
import Derived.Test.YtkfodkbgmpbmfaaGreatB03
import Derived.Test.YtkfodkbgmpbmfaaGreatB04
import Derived.Test.YtkfodkbgmpbmfaaGreatB05
import Derived.Test.YtkfodkbgmpbmfaaGreatB06
import Derived.Test.YtkfodkbgmpbmfaaGreatB07
import Derived.Test.YtkfodkbgmpbmfaaGreatB08
import Derived.Test.YtkfodkbgmpbmfaaGreatB09
import Derived.Test.YtkfodkbgmpbmfaaGreatB10
import Derived.Test.YtkfodkbgmpbmfaaGreatB11
import Derived.Test.YtkfodkbgmpbmfaaGreatB12
import Derived.Test.YtkfodkbgmpbmfaaGreatB13
import Derived.Test.YtkfodkbgmpbmfaaGreatB14
import Derived.Test.YtkfodkbgmpbmfaaGreatB15
import Derived.Test.YtkfodkbgmpbmfaaGreatB16
import Derived.Test.YtkfodkbgmpbmfaaGreatB17
import Derived.Test.YtkfodkbgmpbmfaaGreatB18
import Derived.Test.YtkfodkbgmpbmfaaGreatB19
import Derived.Test.YtkfodkbgmpbmfaaGreatB20
import Derived.Test.YtkfodkbgmpbmfaaGreatB21
import Derived.Test.YtkfodkbgmpbmfaaGreatB22
import Derived.Test.YtkfodkbgmpbmfaaGreatB23
import Derived.Test.YtkfodkbgmpbmfaaGreatB24
import Derived.Test.YtkfodkbgmpbmfaaGreatB25
import Derived.Test.YtkfodkbgmpbmfaaGreatB26
import Derived.Test.YtkfodkbgmpbmfaaGreatB27
import Derived.Test.YtkfodkbgmpbmfaaGreatB28
import Derived.Test.YtkfodkbgmpbmfaaGreatB29
import Derived.Test.YtkfodkbgmpbmfaaGreatB30
import Derived.Test.YtkfodkbgmpbmfaaGreatB31
import Derived.Test.YtkfodkbgmpbmfaaGreatB32
import Derived.Test.YtkfodkbgmpbmfaaGreatB33
import Derived.Test.YtkfodkbgmpbmfaaGreatB34
import Derived.Test.YtkfodkbgmpbmfaaGreatB35
import Derived.Test.YtkfodkbgmpbmfaaGreatB36
import Derived.Test.YtkfodkbgmpbmfaaGreatB37
import Derived.Test.YtkfodkbgmpbmfaaGreatB38
import Derived.Test.YtkfodkbgmpbmfaaGreatB39
import Derived.Test.YtkfodkbgmpbmfaaGreatB40
import Derived.Test.YtkfodkbgmpbmfaaGreatB41
import Derived.Test.YtkfodkbgmpbmfaaGreatB42
import Derived.Test.YtkfodkbgmpbmfaaGreatG01
set_option linter.unusedVariables false
set_option linter.unusedSimpArgs false
namespace Go.Proofs.YtkfodkbgmpbmfaaGreat
open Go.ChangeShapes Go.WideShapes Go.ChangeAt Go.RowKit Go.Shelf Go.Deep Go.Joins Go.ChangeMaps
set_option linter.unusedVariables false
set_option linter.unusedSimpArgs false
set_option maxRecDepth 100000
theorem OutAt.row {w : World} {b0 base : Nat} {A : Option Addr} {N C : Nat} {v2 : Value} {gs : List Gr} (h : OutAt w base (.slice A N C) v2 gs) (hb : b0 < base) {k : Nat} (hk : k < N) :
    ∃ ad g, A = some ad ∧ gs[k]? = some g ∧ (ad.add (k * 1)).block < w.heap.size ∧ (∀ W, Away b0 w W → W.cell? (ad.add (k * 1)) = some (.slice g.a g.n g.c) ∧ RowsE encI 1 W W.heap.size g.a g.n (memI g.mem)) ∧ g.n ≤ g.c ∧ g.mem.length = g.n := by
 obtain ⟨ad, g, hA, hab, hx, g2⟩ := h.gs.1.at hk
 have hg := h.gs.2 g (List.mem_of_getElem? hx)
 refine ⟨ad, g, hA, hx, hab, fun W hW => ?_, hg.2, by have := hg.1.1; rw [memI_len] at this; exact this⟩
 obtain ⟨ad', g', hA', hab', hx', g3⟩ := (h.away hW hb).gs.1.at hk
 obtain rfl := Option.some.inj (hA.symm.trans hA')
 obtain rfl := Option.some.inj (hx.symm.trans hx')
 exact ⟨by have := g3 0 _ rfl; rwa [Bg.add_z] at this, ((h.away hW hb).gs.2 g (List.mem_of_getElem? hx)).1⟩
theorem both_form (x : Wd) (a b : Int) (nm : ByteArray) : bothB x a b nm = ((instS x a nm).isSome && ((instS x b nm).isSome && (decide (((instS x a nm).getD St0).ch.ep = ((instS x b nm).getD St0).ch.ep) && (decide (((instS x a nm).getD St0).ch.who = ((instS x b nm).getD St0).ch.who) && (flowsK ((instS x a nm).getD St0).ch.kd && flowsK ((instS x b nm).getD St0).ch.kd))))) := by
 unfold bothB
 cases instS x a nm <;> cases instS x b nm <;> rfl
theorem rflows_eq (k : Int) (w : World) : Calls Tryz.prog 29 #[.int .i64 k] w fun x w' => x = .returned (.bool (flowsK k)) ∧ w = w' := by
 show Calls Tryz.prog 29 #[.int .i64 k] w fun x w' => x = .returned (.bool (decide (1 ≤ k) && decide (k ≤ 3))) ∧ w = w'
 by_cases h1 : k = 1
 · subst h1
   go_enter Tryz.func29, Tryz.ntmps29
   go_wp2
   go_ret
   exact ⟨rfl, rfl⟩
 by_cases h2 : k = 2
 · subst h2
   go_enter Tryz.func29, Tryz.ntmps29
   go_wp2
   go_ret
   exact ⟨rfl, rfl⟩
 by_cases h3 : k = 3
 · subst h3
   go_enter Tryz.func29, Tryz.ntmps29
   go_wp2
   go_ret
   exact ⟨rfl, rfl⟩
 have e : (decide (1 ≤ k) && decide (k ≤ 3)) = false := by
  cases hd : (decide (1 ≤ k) && decide (k ≤ 3)) with
  | false => rfl
  | true =>
   simp only [Bool.and_eq_true, decide_eq_true_eq] at hd
   omega
 rw [e]
 clear e
 go_enter Tryz.func29, Tryz.ntmps29
 go_wp2
 go_ret
 exact ⟨by simp [h1, h2, h3], rfl⟩
theorem cnt_le {L : List (List Nat)} {k j : Nat} {g : List Nat} (h : L[k]? = some g) (b : Nat) : ((L.take k).flatten ++ g.take j).count b ≤ L.flatten.count b := by
 have h1 : L.flatten = (L.take (k + 1)).flatten ++ (L.drop (k + 1)).flatten := by rw [← List.flatten_append, List.take_append_drop]
 have h2 : g.count b = (g.take j).count b + (g.drop j).count b := by rw [← List.count_append, List.take_append_drop]
 rw [h1, take_flat h, List.count_append, List.count_append, List.count_append]
 omega
set_option maxHeartbeats 32000000 in
theorem viewGroups_any (x : Wd) (dks : List Sl) (dgs : List Bg.Dg) (svs : List Bg.LK) (nm : ByteArray) (w : World) (hx : WdAll w x dks dgs svs) :
    Calls Tryz.prog 6 #[WdV x, .string nm] w fun e w' => e = .returned (.bool true) ∧ Below w.heap.size w w' := by
 have CF := Lib.hid (fun W (hb : Below w.heap.size w W) => wdfit_any x dks dgs svs W (hx.below hb))
 have HOK := Lib.hid (fun (h : FitW x) => (⟨hx.cells, h⟩ : WdOk w x))
 clear hx
 go_enter Tryz.func6, Tryz.ntmps6
 go_wp2_with (fail)
 refine (CF.out _ Qb).mono ?_; rintro e w1 ⟨bo, rfl, hF, hb1⟩
 have hk1 : KeptC w [(⟨w.heap.size, 0, none⟩, .slice x.na x.nn x.nc), (⟨w.heap.size, 1, none⟩, .slice x.ua x.un x.uc), (⟨w.heap.size, 2, none⟩, .slice x.da x.dn x.dc), (⟨w.heap.size, 3, none⟩, .int .i64 x.nx), (⟨w.heap.size, 4, none⟩, .slice x.la x.ll x.lc), (⟨w.heap.size, 5, none⟩, .slice x.sa x.sl x.sc), (⟨w.heap.size, 6, none⟩, .int .i64 x.lost)] [] w1 := by
  refine KeptC.below ?_ hb1
  exact Qk
 simp only [KeptC, List.forall_mem_cons] at hk1; obtain ⟨kb1, ⟨kc1_0, kc1_1, kc1_2, kc1_3, kc1_4, kc1_5, kc1_6, _⟩, _⟩ := hk1
 have hz1 : w.heap.size < w1.heap.size := cell_lt kc1_0
 clear hb1 CF
 cases bo with
 | false =>
  clear HOK hF
  go_wp2_with (fail)
  refine (awake_any _).mono ?_; rintro e w2 ⟨rfl, hb2⟩
  go_wp2
  go_ret
  exact ⟨rfl, (Qb2 hb2 kb1)⟩
 | true =>
  have hok := HOK.out (hF rfl)
  clear HOK hF
  have CG := Lib.hid (fun W (hb : Below w.heap.size w W) => vgroups_own x W (hok.below hb))
  have CI := Lib.hid (fun (a : Int) W (hb : Below w.heap.size w W) => inst_any x a nm W (hok.below hb))
  have CA := Lib.hid (fun (a b : Int) W (hb : Below w.heap.size w W) => agreed_any x a b nm W (hok.below hb))
  have CH := Lib.hid (fun (a b : Int) W (hb : Below w.heap.size w W) => held_any x a b W (hok.below hb))
  have CO := Lib.hid (fun W (hb : Below w.heap.size w W) => open_any x nm W (hok.below hb))
  have CE := Lib.hid (fun W (hb : Below w.heap.size w W) => edges_any x W (hok.below hb))
  have CC := Lib.hid (fun (A : Option Addr) (n c : Nat) (set : List Int) W (hb : Below w.heap.size w W) (hs : RowsE encI 1 W W.heap.size A n set) (hnc : n ≤ c) (hm70 : n ≤ 70368744177664) => vclosed_any x nm A n c set W (hok.below hb) hs hnc hm70)
  have HN16 : Hid (x.nn ≤ 16) := Lib.hid (by have := hok.len.1; have := hok.fit.n1; omega)
  have HUN : Hid (x.un = x.nn) := Lib.hid hok.len.2
  have HUPC : Hid (∀ k, k < x.nn → ∃ ad, x.ua = some ad ∧ (ad.add k).block < w.heap.size ∧ w.cell? (ad.add k) = some (.bool (upB x k))) := Lib.hid (fun k hk => by
   obtain ⟨ad, b, h1, h2, h3, h4⟩ := hok.up hk
   obtain ⟨ad2, y, g1, g2, g3, g4, g5⟩ := hok.nd hk
   have e := upN_at (x := x) (k := k) (by rw [hok.len.1]; exact hk) h3 g3
   have e2 : upB x k = b := by unfold upB; rw [e]; cases b <;> rfl
   exact ⟨ad, h1, h2, by rw [e2]; exact h4⟩)
  have HNDC : Hid (∀ k, k < x.nn → upB x k = true → ∃ (ad : Addr) (ha : Option Addr) (hn hc : Nat) (hs : List Hf), x.na = some ad ∧ (ad.add (k * 8)).block < w.heap.size ∧ ((upN x k).getD Nd0).halves = hs ∧ w.cell? ⟨(ad.add (k * 8)).block, (ad.add (k * 8)).off + 6, none⟩ = some (.slice ha hn hc) ∧ HfsAt w w.heap.size ha hn hs ∧ hn ≤ 16) := Lib.hid (fun k hk hu => by
   obtain ⟨u, hu⟩ := Option.isSome_iff_exists.1 (show (upN x k).isSome = true from hu)
   obtain ⟨i, hb, hi, hy, _⟩ := upN_some hu
   obtain rfl : k = i := by omega
   obtain ⟨ad, y2, hA, hab, hy2, h8, hnd⟩ := hok.nd hk
   obtain rfl := Option.some.inj (hy.symm.trans hy2)
   have fu := hok.fit.nd k u hy
   generalize hP : ad.add (k * 8) = P at h8 hab
   obtain ⟨p0, p1, p2, p3, p4, p5, p6, p7⟩ := h8
   exact ⟨ad, u.ha, u.hn, u.hc, u.halves, hA, by rw [hP]; exact hab, by rw [hu]; rfl, by rw [hP]; exact p6, hnd.2.2.1, by have h1 := fu.hs.len; have h2 := hnd.2.2.1.1.1; omega⟩)
  have HGU : Hid (∀ g ∈ groupsB x, ∀ a ∈ g, a < x.nn ∧ upB x a = true) := Lib.hid (fun g hg a ha => by
   have := grp_up hg ha
   exact ⟨by have h1 := hok.len.1; omega, this.2⟩)
  have HGR : Hid (∀ g ∈ groupsB x, closedB x (memI g) nm = g.all (fun a : Nat => (((upN x (a : Int)).getD Nd0).halves.all fun h => agreedB x (a : Int) h.peer nm) && bothB x (a : Int) ((g.headD 0 : Nat) : Int) nm)) := Lib.hid (fun g hg => grp_closed hg)
  have HCT : Hid (∀ b, b < x.nn → (groupsB x).flatten.count b = if upB x b = true then 1 else 0) := Lib.hid (fun b hb => groups_count x (by have h1 := hok.len.1; omega))
  have HGL : Hid (∀ m ∈ groupsB x, m.length ≤ 1000) := Lib.hid (fun m hm => by
   obtain ⟨a, _, _, e⟩ := grps_of x.nds.length (heldN x) (upB x) x.nds.length (Nat.le_refl _) m hm
   have h1 := grp_len x.nds.length (heldN x) a
   have h2 := hok.fit.n1
   rw [e]; omega)
  have HGN : Hid ((groupsB x).length ≤ 1000) := Lib.hid (by have h1 := grps_len x.nds.length (heldN x) (upB x) x.nds.length; have h2 := hok.fit.n1; unfold groupsB; omega)
  have HBF := Lib.hid (fun (a b : Int) => both_form x a b nm)
  have HME : Hid (∀ y ∈ allE (heldN x) x.nn x.nn, heldB x y.1 y.2 = true) := Lib.hid (fun y hy => by
   obtain ⟨i, j, _, _, _, h, rfl⟩ := mem_allE.1 hy
   exact h)
  have HEN : Hid ((allE (heldN x) x.nn x.nn).length ≤ 1000) := Lib.hid (by
   have h3 : x.nn ≤ 16 := HN16.out
   have h4 : x.nn * x.nn ≤ 16 * 16 := Nat.mul_le_mul h3 h3
   have h5 := allE_sq (heldN x) x.nn
   omega)
  have HOP : Hid (∀ e : Int × Int, openP x nm e = (bothB x e.1 e.2 nm && !agreedB x e.1 e.2 nm)) := Lib.hid (fun e => rfl)
  clear hok
  generalize openP x nm = op at CO HOP
  generalize allE (heldN x) x.nn x.nn = E at CO CE HME HEN
  generalize groupsB x = LG at CG HGU HGR HCT HGL HGN
  generalize closedB x = clo at CC HGR
  generalize agreedB x = ag at CA HGR HOP
  generalize bothB x = bo at HGR HBF HOP
  generalize instS x = ins at CI HBF
  generalize heldB x = he at CH HME
  generalize upB x = up at HUPC HNDC HGU HCT
  generalize upN x = U at HNDC HGR
  obtain ⟨na, nn, nc, ua, un, uc, da, dn, dc, nx, la, ll, lc, sa, sl, sc, lost, nds, ups⟩ := x
  simp only [] at kc1_0 kc1_1 kc1_2 kc1_3 kc1_4 kc1_5 kc1_6 HN16 HUN HUPC HNDC HGU HCT
  obtain ⟨i0, hi0, hj0, hj1, hj2⟩ := info_parts (P := Tryz.prog) (e := 3) (z := .int .i64 0) (size := 1) (bytes := 8) (by kernel_rfl)
  go_upto_region 4 with (at_make; refine wpList_make_row _ rfl (.tmp 33) (.tmp 33) 42 rfl 3 i0 (.int .i64 0) Tryz.underlying42 hi0 hj0 hj1 rfl .i64 .i64 nn rfl rfl (by rw [hj2]; have := HN16.out; omega) (by have := HN16.out; omega) ?_)
  refine lay1 (fun W => (W.cell? ⟨w.heap.size, 0, none⟩ = some (.slice na nn nc) ∧ W.cell? ⟨w.heap.size, 1, none⟩ = some (.slice ua un uc) ∧ W.cell? ⟨w.heap.size, 2, none⟩ = some (.slice da dn dc) ∧ W.cell? ⟨w.heap.size, 3, none⟩ = some (.int .i64 nx) ∧ W.cell? ⟨w.heap.size, 4, none⟩ = some (.slice la ll lc) ∧ W.cell? ⟨w.heap.size, 5, none⟩ = some (.slice sa sl sc) ∧ W.cell? ⟨w.heap.size, 6, none⟩ = some (.int .i64 lost)) ∧ LocX encIs W w1.heap.size (cntI [] nn) ∧ Below w1.heap.size w1 W) ⟨⟨by go_simp, by go_simp, by go_simp, by go_simp, by go_simp, by go_simp, by go_simp⟩, ?_, Qb⟩ ?_
  · exact LocX.fresh (enc := encIs) w1 (madeCells #[.int .i64 0] nn) 3 (cntI [] nn) (by rw [toList_madeCells_one, cnt_nil])
  rintro w2 ⟨⟨kc2_0, kc2_1, kc2_2, kc2_3, kc2_4, kc2_5, kc2_6⟩, hX2, hb2⟩
  have kb2 : Below w.heap.size w w2 := kb1.trans (hb2.mono kb1.size)
  have hy2 : w1.heap.size < w2.heap.size := hX2.1
  have hz2 : w.heap.size < w2.heap.size := by omega
  have HX2 := Lib.hid hX2
  clear hb2 hX2 kb1 kc1_0 kc1_1 kc1_2 kc1_3 kc1_4 kc1_5 kc1_6 hi0 hj0 hj1 hj2
  go_wp2_with (fail)
  refine (CG.out _ (Qb1 kb2)).mono ?_; rintro e w3 ⟨GA, GN, GC, gs, rfl, hm, ho, hb3⟩
  have hk3 : KeptC w [(⟨w.heap.size, 0, none⟩, .slice na nn nc), (⟨w.heap.size, 1, none⟩, .slice ua un uc), (⟨w.heap.size, 2, none⟩, .slice da dn dc), (⟨w.heap.size, 3, none⟩, .int .i64 nx), (⟨w.heap.size, 4, none⟩, .slice la ll lc), (⟨w.heap.size, 5, none⟩, .slice sa sl sc), (⟨w.heap.size, 6, none⟩, .int .i64 lost)] [] w3 := by
   refine KeptC.below ?_ hb3
   exact Qk1 kb2
  simp only [KeptC, List.forall_mem_cons] at hk3; obtain ⟨kb3, ⟨kc3_0, kc3_1, kc3_2, kc3_3, kc3_4, kc3_5, kc3_6, _⟩, _⟩ := hk3
  have hz3 : w.heap.size < w3.heap.size := cell_lt kc3_0
  have hy3 : w1.heap.size < w3.heap.size := by have := hb3.size; omega
  have HX3 := Lib.hid (HX2.out.below hb3 hy2)
  have HO3 := Lib.hid ho
  have HM := Lib.hid hm
  have HB2 : Hid (w1.heap.size < w2.heap.size + 2) := Lib.hid (by omega)
  have hGN : GN ≤ 1000 := by
   have h1 := HGN.out
   rw [← hm, List.length_map] at h1
   have h2 := ho.gs.1.1
   omega
  have HLN : Hid (LG.length = GN) := Lib.hid (by rw [← hm, List.length_map]; exact ho.gs.1.1)
  clear hb3 CG kb2 hz2 hy2 kc2_0 kc2_1 kc2_2 kc2_3 kc2_4 kc2_5 kc2_6 HX2 ho hm HGN
  go_wp2
  go_loopg [7] GN (fun gk i w' => ∃ (k : Nat), gk + k = GN ∧ i = .int .i64 k ∧ Hid (LocX encIs w' w1.heap.size (cntI (LG.take k).flatten nn)) ∧ Hid (Away w1.heap.size w3 w') ∧ KeptC w [(⟨w.heap.size, 0, none⟩, .slice na nn nc), (⟨w.heap.size, 1, none⟩, .slice ua un uc), (⟨w.heap.size, 2, none⟩, .slice da dn dc), (⟨w.heap.size, 3, none⟩, .int .i64 nx), (⟨w.heap.size, 4, none⟩, .slice la ll lc), (⟨w.heap.size, 5, none⟩, .slice sa sl sc), (⟨w.heap.size, 6, none⟩, .int .i64 lost)] [] w')
  case atStart => exact ⟨0, by omega, rfl, HX3, Lib.hid (Away.refl _ _), (Qk1 kb3)⟩
  case round =>
   obtain ⟨k, hgk, rfl, HX, HA, hK⟩ := hrel
   clear kb3 hz3 kc3_0 kc3_1 kc3_2 kc3_3 kc3_4 kc3_5 kc3_6
   simp only [KeptC, List.forall_mem_cons] at hK; obtain ⟨kb4, ⟨kc4_0, kc4_1, kc4_2, kc4_3, kc4_4, kc4_5, kc4_6, _⟩, _⟩ := hK
   have hz4 : w.heap.size < wr.heap.size := cell_lt kc4_0
   have hy4 : w1.heap.size < wr.heap.size := HX.out.1
   obtain ⟨w4, h⟩ : ∃ w4, w4 = wr := ⟨_, rfl⟩
   subst h
   obtain ⟨g1, h⟩ : ∃ g1, g1 = gk := ⟨_, rfl⟩
   subst h
   have hs4 := kb4.size
   by_cases hlt : k < GN
   rotate_left
   · obtain rfl : k = GN := by omega
     -- the numbers of all nodes
     have HXE : Hid (LocX encIs w4 w1.heap.size (cntI LG.flatten nn)) := Lib.hid (by have h := HX.out; rw [List.take_of_length_le (Nat.le_of_eq HLN.out)] at h; exact h)
     clear HX HO3 HA CC HNDC HGU HGR HGL HX3 HB2 HM
     have HKB4 := Lib.hid kb4
     go_wp2
     go_loopg [17] nn (fun gk i w' => ∃ (a : Nat), gk + a = nn ∧ i = .int .i64 a ∧ KeptC w4 [(⟨w.heap.size, 0, none⟩, .slice na nn nc), (⟨w.heap.size, 1, none⟩, .slice ua un uc), (⟨w.heap.size, 2, none⟩, .slice da dn dc), (⟨w.heap.size, 3, none⟩, .int .i64 nx), (⟨w.heap.size, 4, none⟩, .slice la ll lc), (⟨w.heap.size, 5, none⟩, .slice sa sl sc), (⟨w.heap.size, 6, none⟩, .int .i64 lost)] [] w')
     case atStart => exact ⟨0, by omega, rfl, Qk⟩
     case round =>
      obtain ⟨a, hga, rfl, hK⟩ := hrel
      clear kb4 hs4 hz4 kc4_0 kc4_1 kc4_2 kc4_3 kc4_4 kc4_5 kc4_6
      simp only [KeptC, List.forall_mem_cons] at hK; obtain ⟨kb5, ⟨kc5_0, kc5_1, kc5_2, kc5_3, kc5_4, kc5_5, kc5_6, _⟩, _⟩ := hK
      have hz5 : w.heap.size < wr.heap.size := cell_lt kc5_0
      obtain ⟨w5, h⟩ : ∃ w5, w5 = wr := ⟨_, rfl⟩
      subst h
      obtain ⟨g2, h⟩ : ∃ g2, g2 = gk := ⟨_, rfl⟩
      subst h
      have hs5 := kb5.size
      have kw5 : Below w.heap.size w w5 := HKB4.out.trans (kb5.mono HKB4.out.size)
      by_cases hla : a < nn
      · obtain ⟨adu, hua, hub, huc⟩ := HUPC.out a hla
        subst hua
        have cu : w5.cell? (adu.add a) = some (.bool (up a)) := (kw5.cell hub).trans huc
        have hc1 := ((HXE.out.below kb5 hy4).2 a _ (cnt_enc hla)).1
        rw [HCT.out a hla] at hc1
        have hwa : IntKind.i64.wrap ((a : Int) + 1) = (a : Int) + 1 := by rw [IntKind.wrap_i64]; have := HN16.out; omega
        have hL2 : (a : Int) < (un : Int) := by have := HUN.out; omega
        have hL3 : a < un := by omega
        have hL4 : (a : Int) < (nn : Int) := by omega
        cases hup : up a with
        | true =>
         rw [hup] at cu hc1
         have c1 : w5.cell? ⟨w1.heap.size, a, none⟩ = some (.int .i64 1) := hc1
         clear hc1 hup huc
         go_wp2_with (fail)
         refine wp_region_quietC_lit (KeptC w4 [(⟨w.heap.size, 0, none⟩, .slice na nn nc), (⟨w.heap.size, 1, none⟩, .slice (some adu) un uc), (⟨w.heap.size, 2, none⟩, .slice da dn dc), (⟨w.heap.size, 3, none⟩, .int .i64 nx), (⟨w.heap.size, 4, none⟩, .slice la ll lc), (⟨w.heap.size, 5, none⟩, .slice sa sl sc), (⟨w.heap.size, 6, none⟩, .int .i64 lost), (adu.add a, .bool true), (⟨w1.heap.size, a, none⟩, .int .i64 1)] []) (by kernel_rfl) (by kernel_rfl) ?_ ?_
         · refine KeptC.drewn ?_
           exact Qk1 kb5
         repeat (first
          | go_big_quiet_skip
          | (go_big_quiet_want; (apply quietC_run); (· intro w' hw'; (have hk' := hw'; simp only [KeptC, List.forall_mem_cons] at hk'; go_split_ands); go_simp; first | done | rfl); (simp only [Act.put, List.setIfInBounds_toArray, List.set_cons_zero, List.set_cons_succ]; go_big_quiet_on))
          | (go_big_quiet_want; (apply quietC_call); (· intro w' hw'; go_simp; first | done | exact ⟨rfl, rfl⟩ | rfl); (· intro w' hw'; first | ((with_reducible refine (fail).mono ?_); rintro e w2 ⟨rfl, hb⟩; exact ⟨rfl, hw'.below hb⟩)); (simp only [Act.put, List.setIfInBounds_toArray, List.set_cons_zero, List.set_cons_succ]; go_big_quiet_on)))
         refine wpQuiet_nil ?_
         intro w9 hk9
         (have hk' := hk9; simp only [KeptC, List.forall_mem_cons] at hk'; go_split_ands); have hkB9 := hk9.1
         clear hk9 kc5_0 kc5_1 kc5_2 kc5_3 kc5_4 kc5_5 kc5_6 kb5
         go_wp2
         go_roundg (g2 - 1)
         case measure => omega
         case rel => exact ⟨a + 1, by omega, by go_num, (Qk1 hkB9)⟩
        | false =>
         rw [hup] at cu hc1
         have c1 : w5.cell? ⟨w1.heap.size, a, none⟩ = some (.int .i64 0) := hc1
         clear hc1 hup huc
         go_wp2_with (fail)
         refine wp_region_quietC_lit (KeptC w4 [(⟨w.heap.size, 0, none⟩, .slice na nn nc), (⟨w.heap.size, 1, none⟩, .slice (some adu) un uc), (⟨w.heap.size, 2, none⟩, .slice da dn dc), (⟨w.heap.size, 3, none⟩, .int .i64 nx), (⟨w.heap.size, 4, none⟩, .slice la ll lc), (⟨w.heap.size, 5, none⟩, .slice sa sl sc), (⟨w.heap.size, 6, none⟩, .int .i64 lost), (adu.add a, .bool false), (⟨w1.heap.size, a, none⟩, .int .i64 0)] []) (by kernel_rfl) (by kernel_rfl) ?_ ?_
         · refine KeptC.drewn ?_
           exact Qk1 kb5
         repeat (first
          | go_big_quiet_skip
          | (go_big_quiet_want; (apply quietC_run); (· intro w' hw'; (have hk' := hw'; simp only [KeptC, List.forall_mem_cons] at hk'; go_split_ands); go_simp; first | done | rfl); (simp only [Act.put, List.setIfInBounds_toArray, List.set_cons_zero, List.set_cons_succ]; go_big_quiet_on))
          | (go_big_quiet_want; (apply quietC_call); (· intro w' hw'; go_simp; first | done | exact ⟨rfl, rfl⟩ | rfl); (· intro w' hw'; first | ((with_reducible refine (fail).mono ?_); rintro e w2 ⟨rfl, hb⟩; exact ⟨rfl, hw'.below hb⟩)); (simp only [Act.put, List.setIfInBounds_toArray, List.set_cons_zero, List.set_cons_succ]; go_big_quiet_on)))
         refine wpQuiet_nil ?_
         intro w9 hk9
         (have hk' := hk9; simp only [KeptC, List.forall_mem_cons] at hk'; go_split_ands); have hkB9 := hk9.1
         clear hk9 kc5_0 kc5_1 kc5_2 kc5_3 kc5_4 kc5_5 kc5_6 kb5
         go_wp2
         go_roundg (g2 - 1)
         case measure => omega
         case rel => exact ⟨a + 1, by omega, by go_num, (Qk1 hkB9)⟩
      · have hlai : ¬ ((a : Int) < (nn : Int)) := by omega
        clear HXE hla hga HUPC HCT
        go_wp2_with (fail)
        refine (CO.out _ (Qb1 kw5)).mono ?_; rintro e w6 ⟨OA, OC, rfl, ho6, hb6⟩
        have hk6 : KeptC w4 [(⟨w.heap.size, 0, none⟩, .slice na nn nc), (⟨w.heap.size, 1, none⟩, .slice ua un uc), (⟨w.heap.size, 2, none⟩, .slice da dn dc), (⟨w.heap.size, 3, none⟩, .int .i64 nx), (⟨w.heap.size, 4, none⟩, .slice la ll lc), (⟨w.heap.size, 5, none⟩, .slice sa sl sc), (⟨w.heap.size, 6, none⟩, .int .i64 lost)] [] w6 := by
         refine KeptC.below ?_ hb6
         exact Qk1 kb5
        simp only [KeptC, List.forall_mem_cons] at hk6; obtain ⟨kb6, ⟨kc6_0, kc6_1, kc6_2, kc6_3, kc6_4, kc6_5, kc6_6, _⟩, _⟩ := hk6
        have hz6 : w.heap.size < w6.heap.size := cell_lt kc6_0
        have HOR := Lib.hid (own_lk ho6 rfl)
        have kw6 : Below w.heap.size w w6 := HKB4.out.trans (kb6.mono HKB4.out.size)
        clear hb6 ho6 CO kb5 hs5 hz5 kw5 kc5_0 kc5_1 kc5_2 kc5_3 kc5_4 kc5_5 kc5_6
        go_wp2_with (fail)
        refine (CE.out _ (Qb1 kw6)).mono ?_; rintro e w7 ⟨EA, EC, rfl, ho7, hb7⟩
        have hk7 : KeptC w4 [(⟨w.heap.size, 0, none⟩, .slice na nn nc), (⟨w.heap.size, 1, none⟩, .slice ua un uc), (⟨w.heap.size, 2, none⟩, .slice da dn dc), (⟨w.heap.size, 3, none⟩, .int .i64 nx), (⟨w.heap.size, 4, none⟩, .slice la ll lc), (⟨w.heap.size, 5, none⟩, .slice sa sl sc), (⟨w.heap.size, 6, none⟩, .int .i64 lost)] [] w7 := by
         refine KeptC.below ?_ hb7
         exact Qk1 kb6
        simp only [KeptC, List.forall_mem_cons] at hk7; obtain ⟨kb7, ⟨kc7_0, kc7_1, kc7_2, kc7_3, kc7_4, kc7_5, kc7_6, _⟩, _⟩ := hk7
        have hz7 : w.heap.size < w7.heap.size := cell_lt kc7_0
        have HER := Lib.hid (own_lk ho7 rfl)
        have HOR7 := Lib.hid ((HOR.out.below hb7).more hb7.size)
        have HKB7 : Hid (Below w.heap.size w w7) := Lib.hid (HKB4.out.trans (kb7.mono HKB4.out.size))
        have HE1 := HEN.out
        clear hb7 ho7 CE kb6 kw6 hz6 HOR kc6_0 kc6_1 kc6_2 kc6_3 kc6_4 kc6_5 kc6_6 hy4 HEN HKB4
        obtain ⟨EN, hEN⟩ : ∃ EN, E.length = EN := ⟨_, rfl⟩
        obtain ⟨ON, hON⟩ : ∃ ON, (E.filter op).length = ON := ⟨_, rfl⟩
        rw [hEN] at HER HE1 ⊢
        rw [hON] at HOR7 ⊢
        have HE := Lib.hid hEN
        have HO := Lib.hid hON
        have hOE : ON ≤ EN := by rw [← hEN, ← hON]; exact List.length_filter_le _ _
        clear hEN hON
        go_wp2
        go_loopg [20, 21] EN (fun gk s20 s21 w' => ∃ (i m : Nat), gk + i = EN ∧ s21 = .int .i64 i ∧ s20 = .int .i64 m ∧ Hid (((E.take i).filter op).length = m) ∧ KeptC w7 [(⟨w.heap.size, 0, none⟩, .slice na nn nc), (⟨w.heap.size, 1, none⟩, .slice ua un uc), (⟨w.heap.size, 2, none⟩, .slice da dn dc), (⟨w.heap.size, 3, none⟩, .int .i64 nx), (⟨w.heap.size, 4, none⟩, .slice la ll lc), (⟨w.heap.size, 5, none⟩, .slice sa sl sc), (⟨w.heap.size, 6, none⟩, .int .i64 lost)] [] w')
        case atStart => exact ⟨0, 0, by omega, rfl, rfl, Lib.hid rfl, Qk⟩
        case round =>
         obtain ⟨i, m, hgi, rfl, rfl, HMI, hK⟩ := hrel
         clear kb7 kc7_0 kc7_1 kc7_2 kc7_3 kc7_4 kc7_5 kc7_6 hz7
         simp only [KeptC, List.forall_mem_cons] at hK; obtain ⟨kb8, ⟨kc8_0, kc8_1, kc8_2, kc8_3, kc8_4, kc8_5, kc8_6, _⟩, _⟩ := hK
         have hz8 : w.heap.size < wr.heap.size := cell_lt kc8_0
         obtain ⟨w8, h⟩ : ∃ w8, w8 = wr := ⟨_, rfl⟩
         subst h
         obtain ⟨g3, h⟩ : ∃ g3, g3 = gk := ⟨_, rfl⟩
         subst h
         have hs8 := kb8.size
         have kw8 : Below w.heap.size w w8 := HKB7.out.trans (kb8.mono HKB7.out.size)
         by_cases hli : i < EN
         rotate_left
         · obtain rfl : i = EN := by omega
           have hmo : m = ON := by rw [← HMI.out, ← HO.out, List.take_of_length_le (Nat.le_of_eq HE.out)]
           subst hmo
           have CAW := Lib.hid (fun W => awake_any W)
           have HKW := Lib.hid kw8
           go_wp2_with (go_at_call 9; refine (CAW.out _).mono ?_; rintro e w9 ⟨rfl, hb9⟩)
           (try rw [Exit.noGoto_ret])
           go_ret
           exact ⟨by first | rfl | (simp; done), HKW.out.trans (hb9.mono HKW.out.size)⟩
         · obtain ⟨ad, y, eA, hab, hy, q⟩ := HER.out.at hli
           subst eA
           obtain ⟨R, hR⟩ : ∃ R, ad.add (i * 2) = R := ⟨_, rfl⟩
           rw [hR] at q hab
           have hme := HME.out y (List.mem_of_getElem? hy)
           have hop := HOP.out y
           have HPN : Hid (((E.take (i + 1)).filter op).length = m + (if op y = true then 1 else 0)) := Lib.hid (by rw [pick_next hy, HMI.out])
           have HPA : Hid (op y = true → (E.filter op)[m]? = some y) := Lib.hid (fun h => by have h2 := pick_at hy h; rw [HMI.out] at h2; exact h2)
           obtain ⟨ea, eb⟩ := y
           simp only [] at hme hop
           have r0 : w8.cell? R = some (.int .i64 ea) := (kb8.cell hab).trans (by have := q 0 _ rfl; rwa [Bg.add_z R] at this)
           have r1 : w8.cell? ⟨R.block, R.off + 1, none⟩ = some (.int .i64 eb) := (kb8.cell (p := ⟨R.block, R.off + 1, none⟩) hab).trans (by have := q 1 _ rfl; rwa [add_next R 0] at this)
           have hRw : R.block < w8.heap.size := by omega
           have ci := CI.out ea
           have cj := CI.out eb
           have hbf := HBF.out ea eb
           generalize ((ins ea nm).getD St0).ch = c at ci hbf
           generalize (ins ea nm).isSome = ok at ci hbf
           generalize ((ins eb nm).getD St0).ch = d at cj hbf
           generalize (ins eb nm).isSome = is at cj hbf
           obtain ⟨cn, cp, cw, cv, ck, cq⟩ := c
           obtain ⟨en, ep, ew, ev, ek, eq⟩ := d
           simp only [] at ci cj hbf
           have fc1 := fun W => rflows_eq ck W
           have fc2 := fun W => rflows_eq ek W
           generalize flowsK ck = f1 at fc1 hbf
           generalize flowsK ek = f2 at fc2 hbf
           have ca := CA.out ea eb
           have ch := CH.out ea eb
           rw [hme] at ch
           generalize ag ea eb nm = r at ca hop
           generalize bo ea eb nm = bb at hbf hop
           have CI1 := Lib.hid ci
           have CJ1 := Lib.hid cj
           have CA1 := Lib.hid ca
           have CH1 := Lib.hid ch
           have FC1 := Lib.hid fc1
           have FC2 := Lib.hid fc2
           have HBF1 := Lib.hid hbf
           have HOP1 := Lib.hid hop
           have HKW8 := Lib.hid kw8
           have hwi : IntKind.i64.wrap ((i : Int) + 1) = (i : Int) + 1 := by rw [IntKind.wrap_i64]; omega
           clear ci cj ca ch fc1 fc2 hbf hop hme hy q kw8
           have hiE : (i : Int) < (EN : Int) := by omega
           go_upto_region 37 with (fail)
           go_cut [22, 23] from 199 to 209 (fun s1 s2 w' => ∃ BV : Nat, s1 = .pointer (some ⟨BV, 0, none⟩) ∧ s2 = .bool ok ∧ w8.heap.size ≤ BV ∧ KeptC w8 [(⟨w.heap.size, 0, none⟩, .slice na nn nc), (⟨w.heap.size, 1, none⟩, .slice ua un uc), (⟨w.heap.size, 2, none⟩, .slice da dn dc), (⟨w.heap.size, 3, none⟩, .int .i64 nx), (⟨w.heap.size, 4, none⟩, .slice la ll lc), (⟨w.heap.size, 5, none⟩, .slice sa sl sc), (⟨w.heap.size, 6, none⟩, .int .i64 lost), (R, .int .i64 ea), (⟨R.block, R.off + 1, none⟩, .int .i64 eb), (⟨BV, 1, none⟩, .int .i64 cp), (⟨BV, 2, none⟩, .int .i64 cw), (⟨BV, 4, none⟩, .int .i64 ck)] [] w')
           case first =>
            as_aux_lemma =>
             have hL0 : (R : Addr).block < w8.heap.size := cell_lt (a := R) (by with_reducible assumption); have hL1 : (⟨R.block, R.off + 1, none⟩ : Addr).block < w8.heap.size := cell_lt (a := ⟨R.block, R.off + 1, none⟩) (by with_reducible assumption)
             have kS : ∀ p q : World, (Below w8.heap.size w8 p ∧ p.cell? ⟨w.heap.size, 0, none⟩ = some (.slice na nn nc) ∧ p.cell? ⟨w.heap.size, 1, none⟩ = some (.slice ua un uc) ∧ p.cell? ⟨w.heap.size, 2, none⟩ = some (.slice da dn dc) ∧ p.cell? ⟨w.heap.size, 3, none⟩ = some (.int .i64 nx) ∧ p.cell? ⟨w.heap.size, 4, none⟩ = some (.slice la ll lc) ∧ p.cell? ⟨w.heap.size, 5, none⟩ = some (.slice sa sl sc) ∧ p.cell? ⟨w.heap.size, 6, none⟩ = some (.int .i64 lost) ∧ p.cell? R = some (.int .i64 ea) ∧ p.cell? ⟨R.block, R.off + 1, none⟩ = some (.int .i64 eb)) → Below p.heap.size p q → (Below w8.heap.size w8 q ∧ q.cell? ⟨w.heap.size, 0, none⟩ = some (.slice na nn nc) ∧ q.cell? ⟨w.heap.size, 1, none⟩ = some (.slice ua un uc) ∧ q.cell? ⟨w.heap.size, 2, none⟩ = some (.slice da dn dc) ∧ q.cell? ⟨w.heap.size, 3, none⟩ = some (.int .i64 nx) ∧ q.cell? ⟨w.heap.size, 4, none⟩ = some (.slice la ll lc) ∧ q.cell? ⟨w.heap.size, 5, none⟩ = some (.slice sa sl sc) ∧ q.cell? ⟨w.heap.size, 6, none⟩ = some (.int .i64 lost) ∧ q.cell? R = some (.int .i64 ea) ∧ q.cell? ⟨R.block, R.off + 1, none⟩ = some (.int .i64 eb)) := by
              rintro p q ⟨k0, k1, k2, k3, k4, k5, k6, k7, k8, k9⟩ hb
              exact ⟨k0.trans (hb.mono k0.size), (hb.cell (cell_lt k1)).trans k1, (hb.cell (cell_lt k2)).trans k2, (hb.cell (cell_lt k3)).trans k3, (hb.cell (cell_lt k4)).trans k4, (hb.cell (cell_lt k5)).trans k5, (hb.cell (cell_lt k6)).trans k6, (hb.cell (cell_lt k7)).trans k7, (hb.cell (cell_lt k8)).trans k8, (hb.cell (cell_lt k9)).trans k9⟩
             have KA : Hid (∀ (p : World) (o : Obj), (Below w8.heap.size w8 p ∧ p.cell? ⟨w.heap.size, 0, none⟩ = some (.slice na nn nc) ∧ p.cell? ⟨w.heap.size, 1, none⟩ = some (.slice ua un uc) ∧ p.cell? ⟨w.heap.size, 2, none⟩ = some (.slice da dn dc) ∧ p.cell? ⟨w.heap.size, 3, none⟩ = some (.int .i64 nx) ∧ p.cell? ⟨w.heap.size, 4, none⟩ = some (.slice la ll lc) ∧ p.cell? ⟨w.heap.size, 5, none⟩ = some (.slice sa sl sc) ∧ p.cell? ⟨w.heap.size, 6, none⟩ = some (.int .i64 lost) ∧ p.cell? R = some (.int .i64 ea) ∧ p.cell? ⟨R.block, R.off + 1, none⟩ = some (.int .i64 eb)) → (Below w8.heap.size w8 (p.alloc o) ∧ (p.alloc o).cell? ⟨w.heap.size, 0, none⟩ = some (.slice na nn nc) ∧ (p.alloc o).cell? ⟨w.heap.size, 1, none⟩ = some (.slice ua un uc) ∧ (p.alloc o).cell? ⟨w.heap.size, 2, none⟩ = some (.slice da dn dc) ∧ (p.alloc o).cell? ⟨w.heap.size, 3, none⟩ = some (.int .i64 nx) ∧ (p.alloc o).cell? ⟨w.heap.size, 4, none⟩ = some (.slice la ll lc) ∧ (p.alloc o).cell? ⟨w.heap.size, 5, none⟩ = some (.slice sa sl sc) ∧ (p.alloc o).cell? ⟨w.heap.size, 6, none⟩ = some (.int .i64 lost) ∧ (p.alloc o).cell? R = some (.int .i64 ea) ∧ (p.alloc o).cell? ⟨R.block, R.off + 1, none⟩ = some (.int .i64 eb))) := Lib.hid (fun p o h => kS p _ h ((Below.refl _ _).alloc (Nat.le_refl _) _))
             have KD : Hid (∀ (p : World), (Below w8.heap.size w8 p ∧ p.cell? ⟨w.heap.size, 0, none⟩ = some (.slice na nn nc) ∧ p.cell? ⟨w.heap.size, 1, none⟩ = some (.slice ua un uc) ∧ p.cell? ⟨w.heap.size, 2, none⟩ = some (.slice da dn dc) ∧ p.cell? ⟨w.heap.size, 3, none⟩ = some (.int .i64 nx) ∧ p.cell? ⟨w.heap.size, 4, none⟩ = some (.slice la ll lc) ∧ p.cell? ⟨w.heap.size, 5, none⟩ = some (.slice sa sl sc) ∧ p.cell? ⟨w.heap.size, 6, none⟩ = some (.int .i64 lost) ∧ p.cell? R = some (.int .i64 ea) ∧ p.cell? ⟨R.block, R.off + 1, none⟩ = some (.int .i64 eb)) → (Below w8.heap.size w8 p.drew ∧ p.drew.cell? ⟨w.heap.size, 0, none⟩ = some (.slice na nn nc) ∧ p.drew.cell? ⟨w.heap.size, 1, none⟩ = some (.slice ua un uc) ∧ p.drew.cell? ⟨w.heap.size, 2, none⟩ = some (.slice da dn dc) ∧ p.drew.cell? ⟨w.heap.size, 3, none⟩ = some (.int .i64 nx) ∧ p.drew.cell? ⟨w.heap.size, 4, none⟩ = some (.slice la ll lc) ∧ p.drew.cell? ⟨w.heap.size, 5, none⟩ = some (.slice sa sl sc) ∧ p.drew.cell? ⟨w.heap.size, 6, none⟩ = some (.int .i64 lost) ∧ p.drew.cell? R = some (.int .i64 ea) ∧ p.drew.cell? ⟨R.block, R.off + 1, none⟩ = some (.int .i64 eb))) := Lib.hid (fun p h => kS p _ h ((Below.refl _ _).drew))
             have KF : Hid (∀ (p : World) (b o : Nat) (u : Value), (Below w8.heap.size w8 p ∧ p.cell? ⟨w.heap.size, 0, none⟩ = some (.slice na nn nc) ∧ p.cell? ⟨w.heap.size, 1, none⟩ = some (.slice ua un uc) ∧ p.cell? ⟨w.heap.size, 2, none⟩ = some (.slice da dn dc) ∧ p.cell? ⟨w.heap.size, 3, none⟩ = some (.int .i64 nx) ∧ p.cell? ⟨w.heap.size, 4, none⟩ = some (.slice la ll lc) ∧ p.cell? ⟨w.heap.size, 5, none⟩ = some (.slice sa sl sc) ∧ p.cell? ⟨w.heap.size, 6, none⟩ = some (.int .i64 lost) ∧ p.cell? R = some (.int .i64 ea) ∧ p.cell? ⟨R.block, R.off + 1, none⟩ = some (.int .i64 eb)) → w8.heap.size ≤ b → (Below w8.heap.size w8 (p.setCell ⟨b, o, none⟩ u) ∧ (p.setCell ⟨b, o, none⟩ u).cell? ⟨w.heap.size, 0, none⟩ = some (.slice na nn nc) ∧ (p.setCell ⟨b, o, none⟩ u).cell? ⟨w.heap.size, 1, none⟩ = some (.slice ua un uc) ∧ (p.setCell ⟨b, o, none⟩ u).cell? ⟨w.heap.size, 2, none⟩ = some (.slice da dn dc) ∧ (p.setCell ⟨b, o, none⟩ u).cell? ⟨w.heap.size, 3, none⟩ = some (.int .i64 nx) ∧ (p.setCell ⟨b, o, none⟩ u).cell? ⟨w.heap.size, 4, none⟩ = some (.slice la ll lc) ∧ (p.setCell ⟨b, o, none⟩ u).cell? ⟨w.heap.size, 5, none⟩ = some (.slice sa sl sc) ∧ (p.setCell ⟨b, o, none⟩ u).cell? ⟨w.heap.size, 6, none⟩ = some (.int .i64 lost) ∧ (p.setCell ⟨b, o, none⟩ u).cell? R = some (.int .i64 ea) ∧ (p.setCell ⟨b, o, none⟩ u).cell? ⟨R.block, R.off + 1, none⟩ = some (.int .i64 eb))) := Lib.hid (by
              rintro p b o u ⟨k0, k1, k2, k3, k4, k5, k6, k7, k8, k9⟩ hbb
              exact ⟨k0.trans ((Below.refl _ _).setCell hbb _), (World.cell?_setCell_far _ _ _ _ (by simp only []; omega)).trans k1, (World.cell?_setCell_far _ _ _ _ (by simp only []; omega)).trans k2, (World.cell?_setCell_far _ _ _ _ (by simp only []; omega)).trans k3, (World.cell?_setCell_far _ _ _ _ (by simp only []; omega)).trans k4, (World.cell?_setCell_far _ _ _ _ (by simp only []; omega)).trans k5, (World.cell?_setCell_far _ _ _ _ (by simp only []; omega)).trans k6, (World.cell?_setCell_far _ _ _ _ (by simp only []; omega)).trans k7, (World.cell?_setCell_far _ _ _ _ (by simp only []; omega)).trans k8, (World.cell?_setCell_far _ _ _ _ (by simp only []; omega)).trans k9⟩)
             have KT : Hid (∀ (W : World) (BV : Nat), (Below w8.heap.size w8 W ∧ W.cell? ⟨w.heap.size, 0, none⟩ = some (.slice na nn nc) ∧ W.cell? ⟨w.heap.size, 1, none⟩ = some (.slice ua un uc) ∧ W.cell? ⟨w.heap.size, 2, none⟩ = some (.slice da dn dc) ∧ W.cell? ⟨w.heap.size, 3, none⟩ = some (.int .i64 nx) ∧ W.cell? ⟨w.heap.size, 4, none⟩ = some (.slice la ll lc) ∧ W.cell? ⟨w.heap.size, 5, none⟩ = some (.slice sa sl sc) ∧ W.cell? ⟨w.heap.size, 6, none⟩ = some (.int .i64 lost) ∧ W.cell? R = some (.int .i64 ea) ∧ W.cell? ⟨R.block, R.off + 1, none⟩ = some (.int .i64 eb)) → W.cell? ⟨BV, 1, none⟩ = some (.int .i64 cp) → W.cell? ⟨BV, 2, none⟩ = some (.int .i64 cw) → W.cell? ⟨BV, 4, none⟩ = some (.int .i64 ck) → KeptC w8 [(⟨w.heap.size, 0, none⟩, .slice na nn nc), (⟨w.heap.size, 1, none⟩, .slice ua un uc), (⟨w.heap.size, 2, none⟩, .slice da dn dc), (⟨w.heap.size, 3, none⟩, .int .i64 nx), (⟨w.heap.size, 4, none⟩, .slice la ll lc), (⟨w.heap.size, 5, none⟩, .slice sa sl sc), (⟨w.heap.size, 6, none⟩, .int .i64 lost), (R, .int .i64 ea), (⟨R.block, R.off + 1, none⟩, .int .i64 eb), (⟨BV, 1, none⟩, .int .i64 cp), (⟨BV, 2, none⟩, .int .i64 cw), (⟨BV, 4, none⟩, .int .i64 ck)] [] W) := Lib.hid (by
              rintro W BV ⟨k0, k1, k2, k3, k4, k5, k6, k7, k8, k9⟩ v1 v2 v4
              exact KeptC.cons k1 (KeptC.cons k2 (KeptC.cons k3 (KeptC.cons k4 (KeptC.cons k5 (KeptC.cons k6 (KeptC.cons k7 (KeptC.cons ((k0.cell (cell_lt (a := R) (by with_reducible assumption))).trans (by with_reducible assumption)) (KeptC.cons ((k0.cell (cell_lt (a := ⟨R.block, R.off + 1, none⟩) (by with_reducible assumption))).trans (by with_reducible assumption)) (KeptC.cons v1 (KeptC.cons v2 (KeptC.cons v4 (KeptC.mk0 k0)))))))))))))
             have CJ3 : Hid (∀ W, (Below w8.heap.size w8 W ∧ W.cell? ⟨w.heap.size, 0, none⟩ = some (.slice na nn nc) ∧ W.cell? ⟨w.heap.size, 1, none⟩ = some (.slice ua un uc) ∧ W.cell? ⟨w.heap.size, 2, none⟩ = some (.slice da dn dc) ∧ W.cell? ⟨w.heap.size, 3, none⟩ = some (.int .i64 nx) ∧ W.cell? ⟨w.heap.size, 4, none⟩ = some (.slice la ll lc) ∧ W.cell? ⟨w.heap.size, 5, none⟩ = some (.slice sa sl sc) ∧ W.cell? ⟨w.heap.size, 6, none⟩ = some (.int .i64 lost) ∧ W.cell? R = some (.int .i64 ea) ∧ W.cell? ⟨R.block, R.off + 1, none⟩ = some (.int .i64 eb)) → Calls Tryz.prog 10 #[.agg #[.slice na nn nc, .slice ua un uc, .slice da dn dc, .int .i64 nx, .slice la ll lc, .slice sa sl sc, .int .i64 lost], .int .i64 ea, .string nm] W fun e w' => e = .returned (.tuple #[ChV ⟨cn, cp, cw, cv, ck, cq⟩, .bool ok]) ∧ Below W.heap.size W w') := Lib.hid (fun W h => CI1.out W (HKW8.out.trans (h.1.mono HKW8.out.size)))
             have KS := Lib.hid kS
             have HI : Hid (Below w8.heap.size w8 w8 ∧ w8.cell? ⟨w.heap.size, 0, none⟩ = some (.slice na nn nc) ∧ w8.cell? ⟨w.heap.size, 1, none⟩ = some (.slice ua un uc) ∧ w8.cell? ⟨w.heap.size, 2, none⟩ = some (.slice da dn dc) ∧ w8.cell? ⟨w.heap.size, 3, none⟩ = some (.int .i64 nx) ∧ w8.cell? ⟨w.heap.size, 4, none⟩ = some (.slice la ll lc) ∧ w8.cell? ⟨w.heap.size, 5, none⟩ = some (.slice sa sl sc) ∧ w8.cell? ⟨w.heap.size, 6, none⟩ = some (.int .i64 lost) ∧ w8.cell? R = some (.int .i64 ea) ∧ w8.cell? ⟨R.block, R.off + 1, none⟩ = some (.int .i64 eb)) := Lib.hid ⟨Below.refl _ _, by with_reducible assumption, by with_reducible assumption, by with_reducible assumption, by with_reducible assumption, by with_reducible assumption, by with_reducible assumption, by with_reducible assumption, by with_reducible assumption, by with_reducible assumption⟩
             clear kS
             go_region_held3 (fun w' => Below w8.heap.size w8 w' ∧ w'.cell? ⟨w.heap.size, 0, none⟩ = some (.slice na nn nc) ∧ w'.cell? ⟨w.heap.size, 1, none⟩ = some (.slice ua un uc) ∧ w'.cell? ⟨w.heap.size, 2, none⟩ = some (.slice da dn dc) ∧ w'.cell? ⟨w.heap.size, 3, none⟩ = some (.int .i64 nx) ∧ w'.cell? ⟨w.heap.size, 4, none⟩ = some (.slice la ll lc) ∧ w'.cell? ⟨w.heap.size, 5, none⟩ = some (.slice sa sl sc) ∧ w'.cell? ⟨w.heap.size, 6, none⟩ = some (.int .i64 lost) ∧ w'.cell? R = some (.int .i64 ea) ∧ w'.cell? ⟨R.block, R.off + 1, none⟩ = some (.int .i64 eb)) (repeat (first | with_reducible assumption | with_reducible exact HI.out | with_reducible refine KD.out _ ?_ | with_reducible refine KA.out _ _ ?_ | with_reducible refine KF.out _ _ _ _ ?_ (by omega) | with_reducible refine KS.out _ _ ?_ (by with_reducible assumption))) (first | ((with_reducible refine (CJ3.out _ (by with_reducible assumption)).mono ?_); rintro e w20 ⟨rfl, hb20⟩; have hS20 := KS.out _ _ (by with_reducible assumption) hb20; obtain ⟨hc20, hf20⟩ := bcell hb20; have hz20 := hb20.size; (try simp at hz20); (try have hq20 : w8.heap.size < w20.heap.size := (by omega))))
             all_goals
              go_wp2_with (fail)
              go_meet
              first
              | exact ⟨w8.heap.size, rfl, rfl, by omega, KT.out _ _ (by with_reducible assumption) (by go_simp) (by go_simp) (by go_simp)⟩
              | exact ⟨w20.heap.size, rfl, rfl, by omega, KT.out _ _ (by with_reducible assumption) (by go_simp) (by go_simp) (by go_simp)⟩
           case rest =>
            as_aux_lemma =>
             obtain ⟨BU, rfl, rfl, hBU, hK⟩ := hcut
             clear kc8_0 kc8_1 kc8_2 kc8_3 kc8_4 kc8_5 kc8_6 r0 r1 hz8
             simp only [KeptC, List.forall_mem_cons] at hK; obtain ⟨kb9, ⟨kc9_0, kc9_1, kc9_2, kc9_3, kc9_4, kc9_5, kc9_6, kc9_7, kc9_8, kc9_9, kc9_10, kc9_11, _⟩, _⟩ := hK
             obtain ⟨w9, h⟩ : ∃ w9, w9 = wc := ⟨_, rfl⟩
             subst h
             have hz9 : w.heap.size < w9.heap.size := cell_lt kc9_0
             have hs9 := kb9.size
             have r0 : w9.cell? R = some (.int .i64 ea) := kc9_7
             have r1 : w9.cell? ⟨R.block, R.off + 1, none⟩ = some (.int .i64 eb) := kc9_8
             have u1 : w9.cell? ⟨BU, 1, none⟩ = some (.int .i64 cp) := kc9_9
             have u2 : w9.cell? ⟨BU, 2, none⟩ = some (.int .i64 cw) := kc9_10
             have u4 : w9.cell? ⟨BU, 4, none⟩ = some (.int .i64 ck) := kc9_11
             have HKW9 : Hid (Below w.heap.size w w9) := Lib.hid (HKW8.out.trans (kb9.mono HKW8.out.size))
             have HB79 : Hid (Below w7.heap.size w7 w9) := Lib.hid (kb8.trans (kb9.mono kb8.size))
             clear kc9_7 kc9_8 kc9_9 kc9_10 kc9_11 kb9 kb8
             go_upto_region 38 with (fail)
             go_cut [24, 25] from 210 to 220 (fun s1 s2 w' => ∃ BV : Nat, s1 = .pointer (some ⟨BV, 0, none⟩) ∧ s2 = .bool is ∧ w9.heap.size ≤ BV ∧ KeptC w9 [(⟨w.heap.size, 0, none⟩, .slice na nn nc), (⟨w.heap.size, 1, none⟩, .slice ua un uc), (⟨w.heap.size, 2, none⟩, .slice da dn dc), (⟨w.heap.size, 3, none⟩, .int .i64 nx), (⟨w.heap.size, 4, none⟩, .slice la ll lc), (⟨w.heap.size, 5, none⟩, .slice sa sl sc), (⟨w.heap.size, 6, none⟩, .int .i64 lost), (R, .int .i64 ea), (⟨R.block, R.off + 1, none⟩, .int .i64 eb), (⟨BU, 1, none⟩, .int .i64 cp), (⟨BU, 2, none⟩, .int .i64 cw), (⟨BU, 4, none⟩, .int .i64 ck), (⟨BV, 1, none⟩, .int .i64 ep), (⟨BV, 2, none⟩, .int .i64 ew), (⟨BV, 4, none⟩, .int .i64 ek)] [] w')
             case first =>
              as_aux_lemma =>
               have hL0 : (R : Addr).block < w9.heap.size := cell_lt (a := R) (by with_reducible assumption); have hL1 : (⟨R.block, R.off + 1, none⟩ : Addr).block < w9.heap.size := cell_lt (a := ⟨R.block, R.off + 1, none⟩) (by with_reducible assumption)
               have kS : ∀ p q : World, (Below w9.heap.size w9 p ∧ p.cell? ⟨w.heap.size, 0, none⟩ = some (.slice na nn nc) ∧ p.cell? ⟨w.heap.size, 1, none⟩ = some (.slice ua un uc) ∧ p.cell? ⟨w.heap.size, 2, none⟩ = some (.slice da dn dc) ∧ p.cell? ⟨w.heap.size, 3, none⟩ = some (.int .i64 nx) ∧ p.cell? ⟨w.heap.size, 4, none⟩ = some (.slice la ll lc) ∧ p.cell? ⟨w.heap.size, 5, none⟩ = some (.slice sa sl sc) ∧ p.cell? ⟨w.heap.size, 6, none⟩ = some (.int .i64 lost) ∧ p.cell? R = some (.int .i64 ea) ∧ p.cell? ⟨R.block, R.off + 1, none⟩ = some (.int .i64 eb)) → Below p.heap.size p q → (Below w9.heap.size w9 q ∧ q.cell? ⟨w.heap.size, 0, none⟩ = some (.slice na nn nc) ∧ q.cell? ⟨w.heap.size, 1, none⟩ = some (.slice ua un uc) ∧ q.cell? ⟨w.heap.size, 2, none⟩ = some (.slice da dn dc) ∧ q.cell? ⟨w.heap.size, 3, none⟩ = some (.int .i64 nx) ∧ q.cell? ⟨w.heap.size, 4, none⟩ = some (.slice la ll lc) ∧ q.cell? ⟨w.heap.size, 5, none⟩ = some (.slice sa sl sc) ∧ q.cell? ⟨w.heap.size, 6, none⟩ = some (.int .i64 lost) ∧ q.cell? R = some (.int .i64 ea) ∧ q.cell? ⟨R.block, R.off + 1, none⟩ = some (.int .i64 eb)) := by
                rintro p q ⟨k0, k1, k2, k3, k4, k5, k6, k7, k8, k9⟩ hb
                exact ⟨k0.trans (hb.mono k0.size), (hb.cell (cell_lt k1)).trans k1, (hb.cell (cell_lt k2)).trans k2, (hb.cell (cell_lt k3)).trans k3, (hb.cell (cell_lt k4)).trans k4, (hb.cell (cell_lt k5)).trans k5, (hb.cell (cell_lt k6)).trans k6, (hb.cell (cell_lt k7)).trans k7, (hb.cell (cell_lt k8)).trans k8, (hb.cell (cell_lt k9)).trans k9⟩
               have KA : Hid (∀ (p : World) (o : Obj), (Below w9.heap.size w9 p ∧ p.cell? ⟨w.heap.size, 0, none⟩ = some (.slice na nn nc) ∧ p.cell? ⟨w.heap.size, 1, none⟩ = some (.slice ua un uc) ∧ p.cell? ⟨w.heap.size, 2, none⟩ = some (.slice da dn dc) ∧ p.cell? ⟨w.heap.size, 3, none⟩ = some (.int .i64 nx) ∧ p.cell? ⟨w.heap.size, 4, none⟩ = some (.slice la ll lc) ∧ p.cell? ⟨w.heap.size, 5, none⟩ = some (.slice sa sl sc) ∧ p.cell? ⟨w.heap.size, 6, none⟩ = some (.int .i64 lost) ∧ p.cell? R = some (.int .i64 ea) ∧ p.cell? ⟨R.block, R.off + 1, none⟩ = some (.int .i64 eb)) → (Below w9.heap.size w9 (p.alloc o) ∧ (p.alloc o).cell? ⟨w.heap.size, 0, none⟩ = some (.slice na nn nc) ∧ (p.alloc o).cell? ⟨w.heap.size, 1, none⟩ = some (.slice ua un uc) ∧ (p.alloc o).cell? ⟨w.heap.size, 2, none⟩ = some (.slice da dn dc) ∧ (p.alloc o).cell? ⟨w.heap.size, 3, none⟩ = some (.int .i64 nx) ∧ (p.alloc o).cell? ⟨w.heap.size, 4, none⟩ = some (.slice la ll lc) ∧ (p.alloc o).cell? ⟨w.heap.size, 5, none⟩ = some (.slice sa sl sc) ∧ (p.alloc o).cell? ⟨w.heap.size, 6, none⟩ = some (.int .i64 lost) ∧ (p.alloc o).cell? R = some (.int .i64 ea) ∧ (p.alloc o).cell? ⟨R.block, R.off + 1, none⟩ = some (.int .i64 eb))) := Lib.hid (fun p o h => kS p _ h ((Below.refl _ _).alloc (Nat.le_refl _) _))
               have KD : Hid (∀ (p : World), (Below w9.heap.size w9 p ∧ p.cell? ⟨w.heap.size, 0, none⟩ = some (.slice na nn nc) ∧ p.cell? ⟨w.heap.size, 1, none⟩ = some (.slice ua un uc) ∧ p.cell? ⟨w.heap.size, 2, none⟩ = some (.slice da dn dc) ∧ p.cell? ⟨w.heap.size, 3, none⟩ = some (.int .i64 nx) ∧ p.cell? ⟨w.heap.size, 4, none⟩ = some (.slice la ll lc) ∧ p.cell? ⟨w.heap.size, 5, none⟩ = some (.slice sa sl sc) ∧ p.cell? ⟨w.heap.size, 6, none⟩ = some (.int .i64 lost) ∧ p.cell? R = some (.int .i64 ea) ∧ p.cell? ⟨R.block, R.off + 1, none⟩ = some (.int .i64 eb)) → (Below w9.heap.size w9 p.drew ∧ p.drew.cell? ⟨w.heap.size, 0, none⟩ = some (.slice na nn nc) ∧ p.drew.cell? ⟨w.heap.size, 1, none⟩ = some (.slice ua un uc) ∧ p.drew.cell? ⟨w.heap.size, 2, none⟩ = some (.slice da dn dc) ∧ p.drew.cell? ⟨w.heap.size, 3, none⟩ = some (.int .i64 nx) ∧ p.drew.cell? ⟨w.heap.size, 4, none⟩ = some (.slice la ll lc) ∧ p.drew.cell? ⟨w.heap.size, 5, none⟩ = some (.slice sa sl sc) ∧ p.drew.cell? ⟨w.heap.size, 6, none⟩ = some (.int .i64 lost) ∧ p.drew.cell? R = some (.int .i64 ea) ∧ p.drew.cell? ⟨R.block, R.off + 1, none⟩ = some (.int .i64 eb))) := Lib.hid (fun p h => kS p _ h ((Below.refl _ _).drew))
               have KF : Hid (∀ (p : World) (b o : Nat) (u : Value), (Below w9.heap.size w9 p ∧ p.cell? ⟨w.heap.size, 0, none⟩ = some (.slice na nn nc) ∧ p.cell? ⟨w.heap.size, 1, none⟩ = some (.slice ua un uc) ∧ p.cell? ⟨w.heap.size, 2, none⟩ = some (.slice da dn dc) ∧ p.cell? ⟨w.heap.size, 3, none⟩ = some (.int .i64 nx) ∧ p.cell? ⟨w.heap.size, 4, none⟩ = some (.slice la ll lc) ∧ p.cell? ⟨w.heap.size, 5, none⟩ = some (.slice sa sl sc) ∧ p.cell? ⟨w.heap.size, 6, none⟩ = some (.int .i64 lost) ∧ p.cell? R = some (.int .i64 ea) ∧ p.cell? ⟨R.block, R.off + 1, none⟩ = some (.int .i64 eb)) → w9.heap.size ≤ b → (Below w9.heap.size w9 (p.setCell ⟨b, o, none⟩ u) ∧ (p.setCell ⟨b, o, none⟩ u).cell? ⟨w.heap.size, 0, none⟩ = some (.slice na nn nc) ∧ (p.setCell ⟨b, o, none⟩ u).cell? ⟨w.heap.size, 1, none⟩ = some (.slice ua un uc) ∧ (p.setCell ⟨b, o, none⟩ u).cell? ⟨w.heap.size, 2, none⟩ = some (.slice da dn dc) ∧ (p.setCell ⟨b, o, none⟩ u).cell? ⟨w.heap.size, 3, none⟩ = some (.int .i64 nx) ∧ (p.setCell ⟨b, o, none⟩ u).cell? ⟨w.heap.size, 4, none⟩ = some (.slice la ll lc) ∧ (p.setCell ⟨b, o, none⟩ u).cell? ⟨w.heap.size, 5, none⟩ = some (.slice sa sl sc) ∧ (p.setCell ⟨b, o, none⟩ u).cell? ⟨w.heap.size, 6, none⟩ = some (.int .i64 lost) ∧ (p.setCell ⟨b, o, none⟩ u).cell? R = some (.int .i64 ea) ∧ (p.setCell ⟨b, o, none⟩ u).cell? ⟨R.block, R.off + 1, none⟩ = some (.int .i64 eb))) := Lib.hid (by
                rintro p b o u ⟨k0, k1, k2, k3, k4, k5, k6, k7, k8, k9⟩ hbb
                exact ⟨k0.trans ((Below.refl _ _).setCell hbb _), (World.cell?_setCell_far _ _ _ _ (by simp only []; omega)).trans k1, (World.cell?_setCell_far _ _ _ _ (by simp only []; omega)).trans k2, (World.cell?_setCell_far _ _ _ _ (by simp only []; omega)).trans k3, (World.cell?_setCell_far _ _ _ _ (by simp only []; omega)).trans k4, (World.cell?_setCell_far _ _ _ _ (by simp only []; omega)).trans k5, (World.cell?_setCell_far _ _ _ _ (by simp only []; omega)).trans k6, (World.cell?_setCell_far _ _ _ _ (by simp only []; omega)).trans k7, (World.cell?_setCell_far _ _ _ _ (by simp only []; omega)).trans k8, (World.cell?_setCell_far _ _ _ _ (by simp only []; omega)).trans k9⟩)
               have KT : Hid (∀ (W : World) (BV : Nat), (Below w9.heap.size w9 W ∧ W.cell? ⟨w.heap.size, 0, none⟩ = some (.slice na nn nc) ∧ W.cell? ⟨w.heap.size, 1, none⟩ = some (.slice ua un uc) ∧ W.cell? ⟨w.heap.size, 2, none⟩ = some (.slice da dn dc) ∧ W.cell? ⟨w.heap.size, 3, none⟩ = some (.int .i64 nx) ∧ W.cell? ⟨w.heap.size, 4, none⟩ = some (.slice la ll lc) ∧ W.cell? ⟨w.heap.size, 5, none⟩ = some (.slice sa sl sc) ∧ W.cell? ⟨w.heap.size, 6, none⟩ = some (.int .i64 lost) ∧ W.cell? R = some (.int .i64 ea) ∧ W.cell? ⟨R.block, R.off + 1, none⟩ = some (.int .i64 eb)) → W.cell? ⟨BV, 1, none⟩ = some (.int .i64 ep) → W.cell? ⟨BV, 2, none⟩ = some (.int .i64 ew) → W.cell? ⟨BV, 4, none⟩ = some (.int .i64 ek) → KeptC w9 [(⟨w.heap.size, 0, none⟩, .slice na nn nc), (⟨w.heap.size, 1, none⟩, .slice ua un uc), (⟨w.heap.size, 2, none⟩, .slice da dn dc), (⟨w.heap.size, 3, none⟩, .int .i64 nx), (⟨w.heap.size, 4, none⟩, .slice la ll lc), (⟨w.heap.size, 5, none⟩, .slice sa sl sc), (⟨w.heap.size, 6, none⟩, .int .i64 lost), (R, .int .i64 ea), (⟨R.block, R.off + 1, none⟩, .int .i64 eb), (⟨BU, 1, none⟩, .int .i64 cp), (⟨BU, 2, none⟩, .int .i64 cw), (⟨BU, 4, none⟩, .int .i64 ck), (⟨BV, 1, none⟩, .int .i64 ep), (⟨BV, 2, none⟩, .int .i64 ew), (⟨BV, 4, none⟩, .int .i64 ek)] [] W) := Lib.hid (by
                rintro W BV ⟨k0, k1, k2, k3, k4, k5, k6, k7, k8, k9⟩ v1 v2 v4
                exact KeptC.cons k1 (KeptC.cons k2 (KeptC.cons k3 (KeptC.cons k4 (KeptC.cons k5 (KeptC.cons k6 (KeptC.cons k7 (KeptC.cons ((k0.cell (cell_lt (a := R) (by with_reducible assumption))).trans (by with_reducible assumption)) (KeptC.cons ((k0.cell (cell_lt (a := ⟨R.block, R.off + 1, none⟩) (by with_reducible assumption))).trans (by with_reducible assumption)) (KeptC.cons ((k0.cell (cell_lt (a := ⟨BU, 1, none⟩) (by with_reducible assumption))).trans (by with_reducible assumption)) (KeptC.cons ((k0.cell (cell_lt (a := ⟨BU, 2, none⟩) (by with_reducible assumption))).trans (by with_reducible assumption)) (KeptC.cons ((k0.cell (cell_lt (a := ⟨BU, 4, none⟩) (by with_reducible assumption))).trans (by with_reducible assumption)) (KeptC.cons v1 (KeptC.cons v2 (KeptC.cons v4 (KeptC.mk0 k0))))))))))))))))
               have CJ3 : Hid (∀ W, (Below w9.heap.size w9 W ∧ W.cell? ⟨w.heap.size, 0, none⟩ = some (.slice na nn nc) ∧ W.cell? ⟨w.heap.size, 1, none⟩ = some (.slice ua un uc) ∧ W.cell? ⟨w.heap.size, 2, none⟩ = some (.slice da dn dc) ∧ W.cell? ⟨w.heap.size, 3, none⟩ = some (.int .i64 nx) ∧ W.cell? ⟨w.heap.size, 4, none⟩ = some (.slice la ll lc) ∧ W.cell? ⟨w.heap.size, 5, none⟩ = some (.slice sa sl sc) ∧ W.cell? ⟨w.heap.size, 6, none⟩ = some (.int .i64 lost) ∧ W.cell? R = some (.int .i64 ea) ∧ W.cell? ⟨R.block, R.off + 1, none⟩ = some (.int .i64 eb)) → Calls Tryz.prog 10 #[.agg #[.slice na nn nc, .slice ua un uc, .slice da dn dc, .int .i64 nx, .slice la ll lc, .slice sa sl sc, .int .i64 lost], .int .i64 eb, .string nm] W fun e w' => e = .returned (.tuple #[ChV ⟨en, ep, ew, ev, ek, eq⟩, .bool is]) ∧ Below W.heap.size W w') := Lib.hid (fun W h => CJ1.out W (HKW9.out.trans (h.1.mono HKW9.out.size)))
               have KS := Lib.hid kS
               have HI : Hid (Below w9.heap.size w9 w9 ∧ w9.cell? ⟨w.heap.size, 0, none⟩ = some (.slice na nn nc) ∧ w9.cell? ⟨w.heap.size, 1, none⟩ = some (.slice ua un uc) ∧ w9.cell? ⟨w.heap.size, 2, none⟩ = some (.slice da dn dc) ∧ w9.cell? ⟨w.heap.size, 3, none⟩ = some (.int .i64 nx) ∧ w9.cell? ⟨w.heap.size, 4, none⟩ = some (.slice la ll lc) ∧ w9.cell? ⟨w.heap.size, 5, none⟩ = some (.slice sa sl sc) ∧ w9.cell? ⟨w.heap.size, 6, none⟩ = some (.int .i64 lost) ∧ w9.cell? R = some (.int .i64 ea) ∧ w9.cell? ⟨R.block, R.off + 1, none⟩ = some (.int .i64 eb)) := Lib.hid ⟨Below.refl _ _, by with_reducible assumption, by with_reducible assumption, by with_reducible assumption, by with_reducible assumption, by with_reducible assumption, by with_reducible assumption, by with_reducible assumption, by with_reducible assumption, by with_reducible assumption⟩
               clear kS
               go_region_held3 (fun w' => Below w9.heap.size w9 w' ∧ w'.cell? ⟨w.heap.size, 0, none⟩ = some (.slice na nn nc) ∧ w'.cell? ⟨w.heap.size, 1, none⟩ = some (.slice ua un uc) ∧ w'.cell? ⟨w.heap.size, 2, none⟩ = some (.slice da dn dc) ∧ w'.cell? ⟨w.heap.size, 3, none⟩ = some (.int .i64 nx) ∧ w'.cell? ⟨w.heap.size, 4, none⟩ = some (.slice la ll lc) ∧ w'.cell? ⟨w.heap.size, 5, none⟩ = some (.slice sa sl sc) ∧ w'.cell? ⟨w.heap.size, 6, none⟩ = some (.int .i64 lost) ∧ w'.cell? R = some (.int .i64 ea) ∧ w'.cell? ⟨R.block, R.off + 1, none⟩ = some (.int .i64 eb)) (repeat (first | with_reducible assumption | with_reducible exact HI.out | with_reducible refine KD.out _ ?_ | with_reducible refine KA.out _ _ ?_ | with_reducible refine KF.out _ _ _ _ ?_ (by omega) | with_reducible refine KS.out _ _ ?_ (by with_reducible assumption))) (first | ((with_reducible refine (CJ3.out _ (by with_reducible assumption)).mono ?_); rintro e w20 ⟨rfl, hb20⟩; have hS20 := KS.out _ _ (by with_reducible assumption) hb20; obtain ⟨hc20, hf20⟩ := bcell hb20; have hz20 := hb20.size; (try simp at hz20); (try have hq20 : w9.heap.size < w20.heap.size := (by omega))))
               all_goals
                go_wp2_with (fail)
                go_meet
                first
                | exact ⟨w9.heap.size, rfl, rfl, by omega, KT.out _ _ (by with_reducible assumption) (by go_simp) (by go_simp) (by go_simp)⟩
                | exact ⟨w20.heap.size, rfl, rfl, by omega, KT.out _ _ (by with_reducible assumption) (by go_simp) (by go_simp) (by go_simp)⟩
             case rest =>
              as_aux_lemma =>
               obtain ⟨BV, rfl, rfl, hBV, hK⟩ := hcut
               have hUw : BU < w9.heap.size := cell_lt u1
               clear kc9_0 kc9_1 kc9_2 kc9_3 kc9_4 kc9_5 kc9_6 r0 r1 u1 u2 u4 hz9
               simp only [KeptC, List.forall_mem_cons] at hK; obtain ⟨kb10, ⟨kc10_0, kc10_1, kc10_2, kc10_3, kc10_4, kc10_5, kc10_6, kc10_7, kc10_8, kc10_9, kc10_10, kc10_11, kc10_12, kc10_13, kc10_14, _⟩, _⟩ := hK
               obtain ⟨w10, h⟩ : ∃ w10, w10 = wc := ⟨_, rfl⟩
               subst h
               have hz10 : w.heap.size < w10.heap.size := cell_lt kc10_0
               have hBUV : BU ≠ BV := by omega
               have hBVU : BV ≠ BU := by omega
               have HB710 : Hid (Below w7.heap.size w7 w10) := Lib.hid (HB79.out.trans (kb10.mono HB79.out.size))
               have HKW10 : Hid (Below w.heap.size w w10) := Lib.hid (HKW9.out.trans (kb10.mono HKW9.out.size))
               clear kb10
               go_upto_region 39 with (fail)
               go_cut [26] from 221 to 248 (fun s26 w' => s26 = .bool bb ∧ w10 = w')
               case first =>
                as_aux_lemma =>
                 cases ok with
                 | false =>
                  as_aux_lemma =>
                   go_wp2_with ((go_at_call 29; first | ((with_reducible refine (FC1.out _).mono ?_); rintro e wq ⟨rfl, rfl⟩) | ((with_reducible refine (FC2.out _).mono ?_); rintro e wq ⟨rfl, rfl⟩)))
                   go_meet
                   exact ⟨by rw [HBF1.out]; first | rfl | (simp [*]; done), rfl⟩
                 | true =>
                  cases is with
                  | false =>
                   as_aux_lemma =>
                    go_wp2_with ((go_at_call 29; first | ((with_reducible refine (FC1.out _).mono ?_); rintro e wq ⟨rfl, rfl⟩) | ((with_reducible refine (FC2.out _).mono ?_); rintro e wq ⟨rfl, rfl⟩)))
                    go_meet
                    exact ⟨by rw [HBF1.out]; first | rfl | (simp [*]; done), rfl⟩
                  | true =>
                   by_cases hE2 : cp = ep
                   rotate_left
                   · have hq2 : (cp == ep) = false := by simpa using hE2
                     go_wp2_with ((go_at_call 29; first | ((with_reducible refine (FC1.out _).mono ?_); rintro e wq ⟨rfl, rfl⟩) | ((with_reducible refine (FC2.out _).mono ?_); rintro e wq ⟨rfl, rfl⟩)))
                     go_meet
                     exact ⟨by rw [HBF1.out]; first | rfl | (simp [*]; done), rfl⟩
                   · subst hE2
                     by_cases hE3 : cw = ew
                     rotate_left
                     · have hq3 : (cw == ew) = false := by simpa using hE3
                       go_wp2_with ((go_at_call 29; first | ((with_reducible refine (FC1.out _).mono ?_); rintro e wq ⟨rfl, rfl⟩) | ((with_reducible refine (FC2.out _).mono ?_); rintro e wq ⟨rfl, rfl⟩)))
                       go_meet
                       exact ⟨by rw [HBF1.out]; first | rfl | (simp [*]; done), rfl⟩
                     · subst hE3
                       cases f1 with
                       | false =>
                        as_aux_lemma =>
                         go_wp2_with ((go_at_call 29; first | ((with_reducible refine (FC1.out _).mono ?_); rintro e wq ⟨rfl, rfl⟩) | ((with_reducible refine (FC2.out _).mono ?_); rintro e wq ⟨rfl, rfl⟩)))
                         go_meet
                         exact ⟨by rw [HBF1.out]; first | rfl | (simp [*]; done), rfl⟩
                       | true =>
                        cases f2 with
                        | false =>
                         as_aux_lemma =>
                          go_wp2_with ((go_at_call 29; first | ((with_reducible refine (FC1.out _).mono ?_); rintro e wq ⟨rfl, rfl⟩) | ((with_reducible refine (FC2.out _).mono ?_); rintro e wq ⟨rfl, rfl⟩)))
                          go_meet
                          exact ⟨by rw [HBF1.out]; first | rfl | (simp [*]; done), rfl⟩
                        | true =>
                         as_aux_lemma =>
                          go_wp2_with ((go_at_call 29; first | ((with_reducible refine (FC1.out _).mono ?_); rintro e wq ⟨rfl, rfl⟩) | ((with_reducible refine (FC2.out _).mono ?_); rintro e wq ⟨rfl, rfl⟩)))
                          go_meet
                          exact ⟨by rw [HBF1.out]; first | rfl | (simp [*]; done), rfl⟩
               case rest =>
                as_aux_lemma =>
                 obtain ⟨rfl, rfl⟩ := hcut
                 have hRw10 : R.block < w10.heap.size := cell_lt kc10_7
                 have CH2 := Lib.hid (fun W (hb : Below w10.heap.size w10 W) => CH1.out W (HKW10.out.trans (hb.mono HKW10.out.size)))
                 have CA2 := Lib.hid (fun W (hb : Below w10.heap.size w10 W) => CA1.out W (HKW10.out.trans (hb.mono HKW10.out.size)))
                 go_wp2_with (fail)
                 refine wp_region_quietC_lit (KeptC w10 [(⟨w.heap.size, 0, none⟩, .slice na nn nc), (⟨w.heap.size, 1, none⟩, .slice ua un uc), (⟨w.heap.size, 2, none⟩, .slice da dn dc), (⟨w.heap.size, 3, none⟩, .int .i64 nx), (⟨w.heap.size, 4, none⟩, .slice la ll lc), (⟨w.heap.size, 5, none⟩, .slice sa sl sc), (⟨w.heap.size, 6, none⟩, .int .i64 lost), (R, .int .i64 ea), (⟨R.block, R.off + 1, none⟩, .int .i64 eb)] []) (by kernel_rfl) (by kernel_rfl) ?_ ?_
                 · refine KeptC.drewn ?_
                   exact Qk
                 repeat (first
                  | go_big_quiet_skip
                  | (go_big_quiet_want; (apply quietC_run); (· intro w' hw'; (have hk' := hw'; simp only [KeptC, List.forall_mem_cons] at hk'; go_split_ands); go_simp; first | done | rfl); (simp only [Act.put, List.setIfInBounds_toArray, List.set_cons_zero, List.set_cons_succ]; go_big_quiet_on))
                  | (go_big_quiet_want; (apply quietC_call); (· intro w' hw'; go_simp; first | done | exact ⟨rfl, rfl⟩ | rfl); (· intro w' hw'; first | ((with_reducible refine (CH2.out _ hw'.lowV).mono ?_); rintro e w2 ⟨rfl, hb⟩; exact ⟨rfl, hw'.below hb⟩)); (simp only [Act.put, List.setIfInBounds_toArray, List.set_cons_zero, List.set_cons_succ]; go_big_quiet_on)))
                 refine wpQuiet_nil ?_
                 intro w9 hk9
                 (have hk' := hk9; simp only [KeptC, List.forall_mem_cons] at hk'; go_split_ands); have hkB9 := hk9.1
                 clear hk9
                 have hz9 : w.heap.size < w9.heap.size := by have := hkB9.size; omega
                 have kw9 : Below w7.heap.size w7 w9 := HB710.out.trans (hkB9.mono HB710.out.size)
                 have HKW9 : Hid (Below w.heap.size w w9) := Lib.hid (HKW10.out.trans (hkB9.mono HKW10.out.size))
                 obtain ⟨w11, h⟩ : ∃ w11, w11 = w9 := ⟨_, rfl⟩
                 subst h
                 clear CH2 CH1 hkB9 kc10_0 kc10_1 kc10_2 kc10_3 kc10_4 kc10_5 kc10_6 kc10_7 kc10_8 kc10_9 kc10_10 kc10_11 kc10_12 kc10_13 kc10_14 hUw
                 have CA2 := Lib.hid (fun W (hb : Below w11.heap.size w11 W) => CA1.out W (HKW9.out.trans (hb.mono HKW9.out.size)))
                 have hRw11 : R.block < w11.heap.size := cell_lt (a := R) (by with_reducible assumption)
                 cases bb with
                 | false =>
                  as_aux_lemma =>
                   have HPN0 : Hid (((E.take (i + 1)).filter op).length = m) := Lib.hid (by rw [HPN.out, HOP1.out]; rfl)
                   go_wp2_with (fail)
                   refine wp_region_quietC_lit (KeptC w11 [(⟨w.heap.size, 0, none⟩, .slice na nn nc), (⟨w.heap.size, 1, none⟩, .slice ua un uc), (⟨w.heap.size, 2, none⟩, .slice da dn dc), (⟨w.heap.size, 3, none⟩, .int .i64 nx), (⟨w.heap.size, 4, none⟩, .slice la ll lc), (⟨w.heap.size, 5, none⟩, .slice sa sl sc), (⟨w.heap.size, 6, none⟩, .int .i64 lost), (R, .int .i64 ea), (⟨R.block, R.off + 1, none⟩, .int .i64 eb)] []) (by kernel_rfl) (by kernel_rfl) ?_ ?_
                   · refine KeptC.drewn ?_
                     exact Qk
                   repeat (first
                    | go_big_quiet_skip
                    | (go_big_quiet_want; (apply quietC_run); (· intro w' hw'; (have hk' := hw'; simp only [KeptC, List.forall_mem_cons] at hk'; go_split_ands); go_simp; first | done | rfl); (simp only [Act.put, List.setIfInBounds_toArray, List.set_cons_zero, List.set_cons_succ]; go_big_quiet_on))
                    | (go_big_quiet_want; (apply quietC_call); (· intro w' hw'; go_simp; first | done | exact ⟨rfl, rfl⟩ | rfl); (· intro w' hw'; first | ((with_reducible refine (fail).mono ?_); rintro e w2 ⟨rfl, hb⟩; exact ⟨rfl, hw'.below hb⟩)); (simp only [Act.put, List.setIfInBounds_toArray, List.set_cons_zero, List.set_cons_succ]; go_big_quiet_on)))
                   refine wpQuiet_nil ?_
                   intro w9 hk9
                   (have hk' := hk9; simp only [KeptC, List.forall_mem_cons] at hk'; go_split_ands); have hkB9 := hk9.1
                   have kw12 := kw9.trans (hkB9.mono kw9.size)
                   clear hk9
                   go_wp2
                   go_roundg (g3 - 1)
                   case measure => omega
                   case rel => exact ⟨i + 1, m, by omega, by go_num, rfl, HPN0, (Qk1 kw12)⟩
                 | true =>
                  cases r with
                  | true =>
                   as_aux_lemma =>
                    have HPN0 : Hid (((E.take (i + 1)).filter op).length = m) := Lib.hid (by rw [HPN.out, HOP1.out]; rfl)
                    go_wp2_with (fail)
                    refine wp_region_quietC_lit (KeptC w11 [(⟨w.heap.size, 0, none⟩, .slice na nn nc), (⟨w.heap.size, 1, none⟩, .slice ua un uc), (⟨w.heap.size, 2, none⟩, .slice da dn dc), (⟨w.heap.size, 3, none⟩, .int .i64 nx), (⟨w.heap.size, 4, none⟩, .slice la ll lc), (⟨w.heap.size, 5, none⟩, .slice sa sl sc), (⟨w.heap.size, 6, none⟩, .int .i64 lost), (R, .int .i64 ea), (⟨R.block, R.off + 1, none⟩, .int .i64 eb)] []) (by kernel_rfl) (by kernel_rfl) ?_ ?_
                    · refine KeptC.drewn ?_
                      exact Qk
                    repeat (first
                     | go_big_quiet_skip
                     | (go_big_quiet_want; (apply quietC_run); (· intro w' hw'; (have hk' := hw'; simp only [KeptC, List.forall_mem_cons] at hk'; go_split_ands); go_simp; first | done | rfl); (simp only [Act.put, List.setIfInBounds_toArray, List.set_cons_zero, List.set_cons_succ]; go_big_quiet_on))
                     | (go_big_quiet_want; (apply quietC_call); (· intro w' hw'; go_simp; first | done | exact ⟨rfl, rfl⟩ | rfl); (· intro w' hw'; first | ((with_reducible refine (CA2.out _ hw'.lowV).mono ?_); rintro e w2 ⟨rfl, hb⟩; exact ⟨rfl, hw'.below hb⟩)); (simp only [Act.put, List.setIfInBounds_toArray, List.set_cons_zero, List.set_cons_succ]; go_big_quiet_on)))
                    refine wpQuiet_nil ?_
                    intro w9 hk9
                    (have hk' := hk9; simp only [KeptC, List.forall_mem_cons] at hk'; go_split_ands); have hkB9 := hk9.1
                    have kw12 := kw9.trans (hkB9.mono kw9.size)
                    clear hk9
                    go_wp2
                    go_roundg (g3 - 1)
                    case measure => omega
                    case rel => exact ⟨i + 1, m, by omega, by go_num, rfl, HPN0, (Qk1 kw12)⟩
                  | false =>
                   as_aux_lemma =>
                    have hopt : op (ea, eb) = true := by rw [HOP1.out]; rfl
                    have HPN0 : Hid (((E.take (i + 1)).filter op).length = m + 1) := Lib.hid (by rw [HPN.out, hopt]; rfl)
                    have hpa := HPA.out hopt
                    have hmo : m < ON := by have h := (List.getElem?_eq_some_iff.1 hpa).1; have h2 := HO.out; omega
                    obtain ⟨ado, yo, eO, hbo, hyo, qo⟩ := HOR7.out.at hmo
                    subst eO
                    obtain rfl := Option.some.inj (hyo.symm.trans hpa)
                    obtain ⟨T, hT⟩ : ∃ T, ado.add (m * 2) = T := ⟨_, rfl⟩
                    rw [hT] at qo hbo
                    have hwm : IntKind.i64.wrap ((m : Int) + 1) = (m : Int) + 1 := by rw [IntKind.wrap_i64]; omega
                    have hL0 : ¬ ((ON : Int) ≤ (m : Int)) := by omega
                    have hL1 : (m : Int) < (ON : Int) := by omega
                    have hL2 : ¬ ON ≤ m := by omega
                    clear hpa hopt hyo
                    go_wp2_with (fail)
                    refine wp_region_quietC_lit (KeptC w11 [(⟨w.heap.size, 0, none⟩, .slice na nn nc), (⟨w.heap.size, 1, none⟩, .slice ua un uc), (⟨w.heap.size, 2, none⟩, .slice da dn dc), (⟨w.heap.size, 3, none⟩, .int .i64 nx), (⟨w.heap.size, 4, none⟩, .slice la ll lc), (⟨w.heap.size, 5, none⟩, .slice sa sl sc), (⟨w.heap.size, 6, none⟩, .int .i64 lost), (R, .int .i64 ea), (⟨R.block, R.off + 1, none⟩, .int .i64 eb)] []) (by kernel_rfl) (by kernel_rfl) ?_ ?_
                    · refine KeptC.drewn ?_
                      exact Qk
                    repeat (first
                     | go_big_quiet_skip
                     | (go_big_quiet_want; (apply quietC_run); (· intro w' hw'; (have hk' := hw'; simp only [KeptC, List.forall_mem_cons] at hk'; go_split_ands); go_simp; first | done | rfl); (simp only [Act.put, List.setIfInBounds_toArray, List.set_cons_zero, List.set_cons_succ]; go_big_quiet_on))
                     | (go_big_quiet_want; (apply quietC_call); (· intro w' hw'; go_simp; first | done | exact ⟨rfl, rfl⟩ | rfl); (· intro w' hw'; first | ((with_reducible refine (CA2.out _ hw'.lowV).mono ?_); rintro e w2 ⟨rfl, hb⟩; exact ⟨rfl, hw'.below hb⟩)); (simp only [Act.put, List.setIfInBounds_toArray, List.set_cons_zero, List.set_cons_succ]; go_big_quiet_on)))
                    refine wpQuiet_nil ?_
                    intro w9 hk9
                    (have hk' := hk9; simp only [KeptC, List.forall_mem_cons] at hk'; go_split_ands); have hkB9 := hk9.1
                    have kw12 := kw9.trans (hkB9.mono kw9.size)
                    obtain ⟨w12, h⟩ : ∃ w12, w12 = w9 := ⟨_, rfl⟩
                    subst h
                    have t0 : w12.cell? T = some (.int .i64 ea) := (kw12.cell hbo).trans (by have := qo 0 _ rfl; rwa [Bg.add_z T] at this)
                    have t1 : w12.cell? ⟨T.block, T.off + 1, none⟩ = some (.int .i64 eb) := (kw12.cell (p := ⟨T.block, T.off + 1, none⟩) hbo).trans (by have := qo 1 _ rfl; rwa [add_next T 0] at this)
                    have hTw : T.block < w12.heap.size := by have := kw12.size; omega
                    have hRw12 : R.block < w12.heap.size := cell_lt (a := R) (by with_reducible assumption)
                    clear hk9 qo CA2 hkB9
                    go_wp2_with (fail)
                    refine wp_region_quietC_lit (KeptC w12 [(⟨w.heap.size, 0, none⟩, .slice na nn nc), (⟨w.heap.size, 1, none⟩, .slice ua un uc), (⟨w.heap.size, 2, none⟩, .slice da dn dc), (⟨w.heap.size, 3, none⟩, .int .i64 nx), (⟨w.heap.size, 4, none⟩, .slice la ll lc), (⟨w.heap.size, 5, none⟩, .slice sa sl sc), (⟨w.heap.size, 6, none⟩, .int .i64 lost), (R, .int .i64 ea), (⟨R.block, R.off + 1, none⟩, .int .i64 eb), (T, .int .i64 ea), (⟨T.block, T.off + 1, none⟩, .int .i64 eb)] []) (by kernel_rfl) (by kernel_rfl) ?_ ?_
                    · refine KeptC.drewn ?_
                      exact Qk
                    repeat (first
                     | go_big_quiet_skip
                     | (go_big_quiet_want; (apply quietC_run); (· intro w' hw'; (have hk' := hw'; simp only [KeptC, List.forall_mem_cons] at hk'; go_split_ands); go_simp; first | done | rfl); (simp only [Act.put, List.setIfInBounds_toArray, List.set_cons_zero, List.set_cons_succ]; go_big_quiet_on))
                     | (go_big_quiet_want; (apply quietC_call); (· intro w' hw'; go_simp; first | done | exact ⟨rfl, rfl⟩ | rfl); (· intro w' hw'; first | ((with_reducible refine (fail).mono ?_); rintro e w2 ⟨rfl, hb⟩; exact ⟨rfl, hw'.below hb⟩)); (simp only [Act.put, List.setIfInBounds_toArray, List.set_cons_zero, List.set_cons_succ]; go_big_quiet_on)))
                    refine wpQuiet_nil ?_
                    intro w9 hk9
                    (have hk' := hk9; simp only [KeptC, List.forall_mem_cons] at hk'; go_split_ands); have hkB9 := hk9.1
                    have kw13 := kw12.trans (hkB9.mono kw12.size)
                    clear hk9
                    go_wp2
                    go_roundg (g3 - 1)
                    case measure => omega
                    case rel => exact ⟨i + 1, m + 1, by omega, by go_num, by go_num, HPN0, (Qk1 kw13)⟩
   · obtain ⟨ad, g, hA, hgk2, hab, hrow, hgc, hgn⟩ := HO3.out.row HB2.out hlt
     subst hA
     have HLK : Hid (LG[k]? = some g.mem) := Lib.hid (by rw [← HM.out, List.getElem?_map, hgk2]; rfl)
     obtain ⟨ga, gn, gc, mem⟩ := g
     simp only [] at hrow hgc hgn HLK
     obtain ⟨P, hP⟩ : ∃ P, ad.add (k * 1) = P := ⟨_, rfl⟩
     rw [hP] at hrow hab
     rw [Nat.mul_one] at hP
     have HROW := Lib.hid hrow
     have HGIN : Hid (mem ∈ LG) := Lib.hid (List.mem_of_getElem? HLK.out)
     have HG1 : Hid (mem.length = gn) := Lib.hid hgn
     have hgn1 : gn ≤ 1000 := by have := HGL.out mem HGIN.out; omega
     have hPw : P.block < w4.heap.size := Nat.lt_of_lt_of_le hab HA.out.low.size
     have HPN : Hid (P.block < w3.heap.size) := Lib.hid hab
     have hwk : IntKind.i64.wrap ((k : Int) + 1) = (k : Int) + 1 := by rw [IntKind.wrap_i64]; omega
     clear hrow hgk2 hab hgn
     obtain ⟨F, hF⟩ : ∃ F : Nat → Bool, F = fun a : Nat => ((((U (a : Int)).getD Nd0).halves.all fun h => ag (a : Int) h.peer nm) && bo (a : Int) ((mem.headD 0 : Nat) : Int) nm) := ⟨_, rfl⟩
     have HFE := Lib.hid (fun a : Nat => congrFun hF a)
     have HCL : Hid (clo (memI mem) nm = mem.all F) := Lib.hid (by rw [hF]; exact HGR.out mem HGIN.out)
     clear hF
     go_wp2
     go_loopg [9, 8] gn (fun gk s9 s8 w' => ∃ (j : Nat) (cl : Bool), gk + j = gn ∧ s9 = .int .i64 j ∧ s8 = .bool cl ∧ Hid (cl = (mem.take j).all F) ∧ Hid (LocX encIs w' w1.heap.size (cntI ((LG.take k).flatten ++ mem.take j) nn)) ∧ Hid (Away w1.heap.size w3 w') ∧ KeptC w [(⟨w.heap.size, 0, none⟩, .slice na nn nc), (⟨w.heap.size, 1, none⟩, .slice ua un uc), (⟨w.heap.size, 2, none⟩, .slice da dn dc), (⟨w.heap.size, 3, none⟩, .int .i64 nx), (⟨w.heap.size, 4, none⟩, .slice la ll lc), (⟨w.heap.size, 5, none⟩, .slice sa sl sc), (⟨w.heap.size, 6, none⟩, .int .i64 lost)] [] w')
     case atStart => exact ⟨0, true, by omega, rfl, rfl, Lib.hid rfl, Lib.hid (by rw [List.take_zero, List.append_nil]; exact HX.out), HA, (Qk1 kb4)⟩
     case round =>
      clear kb4 hz4 hy4 hs4 kc4_0 kc4_1 kc4_2 kc4_3 kc4_4 kc4_5 kc4_6 HX HA hPw
      obtain ⟨j, cl, hgj, rfl, rfl, HC, HX, HA, hK⟩ := hrel
      simp only [KeptC, List.forall_mem_cons] at hK; obtain ⟨kb5, ⟨kc5_0, kc5_1, kc5_2, kc5_3, kc5_4, kc5_5, kc5_6, _⟩, _⟩ := hK
      have hz5 : w.heap.size < wr.heap.size := cell_lt kc5_0
      have hy5 : w1.heap.size < wr.heap.size := HX.out.1
      obtain ⟨w5, h⟩ : ∃ w5, w5 = wr := ⟨_, rfl⟩
      subst h
      obtain ⟨g2, h⟩ : ∃ g2, g2 = gk := ⟨_, rfl⟩
      subst h
      have hs5 := kb5.size
      have hr5 := HROW.out w5 HA.out
      have e0 := hr5.1
      have HR5 := Lib.hid hr5.2
      have hPw : P.block < w5.heap.size := Nat.lt_of_lt_of_le HPN.out HA.out.low.size
      clear hr5
      by_cases hlj : j < gn
      rotate_left
      · obtain rfl : j = gn := by omega
        have HTA : Hid (mem.take j = mem) := Lib.hid (List.take_of_length_le (Nat.le_of_eq HG1.out))
        have HC2 : Hid (clo (memI mem) nm = cl) := Lib.hid (by rw [HCL.out, HC.out, HTA.out])
        have cc := (fun W (hb : Below w5.heap.size w5 W) => CC.out ga j gc (memI mem) W (kb5.trans (hb.mono kb5.size)) ((HR5.out.below hb).more hb.size) hgc (by omega))
        rw [HC2.out] at cc
        have CC2 := Lib.hid cc
        clear cc
        go_wp2_with (fail)
        refine wp_region_quietC_lit (KeptC w5 [(⟨w.heap.size, 0, none⟩, .slice na nn nc), (⟨w.heap.size, 1, none⟩, .slice ua un uc), (⟨w.heap.size, 2, none⟩, .slice da dn dc), (⟨w.heap.size, 3, none⟩, .int .i64 nx), (⟨w.heap.size, 4, none⟩, .slice la ll lc), (⟨w.heap.size, 5, none⟩, .slice sa sl sc), (⟨w.heap.size, 6, none⟩, .int .i64 lost), (P, .slice ga j gc)] []) (by kernel_rfl) (by kernel_rfl) ?_ ?_
        · refine KeptC.drewn ?_
          exact Qk
        repeat (first
         | go_big_quiet_skip
         | (go_big_quiet_want; (apply quietC_run); (· intro w' hw'; (have hk' := hw'; simp only [KeptC, List.forall_mem_cons] at hk'; go_split_ands); go_simp; first | done | rfl); (simp only [Act.put, List.setIfInBounds_toArray, List.set_cons_zero, List.set_cons_succ]; go_big_quiet_on))
         | (go_big_quiet_want; (apply quietC_call); (· intro w' hw'; go_simp; first | done | exact ⟨rfl, rfl⟩ | rfl); (· intro w' hw'; first | ((with_reducible refine (CC2.out _ hw'.lowV).mono ?_); rintro e w2 ⟨rfl, hb⟩; exact ⟨rfl, hw'.below hb⟩)); (simp only [Act.put, List.setIfInBounds_toArray, List.set_cons_zero, List.set_cons_succ]; go_big_quiet_on)))
        refine wpQuiet_nil ?_
        intro w9 hk9
        (have hk' := hk9; simp only [KeptC, List.forall_mem_cons] at hk'; go_split_ands); have hkB9 := hk9.1
        have HB9 : Hid (Below w5.heap.size w5 w9) := Lib.hid hkB9
        have kb9 : Below w.heap.size w w9 := kb5.trans (hkB9.mono kb5.size)
        have HA9 := Lib.hid (HA.out.trans (Away.of hkB9 hy5))
        have HX9 : Hid (LocX encIs w9 w1.heap.size (cntI (LG.take (k + 1)).flatten nn)) := Lib.hid (by rw [take_flat HLK.out]; have h := HX.out.below hkB9 hy5; rw [HTA.out] at h; exact h)
        have k9 := hk9
        simp only [KeptC, List.forall_mem_cons] at k9; obtain ⟨kb8, ⟨kc8_0, kc8_1, kc8_2, kc8_3, kc8_4, kc8_5, kc8_6, kc8_7, _⟩, _⟩ := k9
        clear hk9 hkB9 HB9 kb8 e0 kc5_0 kc5_1 kc5_2 kc5_3 kc5_4 kc5_5 kc5_6
        go_wp2
        go_roundg (g1 - 1)
        case measure => omega
        case rel => exact ⟨k + 1, by omega, by go_num, HX9, HA9, (Qk1 kb9)⟩
      · obtain ⟨b1, v, e1, hb1, hv, q1⟩ := HR5.out.at hlj
        subst e1
        obtain ⟨a, hma, rfl⟩ := memI_get hv
        rw [Nat.mul_one] at q1 hb1
        have q0 : w5.cell? (b1.add j) = some (.int .i64 a) := by have := q1 0 _ rfl; rwa [Bg.add_z] at this
        obtain ⟨han, hau⟩ := HGU.out mem HGIN.out a (List.mem_of_getElem? hma)
        obtain ⟨adu, hua, hub, huc⟩ := HUPC.out a han
        subst hua
        rw [hau] at huc
        have cu : w5.cell? (adu.add a) = some (.bool true) := (kb5.cell hub).trans huc
        obtain ⟨adn, uha, uhn, uhc, hfs, hna, hnb, hU, hnc6, hhf, hh16⟩ := HNDC.out a han hau
        subst hna
        obtain ⟨Q, hQ⟩ : ∃ Q, adn.add (a * 8) = Q := ⟨_, rfl⟩
        rw [hQ] at hnb hnc6
        obtain ⟨hc1, hc2⟩ := HX.out.2 a _ (cnt_enc han)
        have hst := cnt_set ((LG.take k).flatten ++ mem.take j) nn a
        have hle := cnt_le (j := j) HLK.out a
        have hct := HCT.out a han
        rw [hau, if_pos rfl] at hct
        rw [hct] at hle
        generalize ((LG.take k).flatten ++ mem.take j).count a = c at hc1 hst hle
        have HST := Lib.hid hst
        have HMA := Lib.hid hma
        have HU := Lib.hid hU
        have HHF := Lib.hid hhf
        have HQC := Lib.hid hnc6
        have hwc : IntKind.i64.wrap ((c : Int) + 1) = (c : Int) + 1 := by rw [IntKind.wrap_i64]; omega
        have hwj : IntKind.i64.wrap ((j : Int) + 1) = (j : Int) + 1 := by rw [IntKind.wrap_i64]; omega
        have hL0 : ¬ ((a : Int) < 0) := by omega
        have hL1 : ¬ ((nn : Int) ≤ (a : Int)) := by omega
        have hL2 : (a : Int) < (un : Int) := by have := HUN.out; omega
        have hL3 : a < un := by omega
        have hL4 : (a : Int) < (nn : Int) := by omega
        clear q1 hv hst hct hma hU hhf hnc6 hle huc hau
        go_upto_region 16 with (fail)
        refine lay1 (fun W => (W.cell? ⟨w.heap.size, 0, none⟩ = some (.slice (some adn) nn nc) ∧ W.cell? ⟨w.heap.size, 1, none⟩ = some (.slice (some adu) un uc) ∧ W.cell? ⟨w.heap.size, 2, none⟩ = some (.slice da dn dc) ∧ W.cell? ⟨w.heap.size, 3, none⟩ = some (.int .i64 nx) ∧ W.cell? ⟨w.heap.size, 4, none⟩ = some (.slice la ll lc) ∧ W.cell? ⟨w.heap.size, 5, none⟩ = some (.slice sa sl sc) ∧ W.cell? ⟨w.heap.size, 6, none⟩ = some (.int .i64 lost)) ∧ LocX encIs W w1.heap.size (cntI ((LG.take k).flatten ++ mem.take j ++ [a]) nn) ∧ Away w1.heap.size w5 W) ⟨⟨by go_simp, by go_simp, by go_simp, by go_simp, by go_simp, by go_simp, by go_simp⟩, HX.out.set a _ _ HST.out, Away.set _ _ _⟩ ?_
        rintro w6 ⟨⟨kc6_0, kc6_1, kc6_2, kc6_3, kc6_4, kc6_5, kc6_6⟩, hX6, hA6⟩
        have hy6 : w1.heap.size < w6.heap.size := hX6.1
        have kb6 : Below w.heap.size w w6 := kb5.trans (hA6.low.mono (by omega))
        have hz6 : w.heap.size < w6.heap.size := by omega
        have HA6 := Lib.hid (HA.out.trans hA6)
        have HX6 : Hid (LocX encIs w6 w1.heap.size (cntI ((LG.take k).flatten ++ mem.take (j + 1)) nn)) := Lib.hid (by rw [take_one HMA.out, ← List.append_assoc]; exact hX6)
        have hr6 := HROW.out w6 HA6.out
        have e6 := hr6.1
        obtain ⟨b2, v2, e2, hb2, hv2, q2⟩ := hr6.2.at (show 0 < gn by omega)
        obtain rfl := Option.some.inj e2
        obtain ⟨a0, hm0, rfl⟩ := memI_get hv2
        rw [Nat.zero_mul, Bg.add_z] at q2 hb2
        have r6 : w6.cell? b1 = some (.int .i64 a0) := by have := q2 0 _ rfl; rwa [Bg.add_z] at this
        have HHD : Hid (mem.headD 0 = a0) := Lib.hid (by rw [List.headD_eq_head?_getD, List.head?_eq_getElem?, hm0]; rfl)
        have hPw6 : P.block < w6.heap.size := Nat.lt_of_lt_of_le HPN.out HA6.out.low.size
        have hQ6 : w6.cell? ⟨Q.block, Q.off + 6, none⟩ = some (.slice uha uhn uhc) := (kb6.cell (p := ⟨Q.block, Q.off + 6, none⟩) hnb).trans HQC.out
        have HKB6 := Lib.hid kb6
        have HE6 := Lib.hid e6
        have HR6 := Lib.hid r6
        clear hX6 hA6 hr6 e2 hv2 q2 hm0 kb5 hz5 hy5 hs5 kc5_0 kc5_1 kc5_2 kc5_3 kc5_4 kc5_5 kc5_6 e0 q0 cu hc1 hc2 HST HX HA hPw HR5 hwc hL0 hL1 hL2 hL3 hL4
        go_wp2
        go_loopg [12, 8] uhn (fun gk s12 s8 w' => ∃ (t : Nat) (cl2 : Bool), gk + t = uhn ∧ s12 = .int .i64 t ∧ s8 = .bool cl2 ∧ Hid (cl2 = (cl && (hfs.take t).all fun h => ag (a : Int) h.peer nm)) ∧ KeptC w6 [(⟨w.heap.size, 0, none⟩, .slice (some adn) nn nc), (⟨w.heap.size, 1, none⟩, .slice (some adu) un uc), (⟨w.heap.size, 2, none⟩, .slice da dn dc), (⟨w.heap.size, 3, none⟩, .int .i64 nx), (⟨w.heap.size, 4, none⟩, .slice la ll lc), (⟨w.heap.size, 5, none⟩, .slice sa sl sc), (⟨w.heap.size, 6, none⟩, .int .i64 lost)] [] w')
        case atStart => exact ⟨0, cl, by omega, rfl, rfl, Lib.hid (by rw [List.take_zero]; exact (Bool.and_true _).symm), Qk⟩
        case round =>
         obtain ⟨t, cl2, hgt, rfl, rfl, HC2, hK⟩ := hrel
         clear kc6_0 kc6_1 kc6_2 kc6_3 kc6_4 kc6_5 kc6_6 kb6 hQ6
         simp only [KeptC, List.forall_mem_cons] at hK; obtain ⟨kb7, ⟨kc7_0, kc7_1, kc7_2, kc7_3, kc7_4, kc7_5, kc7_6, _⟩, _⟩ := hK
         have hz7 : w.heap.size < wr.heap.size := cell_lt kc7_0
         obtain ⟨w7, h⟩ : ∃ w7, w7 = wr := ⟨_, rfl⟩
         subst h
         obtain ⟨g3, h⟩ : ∃ g3, g3 = gk := ⟨_, rfl⟩
         subst h
         have hs7 := kb7.size
         by_cases hlu : t < uhn
         · obtain ⟨adh, h, eh, hbh, hxh, qh⟩ := HHF.out.1.at hlu
           subst eh
           obtain ⟨R, hR⟩ : ∃ R, adh.add (t * 6) = R := ⟨_, rfl⟩
           rw [hR] at qh hbh
           have kw7 : Below w.heap.size w w7 := HKB6.out.trans (kb7.mono HKB6.out.size)
           have r0 : w7.cell? R = some (.int .i64 h.peer) := (kw7.cell hbh).trans (by have := qh 0 _ rfl; rwa [Bg.add_z R] at this)
           have hRw : R.block < w7.heap.size := by have := kw7.size; omega
           have HALL : Hid ((hfs.take (t + 1)).all (fun h => ag (a : Int) h.peer nm) = ((hfs.take t).all (fun h => ag (a : Int) h.peer nm) && ag (a : Int) h.peer nm)) := Lib.hid (all_one hxh)
           have CA2 := Lib.hid (fun W (hb : Below w6.heap.size w6 W) => CA.out (a : Int) h.peer W (HKB6.out.trans (hb.mono HKB6.out.size)))
           have hwt : IntKind.i64.wrap ((t : Int) + 1) = (t : Int) + 1 := by rw [IntKind.wrap_i64]; omega
           generalize ag (a : Int) h.peer nm = r at HALL CA2
           generalize h.peer = hp at r0 CA2
           clear qh hxh
           cases cl2 with
           | true =>
            have HREL : Hid (r = (cl && (hfs.take (t + 1)).all fun h => ag (a : Int) h.peer nm)) := Lib.hid (by rw [HALL.out, ← Bool.and_assoc, ← HC2.out, Bool.true_and])
            go_wp2_with (fail)
            refine wp_region_quietC_lit (KeptC w6 [(⟨w.heap.size, 0, none⟩, .slice (some adn) nn nc), (⟨w.heap.size, 1, none⟩, .slice (some adu) un uc), (⟨w.heap.size, 2, none⟩, .slice da dn dc), (⟨w.heap.size, 3, none⟩, .int .i64 nx), (⟨w.heap.size, 4, none⟩, .slice la ll lc), (⟨w.heap.size, 5, none⟩, .slice sa sl sc), (⟨w.heap.size, 6, none⟩, .int .i64 lost), (R, .int .i64 hp)] []) (by kernel_rfl) (by kernel_rfl) ?_ ?_
            · refine KeptC.drewn ?_
              exact Qk1 kb7
            repeat (first
             | go_big_quiet_skip
             | (go_big_quiet_want; (apply quietC_run); (· intro w' hw'; (have hk' := hw'; simp only [KeptC, List.forall_mem_cons] at hk'; go_split_ands); go_simp; first | done | rfl); (simp only [Act.put, List.setIfInBounds_toArray, List.set_cons_zero, List.set_cons_succ]; go_big_quiet_on))
             | (go_big_quiet_want; (apply quietC_call); (· intro w' hw'; go_simp; first | done | exact ⟨rfl, rfl⟩ | rfl); (· intro w' hw'; first | ((with_reducible refine (CA2.out _ hw'.lowV).mono ?_); rintro e w2 ⟨rfl, hb⟩; exact ⟨rfl, hw'.below hb⟩)); (simp only [Act.put, List.setIfInBounds_toArray, List.set_cons_zero, List.set_cons_succ]; go_big_quiet_on)))
            refine wpQuiet_nil ?_
            intro w9 hk9
            (have hk' := hk9; simp only [KeptC, List.forall_mem_cons] at hk'; go_split_ands); have hkB9 := hk9.1
            clear hk9
            go_wp2
            go_roundg (g3 - 1)
            case measure => omega
            case rel => exact ⟨t + 1, r, by omega, by go_num, rfl, HREL, (Qk1 hkB9)⟩
           | false =>
            have HREL : Hid (false = (cl && (hfs.take (t + 1)).all fun h => ag (a : Int) h.peer nm)) := Lib.hid (by rw [HALL.out, ← Bool.and_assoc, ← HC2.out, Bool.false_and])
            go_wp2_with (fail)
            refine wp_region_quietC_lit (KeptC w6 [(⟨w.heap.size, 0, none⟩, .slice (some adn) nn nc), (⟨w.heap.size, 1, none⟩, .slice (some adu) un uc), (⟨w.heap.size, 2, none⟩, .slice da dn dc), (⟨w.heap.size, 3, none⟩, .int .i64 nx), (⟨w.heap.size, 4, none⟩, .slice la ll lc), (⟨w.heap.size, 5, none⟩, .slice sa sl sc), (⟨w.heap.size, 6, none⟩, .int .i64 lost), (R, .int .i64 hp)] []) (by kernel_rfl) (by kernel_rfl) ?_ ?_
            · refine KeptC.drewn ?_
              exact Qk1 kb7
            repeat (first
             | go_big_quiet_skip
             | (go_big_quiet_want; (apply quietC_run); (· intro w' hw'; (have hk' := hw'; simp only [KeptC, List.forall_mem_cons] at hk'; go_split_ands); go_simp; first | done | rfl); (simp only [Act.put, List.setIfInBounds_toArray, List.set_cons_zero, List.set_cons_succ]; go_big_quiet_on))
             | (go_big_quiet_want; (apply quietC_call); (· intro w' hw'; go_simp; first | done | exact ⟨rfl, rfl⟩ | rfl); (· intro w' hw'; first | ((with_reducible refine (fail).mono ?_); rintro e w2 ⟨rfl, hb⟩; exact ⟨rfl, hw'.below hb⟩)); (simp only [Act.put, List.setIfInBounds_toArray, List.set_cons_zero, List.set_cons_succ]; go_big_quiet_on)))
            refine wpQuiet_nil ?_
            intro w9 hk9
            (have hk' := hk9; simp only [KeptC, List.forall_mem_cons] at hk'; go_split_ands); have hkB9 := hk9.1
            clear hk9
            go_wp2
            go_roundg (g3 - 1)
            case measure => omega
            case rel => exact ⟨t + 1, false, by omega, by go_num, rfl, HREL, (Qk1 hkB9)⟩
         · obtain rfl : t = uhn := by omega
           have HCA : Hid (cl2 = (cl && hfs.all fun h => ag (a : Int) h.peer nm)) := Lib.hid (by have h := HC2.out; rw [List.take_of_length_le (Nat.le_of_eq HHF.out.1.1)] at h; exact h)
           have ci := CI.out (a : Int)
           have cj := CI.out (a0 : Int)
           have hbf := HBF.out (a : Int) (a0 : Int)
           generalize ((ins (a : Int) nm).getD St0).ch = c at ci hbf
           generalize (ins (a : Int) nm).isSome = ok at ci hbf
           generalize ((ins (a0 : Int) nm).getD St0).ch = d at cj hbf
           generalize (ins (a0 : Int) nm).isSome = is at cj hbf
           obtain ⟨cn, cp, cw, cv, ck, cq⟩ := c
           obtain ⟨en, ep, ew, ev, ek, eq⟩ := d
           simp only [] at ci cj hbf
           have fc1 := fun W => rflows_eq ck W
           have fc2 := fun W => rflows_eq ek W
           generalize flowsK ck = f1 at fc1 hbf
           generalize flowsK ek = f2 at fc2 hbf
           have CI1 := Lib.hid ci
           have CJ1 := Lib.hid cj
           have FC1 := Lib.hid fc1
           have FC2 := Lib.hid fc2
           have HBF1 := Lib.hid hbf
           clear ci cj fc1 fc2 hbf
           have HNEW : Hid ((mem.take (j + 1)).all F = (cl2 && (ok && (is && (decide (cp = ep) && (decide (cw = ew) && (f1 && f2))))))) := Lib.hid (by rw [all_one HMA.out, HFE.out a, HU.out, HHD.out, HBF1.out, HCA.out, HC.out, Bool.and_assoc])
           have kw7 : Below w.heap.size w w7 := HKB6.out.trans (kb7.mono HKB6.out.size)
           go_wp2_with (fail)
           refine (CI1.out _ (Qb1 kw7)).mono ?_; rintro e w8 ⟨rfl, hb8⟩
           have hk8 : KeptC w6 [(⟨w.heap.size, 0, none⟩, .slice (some adn) nn nc), (⟨w.heap.size, 1, none⟩, .slice (some adu) un uc), (⟨w.heap.size, 2, none⟩, .slice da dn dc), (⟨w.heap.size, 3, none⟩, .int .i64 nx), (⟨w.heap.size, 4, none⟩, .slice la ll lc), (⟨w.heap.size, 5, none⟩, .slice sa sl sc), (⟨w.heap.size, 6, none⟩, .int .i64 lost)] [] w8 := by
            refine KeptC.below ?_ hb8
            exact Qk1 kb7
           simp only [KeptC, List.forall_mem_cons] at hk8; obtain ⟨kb8, ⟨kc8_0, kc8_1, kc8_2, kc8_3, kc8_4, kc8_5, kc8_6, _⟩, _⟩ := hk8
           have hz8 : w.heap.size < w8.heap.size := cell_lt kc8_0
           have hs8 := kb8.size
           clear hb8 kb7 hs7 hz7 kc7_0 kc7_1 kc7_2 kc7_3 kc7_4 kc7_5 kc7_6 kw7
           have h0g : 0 < gn := by omega
           have h0i : (0 : Int) < (gn : Int) := by omega
           go_upto_region 22 with (fail)
           refine lay1 (fun W => (W.cell? ⟨w.heap.size, 0, none⟩ = some (.slice (some adn) nn nc) ∧ W.cell? ⟨w.heap.size, 1, none⟩ = some (.slice (some adu) un uc) ∧ W.cell? ⟨w.heap.size, 2, none⟩ = some (.slice da dn dc) ∧ W.cell? ⟨w.heap.size, 3, none⟩ = some (.int .i64 nx) ∧ W.cell? ⟨w.heap.size, 4, none⟩ = some (.slice la ll lc) ∧ W.cell? ⟨w.heap.size, 5, none⟩ = some (.slice sa sl sc) ∧ W.cell? ⟨w.heap.size, 6, none⟩ = some (.int .i64 lost)) ∧ W.cell? ⟨w8.heap.size, 1, none⟩ = some (.int .i64 cp) ∧ W.cell? ⟨w8.heap.size, 2, none⟩ = some (.int .i64 cw) ∧ W.cell? ⟨w8.heap.size, 4, none⟩ = some (.int .i64 ck) ∧ Below w8.heap.size w8 W) ⟨⟨by go_simp, by go_simp, by go_simp, by go_simp, by go_simp, by go_simp, by go_simp⟩, by go_simp, by go_simp, by go_simp, Qb⟩ ?_
           rintro w9 ⟨⟨kc9_0, kc9_1, kc9_2, kc9_3, kc9_4, kc9_5, kc9_6⟩, u1, u2, u4, hb9⟩
           have hb69 : Below w6.heap.size w6 w9 := kb8.trans (hb9.mono kb8.size)
           have e9 : w9.cell? P = some (.slice (some b1) gn gc) := (hb69.cell hPw6).trans HE6.out
           have r9 : w9.cell? b1 = some (.int .i64 a0) := (hb69.cell hb2).trans HR6.out
           have hz9 : w.heap.size < w9.heap.size := cell_lt kc9_0
           have hq9 : w8.heap.size < w9.heap.size := cell_lt u1
           have kw9 : Below w.heap.size w w9 := HKB6.out.trans (hb69.mono HKB6.out.size)
           have HB69 := Lib.hid hb69
           have HKW9 := Lib.hid kw9
           clear hb9 kb8 hz8 hs8 kc8_0 kc8_1 kc8_2 kc8_3 kc8_4 kc8_5 kc8_6 hb69 kw9
           go_cut [15, 16] from 112 to 123 (fun s1 s2 w' => ∃ BV : Nat, s1 = .pointer (some ⟨BV, 0, none⟩) ∧ s2 = .bool is ∧ w9.heap.size ≤ BV ∧ KeptC w9 [(⟨w.heap.size, 0, none⟩, .slice (some adn) nn nc), (⟨w.heap.size, 1, none⟩, .slice (some adu) un uc), (⟨w.heap.size, 2, none⟩, .slice da dn dc), (⟨w.heap.size, 3, none⟩, .int .i64 nx), (⟨w.heap.size, 4, none⟩, .slice la ll lc), (⟨w.heap.size, 5, none⟩, .slice sa sl sc), (⟨w.heap.size, 6, none⟩, .int .i64 lost), (⟨w8.heap.size, 1, none⟩, .int .i64 cp), (⟨w8.heap.size, 2, none⟩, .int .i64 cw), (⟨w8.heap.size, 4, none⟩, .int .i64 ck), (⟨BV, 1, none⟩, .int .i64 ep), (⟨BV, 2, none⟩, .int .i64 ew), (⟨BV, 4, none⟩, .int .i64 ek)] [] w')
           case first =>
            as_aux_lemma =>
             have hL0 : (P : Addr).block < w9.heap.size := cell_lt (a := P) (by with_reducible assumption); have hL1 : (b1 : Addr).block < w9.heap.size := cell_lt (a := b1) (by with_reducible assumption)
             have kS : ∀ p q : World, (Below w9.heap.size w9 p ∧ p.cell? ⟨w.heap.size, 0, none⟩ = some (.slice (some adn) nn nc) ∧ p.cell? ⟨w.heap.size, 1, none⟩ = some (.slice (some adu) un uc) ∧ p.cell? ⟨w.heap.size, 2, none⟩ = some (.slice da dn dc) ∧ p.cell? ⟨w.heap.size, 3, none⟩ = some (.int .i64 nx) ∧ p.cell? ⟨w.heap.size, 4, none⟩ = some (.slice la ll lc) ∧ p.cell? ⟨w.heap.size, 5, none⟩ = some (.slice sa sl sc) ∧ p.cell? ⟨w.heap.size, 6, none⟩ = some (.int .i64 lost) ∧ p.cell? P = some (.slice (some b1) gn gc) ∧ p.cell? b1 = some (.int .i64 a0)) → Below p.heap.size p q → (Below w9.heap.size w9 q ∧ q.cell? ⟨w.heap.size, 0, none⟩ = some (.slice (some adn) nn nc) ∧ q.cell? ⟨w.heap.size, 1, none⟩ = some (.slice (some adu) un uc) ∧ q.cell? ⟨w.heap.size, 2, none⟩ = some (.slice da dn dc) ∧ q.cell? ⟨w.heap.size, 3, none⟩ = some (.int .i64 nx) ∧ q.cell? ⟨w.heap.size, 4, none⟩ = some (.slice la ll lc) ∧ q.cell? ⟨w.heap.size, 5, none⟩ = some (.slice sa sl sc) ∧ q.cell? ⟨w.heap.size, 6, none⟩ = some (.int .i64 lost) ∧ q.cell? P = some (.slice (some b1) gn gc) ∧ q.cell? b1 = some (.int .i64 a0)) := by
              rintro p q ⟨k0, k1, k2, k3, k4, k5, k6, k7, k8, k9⟩ hb
              exact ⟨k0.trans (hb.mono k0.size), (hb.cell (cell_lt k1)).trans k1, (hb.cell (cell_lt k2)).trans k2, (hb.cell (cell_lt k3)).trans k3, (hb.cell (cell_lt k4)).trans k4, (hb.cell (cell_lt k5)).trans k5, (hb.cell (cell_lt k6)).trans k6, (hb.cell (cell_lt k7)).trans k7, (hb.cell (cell_lt k8)).trans k8, (hb.cell (cell_lt k9)).trans k9⟩
             have KA : Hid (∀ (p : World) (o : Obj), (Below w9.heap.size w9 p ∧ p.cell? ⟨w.heap.size, 0, none⟩ = some (.slice (some adn) nn nc) ∧ p.cell? ⟨w.heap.size, 1, none⟩ = some (.slice (some adu) un uc) ∧ p.cell? ⟨w.heap.size, 2, none⟩ = some (.slice da dn dc) ∧ p.cell? ⟨w.heap.size, 3, none⟩ = some (.int .i64 nx) ∧ p.cell? ⟨w.heap.size, 4, none⟩ = some (.slice la ll lc) ∧ p.cell? ⟨w.heap.size, 5, none⟩ = some (.slice sa sl sc) ∧ p.cell? ⟨w.heap.size, 6, none⟩ = some (.int .i64 lost) ∧ p.cell? P = some (.slice (some b1) gn gc) ∧ p.cell? b1 = some (.int .i64 a0)) → (Below w9.heap.size w9 (p.alloc o) ∧ (p.alloc o).cell? ⟨w.heap.size, 0, none⟩ = some (.slice (some adn) nn nc) ∧ (p.alloc o).cell? ⟨w.heap.size, 1, none⟩ = some (.slice (some adu) un uc) ∧ (p.alloc o).cell? ⟨w.heap.size, 2, none⟩ = some (.slice da dn dc) ∧ (p.alloc o).cell? ⟨w.heap.size, 3, none⟩ = some (.int .i64 nx) ∧ (p.alloc o).cell? ⟨w.heap.size, 4, none⟩ = some (.slice la ll lc) ∧ (p.alloc o).cell? ⟨w.heap.size, 5, none⟩ = some (.slice sa sl sc) ∧ (p.alloc o).cell? ⟨w.heap.size, 6, none⟩ = some (.int .i64 lost) ∧ (p.alloc o).cell? P = some (.slice (some b1) gn gc) ∧ (p.alloc o).cell? b1 = some (.int .i64 a0))) := Lib.hid (fun p o h => kS p _ h ((Below.refl _ _).alloc (Nat.le_refl _) _))
             have KD : Hid (∀ (p : World), (Below w9.heap.size w9 p ∧ p.cell? ⟨w.heap.size, 0, none⟩ = some (.slice (some adn) nn nc) ∧ p.cell? ⟨w.heap.size, 1, none⟩ = some (.slice (some adu) un uc) ∧ p.cell? ⟨w.heap.size, 2, none⟩ = some (.slice da dn dc) ∧ p.cell? ⟨w.heap.size, 3, none⟩ = some (.int .i64 nx) ∧ p.cell? ⟨w.heap.size, 4, none⟩ = some (.slice la ll lc) ∧ p.cell? ⟨w.heap.size, 5, none⟩ = some (.slice sa sl sc) ∧ p.cell? ⟨w.heap.size, 6, none⟩ = some (.int .i64 lost) ∧ p.cell? P = some (.slice (some b1) gn gc) ∧ p.cell? b1 = some (.int .i64 a0)) → (Below w9.heap.size w9 p.drew ∧ p.drew.cell? ⟨w.heap.size, 0, none⟩ = some (.slice (some adn) nn nc) ∧ p.drew.cell? ⟨w.heap.size, 1, none⟩ = some (.slice (some adu) un uc) ∧ p.drew.cell? ⟨w.heap.size, 2, none⟩ = some (.slice da dn dc) ∧ p.drew.cell? ⟨w.heap.size, 3, none⟩ = some (.int .i64 nx) ∧ p.drew.cell? ⟨w.heap.size, 4, none⟩ = some (.slice la ll lc) ∧ p.drew.cell? ⟨w.heap.size, 5, none⟩ = some (.slice sa sl sc) ∧ p.drew.cell? ⟨w.heap.size, 6, none⟩ = some (.int .i64 lost) ∧ p.drew.cell? P = some (.slice (some b1) gn gc) ∧ p.drew.cell? b1 = some (.int .i64 a0))) := Lib.hid (fun p h => kS p _ h ((Below.refl _ _).drew))
             have KF : Hid (∀ (p : World) (b o : Nat) (u : Value), (Below w9.heap.size w9 p ∧ p.cell? ⟨w.heap.size, 0, none⟩ = some (.slice (some adn) nn nc) ∧ p.cell? ⟨w.heap.size, 1, none⟩ = some (.slice (some adu) un uc) ∧ p.cell? ⟨w.heap.size, 2, none⟩ = some (.slice da dn dc) ∧ p.cell? ⟨w.heap.size, 3, none⟩ = some (.int .i64 nx) ∧ p.cell? ⟨w.heap.size, 4, none⟩ = some (.slice la ll lc) ∧ p.cell? ⟨w.heap.size, 5, none⟩ = some (.slice sa sl sc) ∧ p.cell? ⟨w.heap.size, 6, none⟩ = some (.int .i64 lost) ∧ p.cell? P = some (.slice (some b1) gn gc) ∧ p.cell? b1 = some (.int .i64 a0)) → w9.heap.size ≤ b → (Below w9.heap.size w9 (p.setCell ⟨b, o, none⟩ u) ∧ (p.setCell ⟨b, o, none⟩ u).cell? ⟨w.heap.size, 0, none⟩ = some (.slice (some adn) nn nc) ∧ (p.setCell ⟨b, o, none⟩ u).cell? ⟨w.heap.size, 1, none⟩ = some (.slice (some adu) un uc) ∧ (p.setCell ⟨b, o, none⟩ u).cell? ⟨w.heap.size, 2, none⟩ = some (.slice da dn dc) ∧ (p.setCell ⟨b, o, none⟩ u).cell? ⟨w.heap.size, 3, none⟩ = some (.int .i64 nx) ∧ (p.setCell ⟨b, o, none⟩ u).cell? ⟨w.heap.size, 4, none⟩ = some (.slice la ll lc) ∧ (p.setCell ⟨b, o, none⟩ u).cell? ⟨w.heap.size, 5, none⟩ = some (.slice sa sl sc) ∧ (p.setCell ⟨b, o, none⟩ u).cell? ⟨w.heap.size, 6, none⟩ = some (.int .i64 lost) ∧ (p.setCell ⟨b, o, none⟩ u).cell? P = some (.slice (some b1) gn gc) ∧ (p.setCell ⟨b, o, none⟩ u).cell? b1 = some (.int .i64 a0))) := Lib.hid (by
              rintro p b o u ⟨k0, k1, k2, k3, k4, k5, k6, k7, k8, k9⟩ hbb
              exact ⟨k0.trans ((Below.refl _ _).setCell hbb _), (World.cell?_setCell_far _ _ _ _ (by simp only []; omega)).trans k1, (World.cell?_setCell_far _ _ _ _ (by simp only []; omega)).trans k2, (World.cell?_setCell_far _ _ _ _ (by simp only []; omega)).trans k3, (World.cell?_setCell_far _ _ _ _ (by simp only []; omega)).trans k4, (World.cell?_setCell_far _ _ _ _ (by simp only []; omega)).trans k5, (World.cell?_setCell_far _ _ _ _ (by simp only []; omega)).trans k6, (World.cell?_setCell_far _ _ _ _ (by simp only []; omega)).trans k7, (World.cell?_setCell_far _ _ _ _ (by simp only []; omega)).trans k8, (World.cell?_setCell_far _ _ _ _ (by simp only []; omega)).trans k9⟩)
             have KT : Hid (∀ (W : World) (BV : Nat), (Below w9.heap.size w9 W ∧ W.cell? ⟨w.heap.size, 0, none⟩ = some (.slice (some adn) nn nc) ∧ W.cell? ⟨w.heap.size, 1, none⟩ = some (.slice (some adu) un uc) ∧ W.cell? ⟨w.heap.size, 2, none⟩ = some (.slice da dn dc) ∧ W.cell? ⟨w.heap.size, 3, none⟩ = some (.int .i64 nx) ∧ W.cell? ⟨w.heap.size, 4, none⟩ = some (.slice la ll lc) ∧ W.cell? ⟨w.heap.size, 5, none⟩ = some (.slice sa sl sc) ∧ W.cell? ⟨w.heap.size, 6, none⟩ = some (.int .i64 lost) ∧ W.cell? P = some (.slice (some b1) gn gc) ∧ W.cell? b1 = some (.int .i64 a0)) → W.cell? ⟨BV, 1, none⟩ = some (.int .i64 ep) → W.cell? ⟨BV, 2, none⟩ = some (.int .i64 ew) → W.cell? ⟨BV, 4, none⟩ = some (.int .i64 ek) → KeptC w9 [(⟨w.heap.size, 0, none⟩, .slice (some adn) nn nc), (⟨w.heap.size, 1, none⟩, .slice (some adu) un uc), (⟨w.heap.size, 2, none⟩, .slice da dn dc), (⟨w.heap.size, 3, none⟩, .int .i64 nx), (⟨w.heap.size, 4, none⟩, .slice la ll lc), (⟨w.heap.size, 5, none⟩, .slice sa sl sc), (⟨w.heap.size, 6, none⟩, .int .i64 lost), (⟨w8.heap.size, 1, none⟩, .int .i64 cp), (⟨w8.heap.size, 2, none⟩, .int .i64 cw), (⟨w8.heap.size, 4, none⟩, .int .i64 ck), (⟨BV, 1, none⟩, .int .i64 ep), (⟨BV, 2, none⟩, .int .i64 ew), (⟨BV, 4, none⟩, .int .i64 ek)] [] W) := Lib.hid (by
              rintro W BV ⟨k0, k1, k2, k3, k4, k5, k6, k7, k8, k9⟩ v1 v2 v4
              exact KeptC.cons k1 (KeptC.cons k2 (KeptC.cons k3 (KeptC.cons k4 (KeptC.cons k5 (KeptC.cons k6 (KeptC.cons k7 (KeptC.cons ((k0.cell (cell_lt (a := ⟨w8.heap.size, 1, none⟩) (by with_reducible assumption))).trans (by with_reducible assumption)) (KeptC.cons ((k0.cell (cell_lt (a := ⟨w8.heap.size, 2, none⟩) (by with_reducible assumption))).trans (by with_reducible assumption)) (KeptC.cons ((k0.cell (cell_lt (a := ⟨w8.heap.size, 4, none⟩) (by with_reducible assumption))).trans (by with_reducible assumption)) (KeptC.cons v1 (KeptC.cons v2 (KeptC.cons v4 (KeptC.mk0 k0))))))))))))))
             have CJ3 : Hid (∀ W, (Below w9.heap.size w9 W ∧ W.cell? ⟨w.heap.size, 0, none⟩ = some (.slice (some adn) nn nc) ∧ W.cell? ⟨w.heap.size, 1, none⟩ = some (.slice (some adu) un uc) ∧ W.cell? ⟨w.heap.size, 2, none⟩ = some (.slice da dn dc) ∧ W.cell? ⟨w.heap.size, 3, none⟩ = some (.int .i64 nx) ∧ W.cell? ⟨w.heap.size, 4, none⟩ = some (.slice la ll lc) ∧ W.cell? ⟨w.heap.size, 5, none⟩ = some (.slice sa sl sc) ∧ W.cell? ⟨w.heap.size, 6, none⟩ = some (.int .i64 lost) ∧ W.cell? P = some (.slice (some b1) gn gc) ∧ W.cell? b1 = some (.int .i64 a0)) → Calls Tryz.prog 10 #[.agg #[.slice (some adn) nn nc, .slice (some adu) un uc, .slice da dn dc, .int .i64 nx, .slice la ll lc, .slice sa sl sc, .int .i64 lost], .int .i64 a0, .string nm] W fun e w' => e = .returned (.tuple #[ChV ⟨en, ep, ew, ev, ek, eq⟩, .bool is]) ∧ Below W.heap.size W w') := Lib.hid (fun W h => CJ1.out W (HKW9.out.trans (h.1.mono HKW9.out.size)))
             have KS := Lib.hid kS
             have HI : Hid (Below w9.heap.size w9 w9 ∧ w9.cell? ⟨w.heap.size, 0, none⟩ = some (.slice (some adn) nn nc) ∧ w9.cell? ⟨w.heap.size, 1, none⟩ = some (.slice (some adu) un uc) ∧ w9.cell? ⟨w.heap.size, 2, none⟩ = some (.slice da dn dc) ∧ w9.cell? ⟨w.heap.size, 3, none⟩ = some (.int .i64 nx) ∧ w9.cell? ⟨w.heap.size, 4, none⟩ = some (.slice la ll lc) ∧ w9.cell? ⟨w.heap.size, 5, none⟩ = some (.slice sa sl sc) ∧ w9.cell? ⟨w.heap.size, 6, none⟩ = some (.int .i64 lost) ∧ w9.cell? P = some (.slice (some b1) gn gc) ∧ w9.cell? b1 = some (.int .i64 a0)) := Lib.hid ⟨Below.refl _ _, by with_reducible assumption, by with_reducible assumption, by with_reducible assumption, by with_reducible assumption, by with_reducible assumption, by with_reducible assumption, by with_reducible assumption, by with_reducible assumption, by with_reducible assumption⟩
             clear kS
             go_region_held3 (fun w' => Below w9.heap.size w9 w' ∧ w'.cell? ⟨w.heap.size, 0, none⟩ = some (.slice (some adn) nn nc) ∧ w'.cell? ⟨w.heap.size, 1, none⟩ = some (.slice (some adu) un uc) ∧ w'.cell? ⟨w.heap.size, 2, none⟩ = some (.slice da dn dc) ∧ w'.cell? ⟨w.heap.size, 3, none⟩ = some (.int .i64 nx) ∧ w'.cell? ⟨w.heap.size, 4, none⟩ = some (.slice la ll lc) ∧ w'.cell? ⟨w.heap.size, 5, none⟩ = some (.slice sa sl sc) ∧ w'.cell? ⟨w.heap.size, 6, none⟩ = some (.int .i64 lost) ∧ w'.cell? P = some (.slice (some b1) gn gc) ∧ w'.cell? b1 = some (.int .i64 a0)) (repeat (first | with_reducible assumption | with_reducible exact HI.out | with_reducible refine KD.out _ ?_ | with_reducible refine KA.out _ _ ?_ | with_reducible refine KF.out _ _ _ _ ?_ (by omega) | with_reducible refine KS.out _ _ ?_ (by with_reducible assumption))) (first | ((with_reducible refine (CJ3.out _ (by with_reducible assumption)).mono ?_); rintro e w20 ⟨rfl, hb20⟩; have hS20 := KS.out _ _ (by with_reducible assumption) hb20; obtain ⟨hc20, hf20⟩ := bcell hb20; have hz20 := hb20.size; (try simp at hz20); (try have hq20 : w9.heap.size < w20.heap.size := (by omega))))
             all_goals
              go_wp2_with (fail)
              go_meet
              first
              | exact ⟨w9.heap.size, rfl, rfl, by omega, KT.out _ _ (by with_reducible assumption) (by go_simp) (by go_simp) (by go_simp)⟩
              | exact ⟨w20.heap.size, rfl, rfl, by omega, KT.out _ _ (by with_reducible assumption) (by go_simp) (by go_simp) (by go_simp)⟩
           case rest =>
            as_aux_lemma =>
             obtain ⟨BV, rfl, rfl, hBV, hK⟩ := hcut
             clear kc9_0 kc9_1 kc9_2 kc9_3 kc9_4 kc9_5 kc9_6 u1 u2 u4 e9 r9
             simp only [KeptC, List.forall_mem_cons] at hK; obtain ⟨kb10, ⟨kc10_0, kc10_1, kc10_2, kc10_3, kc10_4, kc10_5, kc10_6, kc10_7, kc10_8, kc10_9, kc10_10, kc10_11, kc10_12, _⟩, _⟩ := hK
             obtain ⟨w10, h⟩ : ∃ w10, w10 = wc := ⟨_, rfl⟩
             subst h
             have hb610 : Below w6.heap.size w6 w10 := HB69.out.trans (kb10.mono HB69.out.size)
             have kw10 : Below w.heap.size w w10 := HKB6.out.trans (hb610.mono HKB6.out.size)
             have HX10 := Lib.hid (Lib.hid (HX6.out.below hb610 hy6))
             have HA10 := Lib.hid (Lib.hid (HA6.out.trans (Away.of hb610 hy6)))
             have hBX : w8.heap.size ≠ BV := by omega
             have hBX2 : BV ≠ w8.heap.size := by omega
             have hwz : w.heap.size < w10.heap.size := cell_lt kc10_0
             clear hb610 kb10
             cases cl2 with
             | false =>
              as_aux_lemma =>
               go_wp2_with ((go_at_call 29; first | ((with_reducible refine (FC1.out _).mono ?_); rintro e wq ⟨rfl, rfl⟩) | ((with_reducible refine (FC2.out _).mono ?_); rintro e wq ⟨rfl, rfl⟩)))
               go_roundg (g2 - 1)
               case measure => omega
               case rel => exact ⟨j + 1, _, by omega, by go_num, rfl, Lib.hid (by rw [HNEW.out]; first | rfl | (simp [*]; done)), HX10.out, HA10.out, (Qk1 kw10)⟩
             | true =>
              cases ok with
              | false =>
               as_aux_lemma =>
                go_wp2_with ((go_at_call 29; first | ((with_reducible refine (FC1.out _).mono ?_); rintro e wq ⟨rfl, rfl⟩) | ((with_reducible refine (FC2.out _).mono ?_); rintro e wq ⟨rfl, rfl⟩)))
                go_roundg (g2 - 1)
                case measure => omega
                case rel => exact ⟨j + 1, _, by omega, by go_num, rfl, Lib.hid (by rw [HNEW.out]; first | rfl | (simp [*]; done)), HX10.out, HA10.out, (Qk1 kw10)⟩
              | true =>
               cases is with
               | false =>
                as_aux_lemma =>
                 go_wp2_with ((go_at_call 29; first | ((with_reducible refine (FC1.out _).mono ?_); rintro e wq ⟨rfl, rfl⟩) | ((with_reducible refine (FC2.out _).mono ?_); rintro e wq ⟨rfl, rfl⟩)))
                 go_roundg (g2 - 1)
                 case measure => omega
                 case rel => exact ⟨j + 1, _, by omega, by go_num, rfl, Lib.hid (by rw [HNEW.out]; first | rfl | (simp [*]; done)), HX10.out, HA10.out, (Qk1 kw10)⟩
               | true =>
                by_cases hE3 : cp = ep
                rotate_left
                · have hq3 : (cp == ep) = false := by simpa using hE3
                  go_wp2_with ((go_at_call 29; first | ((with_reducible refine (FC1.out _).mono ?_); rintro e wq ⟨rfl, rfl⟩) | ((with_reducible refine (FC2.out _).mono ?_); rintro e wq ⟨rfl, rfl⟩)))
                  go_roundg (g2 - 1)
                  case measure => omega
                  case rel => exact ⟨j + 1, _, by omega, by go_num, rfl, Lib.hid (by rw [HNEW.out]; first | rfl | (simp [*]; done)), HX10.out, HA10.out, (Qk1 kw10)⟩
                · subst hE3
                  by_cases hE4 : cw = ew
                  rotate_left
                  · have hq4 : (cw == ew) = false := by simpa using hE4
                    go_wp2_with ((go_at_call 29; first | ((with_reducible refine (FC1.out _).mono ?_); rintro e wq ⟨rfl, rfl⟩) | ((with_reducible refine (FC2.out _).mono ?_); rintro e wq ⟨rfl, rfl⟩)))
                    go_roundg (g2 - 1)
                    case measure => omega
                    case rel => exact ⟨j + 1, _, by omega, by go_num, rfl, Lib.hid (by rw [HNEW.out]; first | rfl | (simp [*]; done)), HX10.out, HA10.out, (Qk1 kw10)⟩
                  · subst hE4
                    cases f1 with
                    | false =>
                     as_aux_lemma =>
                      go_wp2_with ((go_at_call 29; first | ((with_reducible refine (FC1.out _).mono ?_); rintro e wq ⟨rfl, rfl⟩) | ((with_reducible refine (FC2.out _).mono ?_); rintro e wq ⟨rfl, rfl⟩)))
                      go_roundg (g2 - 1)
                      case measure => omega
                      case rel => exact ⟨j + 1, _, by omega, by go_num, rfl, Lib.hid (by rw [HNEW.out]; first | rfl | (simp [*]; done)), HX10.out, HA10.out, (Qk1 kw10)⟩
                    | true =>
                     cases f2 with
                     | false =>
                      as_aux_lemma =>
                       go_wp2_with ((go_at_call 29; first | ((with_reducible refine (FC1.out _).mono ?_); rintro e wq ⟨rfl, rfl⟩) | ((with_reducible refine (FC2.out _).mono ?_); rintro e wq ⟨rfl, rfl⟩)))
                       go_roundg (g2 - 1)
                       case measure => omega
                       case rel => exact ⟨j + 1, _, by omega, by go_num, rfl, Lib.hid (by rw [HNEW.out]; first | rfl | (simp [*]; done)), HX10.out, HA10.out, (Qk1 kw10)⟩
                     | true =>
                      as_aux_lemma =>
                       go_wp2_with ((go_at_call 29; first | ((with_reducible refine (FC1.out _).mono ?_); rintro e wq ⟨rfl, rfl⟩) | ((with_reducible refine (FC2.out _).mono ?_); rintro e wq ⟨rfl, rfl⟩)))
                       go_roundg (g2 - 1)
                       case measure => omega
                       case rel => exact ⟨j + 1, _, by omega, by go_num, rfl, Lib.hid (by rw [HNEW.out]; first | rfl | (simp [*]; done)), HX10.out, HA10.out, (Qk1 kw10)⟩
theorem viewGroups_lifted (os : Os) (started : os.Started) (H : Type) (enc : TypeId × Value → H) :
    ReturnsInHanded {} Tryz.checked os 6 .any (Rows.viewGroupsSpec.pre6 enc Tryz.prog Tryz.f6 Rows.viewGroupsRow.domain false) (Rows.viewGroupsSpec.post enc Tryz.prog Tryz.f6 false true false false) := by
 refine returnsInHanded_of_change_sized (C := Tryz.checked) own started (by kernel_rfl) Tryz.func6
  (ChangeSpec.witness6 (enc := enc) (C := Tryz.checked) false ⟨#[], #[.agg #[.slice none 0 0, .slice none 0 0, .slice none 0 0, .int .i64 0, .slice none 0 0, .slice none 0 0, .int .i64 0], .string ⟨#[]⟩], []⟩ 8 (by kernel_rfl) (by kernel_rfl) (by kernel_rfl) (by kernel_rfl)) ?_
 intro W base args ds gs before hval hW _ hsz _
 have hW' := hW
 obtain ⟨p, q, hA, hV, rfl, hfz, hnd⟩ := hW
 obtain ⟨rfl, rfl⟩ := trodVars_none hV
 rw [Tryz.params6] at hA hval
 obtain ⟨v0, vs0, d0, ds0, p0, q0, hargs, rfl, rfl, h0, r0⟩ := trodAll_cons hA
 obtain ⟨v1, vs1, d1, ds1, p1, q1, rfl, rfl, rfl, h1, r1⟩ := trodAll_cons r0
 obtain ⟨rfl, rfl, rfl⟩ := trodAll_nil r1
 obtain rfl : args = #[v0, v1] := by cases args; simp_all
 obtain ⟨x, dks, dgs, svs, rfl, hx⟩ := open_world hsz (j := 0) rfl rfl (hval 0 _ v0 rfl rfl) h0
 obtain ⟨nm, rfl, _, _, wx⟩ := open_string Tryz.underlying9 (hval 1 _ v1 rfl rfl) h1
 refine (viewGroups_any x dks dgs svs nm W hx).mono fun e W' ⟨he, hg⟩ => ?_
 subst he
 exact ⟨_, rfl, law_post laidOut rfl (by kernel_rfl) rfl Tryz.underlying4 rfl hW' hg⟩

theorem viewGroups_holds : Rows.ViewGroupsSaid :=
 OpenClaim.holds_of_wide 6 Tryz.f6 rfl rfl rfl rfl rfl rfl rfl ⟨rfl, rfl, rfl, rfl, rfl⟩ rfl rfl rfl rfl rfl (by kernel_rfl) Tryz.func6 (by kernel_rfl)
  (of_decide_eq_true (by kernel_rfl)) (by unfold Func.isWrapper; first | (rw [if_pos (by decide +kernel)]; kernel_rfl) | (rw [if_neg (by decide +kernel)]; exact ⟨rfl, rfl⟩))
  (fun os started H enc _ => viewGroups_lifted os started H enc)

end Go.Proofs.YtkfodkbgmpbmfaaGreat
