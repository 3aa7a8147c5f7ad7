/- ViewEdges: of any world, any two numbers and any name: view's Instance, Held, Agreed, Edges and Open answer as the document says; an edge is held and agreed both ways alike; what is agreed is held. For every input, without a condition. -/
import Derived.WalkKit
import Derived.WalkSpells
import Derived.WalkLawsBesides
import Derived.Deep.QuietTactic
import Derived.BigQuiet
import Derived.Deep.RegionHeld
import Derived.StillTail
import Derived.RangeFuncNested
import Derived.RangeFuncBound
import Derived.RangeFuncCalls
import Derived.RangeFuncLeaves
import Derived.RangeFuncBox
import Derived.Shelf.Abstract
import Derived.Shelf.RegionOpen
import Derived.OwnWalkIn
import Derived.TacticsInMore
import Derived.LoopNIn
import Derived.LoopIn
import Derived.OrdersIn
import Derived.Test.YtkfodkbgmpbmfaaGreatRows
import Derived.WalkMore
import Derived.Lib.Hide
import Derived.Laws.Strings
import Derived.Below
import Derived.Laws.OwnMore
import Derived.Deep.AppendLies
import Derived.Deep.Draws
import Derived.ChangeSame
import Derived.Deep.Slices
import Derived.Deep.Fields
import Derived.SizedLaws
import Derived.Lib.SmallJoins
import Derived.OpenShut
import Derived.Maps.AppendAt
import Derived.RegionTactic
import Derived.OwnWalk
import Derived.Lib.SliceRun
import Derived.Deep.RegionHeld3
import Derived.Laws.EntriesVeiled
import Derived.Outline
import Derived.Laws.IdiomCopy
import Derived.RowKit
import Derived.Maps.OwnIn
import Derived.Deep.OwnRows
import Derived.Deep.RegionLaw
import Derived.Deep.Cut
import Derived.Deep.CutRange
import Derived.Deep.DeepAppendWide
import Derived.Lib.Mul64
import Derived.Shelf.Spec.BitsCarry
import Derived.Laws.Bits64b
import Derived.Shelf.SlSortCmp.WholeK
import Derived.Shelf.SlicesG.Cmp
import Derived.Test.YtkfodkbgmpbmfaaGreatProg
import Derived.Shelf.SlSortCmp.NoneTotal
import Derived.Laws.BytesString
import Derived.Deep.MidRow
import Derived.Laws.ResultCell
import Derived.Shelf.SlGeneric
import Derived.Ground.SlgmProg
import Derived.Shelf.SortM.Plain
import Derived.Sort.OwnSortedInts
import Derived.ProofKit
import Derived.ChangeMaps5
import Derived.Test.YtkfodkbgmpbmfaaGreatB01
import Derived.Test.YtkfodkbgmpbmfaaGreatB02
import Derived.Test.YtkfodkbgmpbmfaaGreatB03
import Derived.Test.YtkfodkbgmpbmfaaGreatB04
import Derived.Test.YtkfodkbgmpbmfaaGreatB05
import Derived.Test.YtkfodkbgmpbmfaaGreatB06
import Derived.Test.YtkfodkbgmpbmfaaGreatB07
import Derived.Test.YtkfodkbgmpbmfaaGreatB08
import Derived.Test.YtkfodkbgmpbmfaaGreatB09
import Derived.Test.YtkfodkbgmpbmfaaGreatB10
import Derived.Test.YtkfodkbgmpbmfaaGreatB11
import Derived.Test.YtkfodkbgmpbmfaaGreatB12
import Derived.Test.YtkfodkbgmpbmfaaGreatB13
import Derived.Test.YtkfodkbgmpbmfaaGreatB14
import Derived.Test.YtkfodkbgmpbmfaaGreatB15
import Derived.Test.YtkfodkbgmpbmfaaGreatB16
import Derived.Test.YtkfodkbgmpbmfaaGreatB17
import Derived.Test.YtkfodkbgmpbmfaaGreatB18
import Derived.Test.YtkfodkbgmpbmfaaGreatB19
import Derived.Test.YtkfodkbgmpbmfaaGreatB20
import Derived.Test.YtkfodkbgmpbmfaaGreatB21
import Derived.Test.YtkfodkbgmpbmfaaGreatB22
import Derived.Test.YtkfodkbgmpbmfaaGreatB23
import Derived.Test.YtkfodkbgmpbmfaaGreatB24
import Derived.Test.YtkfodkbgmpbmfaaGreatB25
import Derived.Test.YtkfodkbgmpbmfaaGreatB26
import Derived.Test.YtkfodkbgmpbmfaaGreatB27
import Derived.Test.YtkfodkbgmpbmfaaGreatB28
import Derived.Test.YtkfodkbgmpbmfaaGreatB29
import Derived.Test.YtkfodkbgmpbmfaaGreatB30
import Derived.Test.YtkfodkbgmpbmfaaGreatB31
import Derived.Test.YtkfodkbgmpbmfaaGreatB32
import Derived.Test.YtkfodkbgmpbmfaaGreatB33
import Derived.Test.YtkfodkbgmpbmfaaGreatB34
import Derived.Test.YtkfodkbgmpbmfaaGreatB35
import Derived.Test.YtkfodkbgmpbmfaaGreatB36
import Derived.Test.YtkfodkbgmpbmfaaGreatB37
import Derived.Test.YtkfodkbgmpbmfaaGreatB38
import Derived.Test.YtkfodkbgmpbmfaaGreatB39
import Derived.Test.YtkfodkbgmpbmfaaGreatB40
import Derived.Test.YtkfodkbgmpbmfaaGreatB41
import Derived.Test.YtkfodkbgmpbmfaaGreatB42
import Derived.Test.YtkfodkbgmpbmfaaGreatE01
import Derived.Test.YtkfodkbgmpbmfaaGreatE02
set_option linter.unusedVariables false
set_option linter.unusedSimpArgs false
namespace Go.Proofs.YtkfodkbgmpbmfaaGreat
open Go.ChangeShapes Go.WideShapes Go.ChangeAt Go.RowKit Go.Shelf Go.Deep Go.Joins Go.ChangeMaps
set_option linter.unusedVariables false
set_option linter.unusedSimpArgs false
set_option maxRecDepth 100000
theorem agreedB_symm (x : Wd) (a b : Int) (nm : ByteArray) : agreedB x a b nm = agreedB x b a nm := by
 unfold agreedB
 rw [heldB_symm x a b]
 have hb : bothB x a b nm = bothB x b a nm := by
  unfold bothB
  cases instS x a nm <;> cases instS x b nm <;> simp only []
  rename_i c d
  unfold sameC
  have e1 : decide (c.ch.ep = d.ch.ep) = decide (d.ch.ep = c.ch.ep) := by rw [decide_eq_decide]; exact eq_comm
  have e2 : decide (c.ch.who = d.ch.who) = decide (d.ch.who = c.ch.who) := by rw [decide_eq_decide]; exact eq_comm
  rw [e1, e2, Bool.and_comm (flowsK c.ch.kd)]
 rw [hb]
 cases upN x a <;> cases upN x b <;> simp only []
 rename_i u v
 have e : regEq (regN u v.id nm) (regN v u.id nm) = regEq (regN v u.id nm) (regN u v.id nm) := by
  unfold regEq
  have e1 : ∀ p q : Int, decide (p = q) = decide (q = p) := fun p q => by rw [decide_eq_decide]; exact eq_comm
  rw [e1 (regN u v.id nm).ver, e1 (regN u v.id nm).wr, e1 (regN u v.id nm).flow]
 rw [e]
theorem take_at {l : List Oper} {i : Nat} {o : Oper} {r : List Oper} (h : l.drop i = o :: r) : l.toArray[i]? = some o := by
 have h2 := List.getElem?_drop (xs := l) (i := i) (j := 0)
 rw [h] at h2
 simpa using h2.symm
theorem agreedB_held {x : Wd} {a b : Int} {nm : ByteArray} (h : heldB x a b = false) : agreedB x a b nm = false := regEq_off (.inl h)
set_option maxHeartbeats 16000000 in
theorem viewEdges_any (x : Wd) (dks : List Sl) (dgs : List Bg.Dg) (svs : List Bg.LK) (a b : Int) (nm : ByteArray) (w : World) (hx : WdAll w x dks dgs svs) :
    Calls Tryz.prog 3 #[WdV x, .int .i64 a, .int .i64 b, .string nm] w fun e w' => e = .returned (.bool true) ∧ Below w.heap.size w w' := by
 have CF := Lib.hid (fun W (hb : Below w.heap.size w W) => wdfit_any x dks dgs svs W (hx.below hb))
 have HOK := Lib.hid (fun (h : FitW x) => (⟨hx.cells, h⟩ : WdOk w x))
 clear hx
 go_enter Tryz.func3, Tryz.ntmps3
 go_wp2_with (fail)
 refine (CF.out _ Qb).mono ?_; rintro e w1 ⟨bo, rfl, hF, hb1⟩
 have hk1 : KeptC w [(⟨w.heap.size, 0, none⟩, .slice x.na x.nn x.nc), (⟨w.heap.size, 1, none⟩, .slice x.ua x.un x.uc), (⟨w.heap.size, 2, none⟩, .slice x.da x.dn x.dc), (⟨w.heap.size, 3, none⟩, .int .i64 x.nx), (⟨w.heap.size, 4, none⟩, .slice x.la x.ll x.lc), (⟨w.heap.size, 5, none⟩, .slice x.sa x.sl x.sc), (⟨w.heap.size, 6, none⟩, .int .i64 x.lost)] [] w1 := by
  refine KeptC.below ?_ hb1
  exact Qk
 simp only [KeptC, List.forall_mem_cons] at hk1; obtain ⟨kb1, ⟨kc1_0, kc1_1, kc1_2, kc1_3, kc1_4, kc1_5, kc1_6, _⟩, _⟩ := hk1
 have hz1 : w.heap.size < w1.heap.size := cell_lt kc1_0
 clear hb1 CF
 cases bo with
 | false =>
  clear HOK hF
  go_wp2_with (fail)
  refine (awake_any _).mono ?_; rintro e w2 ⟨rfl, hb2⟩
  go_wp2
  go_ret
  exact ⟨rfl, (Qb2 hb2 kb1)⟩
 | true =>
  have hok := HOK.out (hF rfl)
  clear HOK hF
  have ci := (fun W (hb : Below w.heap.size w W) => inst_any x a nm W (hok.below hb))
  have cj := (fun W (hb : Below w.heap.size w W) => rinst_any x a nm W (hok.below hb))
  have ch := (fun W (hb : Below w.heap.size w W) => held_any x a b W (hok.below hb))
  have cg := (fun W (hb : Below w.heap.size w W) => agreed_any x a b nm W (hok.below hb))
  have crh := (fun W (hb : Below w.heap.size w W) => rheld_any x a b W (hok.below hb))
  have crg := (fun W (hb : Below w.heap.size w W) => ragreed_any x a b nm W (hok.below hb))
  have hhg : heldB x a b = true ∨ agreedB x a b nm = false := by
   cases h : heldB x a b with
   | true => exact .inl rfl
   | false => exact .inr (agreedB_held h)
  have HB1 : Hid (∀ W, (Below w.heap.size w W ∧ W.cell? ⟨w.heap.size, 0, none⟩ = some (.slice x.na x.nn x.nc) ∧ W.cell? ⟨w.heap.size, 1, none⟩ = some (.slice x.ua x.un x.uc) ∧ W.cell? ⟨w.heap.size, 2, none⟩ = some (.slice x.da x.dn x.dc) ∧ W.cell? ⟨w.heap.size, 3, none⟩ = some (.int .i64 x.nx) ∧ W.cell? ⟨w.heap.size, 4, none⟩ = some (.slice x.la x.ll x.lc) ∧ W.cell? ⟨w.heap.size, 5, none⟩ = some (.slice x.sa x.sl x.sc) ∧ W.cell? ⟨w.heap.size, 6, none⟩ = some (.int .i64 x.lost)) → Calls Tryz.prog 17 #[WdV x] W fun e w' => ∃ A c, e = .returned (.slice A (allE (heldN x) x.nn x.nn).length c) ∧ RowsE Bg.encL 2 w' w'.heap.size A (allE (heldN x) x.nn x.nn).length (allE (heldN x) x.nn x.nn) ∧ Below W.heap.size W w') := Lib.hid (fun W hS => (edges_any x W (hok.below hS.1)).mono (fun e w' ⟨A, c, he, ho, hb⟩ => ⟨A, c, he, own_lk ho rfl, hb⟩))
  have HB2 : Hid (∀ W, (Below w.heap.size w W ∧ W.cell? ⟨w.heap.size, 0, none⟩ = some (.slice x.na x.nn x.nc) ∧ W.cell? ⟨w.heap.size, 1, none⟩ = some (.slice x.ua x.un x.uc) ∧ W.cell? ⟨w.heap.size, 2, none⟩ = some (.slice x.da x.dn x.dc) ∧ W.cell? ⟨w.heap.size, 3, none⟩ = some (.int .i64 x.nx) ∧ W.cell? ⟨w.heap.size, 4, none⟩ = some (.slice x.la x.ll x.lc) ∧ W.cell? ⟨w.heap.size, 5, none⟩ = some (.slice x.sa x.sl x.sc) ∧ W.cell? ⟨w.heap.size, 6, none⟩ = some (.int .i64 x.lost)) → Calls Tryz.prog 18 #[WdV x] W fun e w' => ∃ A c, e = .returned (.slice A (allE (heldN x) x.nn x.nn).length c) ∧ RowsE Bg.encL 2 w' w'.heap.size A (allE (heldN x) x.nn x.nn).length (allE (heldN x) x.nn x.nn) ∧ Below W.heap.size W w') := Lib.hid (fun W hS => (redges_any x W (hok.below hS.1)).mono (fun e w' ⟨A, c, he, ho, hb⟩ => ⟨A, c, he, own_lk ho rfl, hb⟩))
  have HB3 : Hid (∀ W, (Below w.heap.size w W ∧ W.cell? ⟨w.heap.size, 0, none⟩ = some (.slice x.na x.nn x.nc) ∧ W.cell? ⟨w.heap.size, 1, none⟩ = some (.slice x.ua x.un x.uc) ∧ W.cell? ⟨w.heap.size, 2, none⟩ = some (.slice x.da x.dn x.dc) ∧ W.cell? ⟨w.heap.size, 3, none⟩ = some (.int .i64 x.nx) ∧ W.cell? ⟨w.heap.size, 4, none⟩ = some (.slice x.la x.ll x.lc) ∧ W.cell? ⟨w.heap.size, 5, none⟩ = some (.slice x.sa x.sl x.sc) ∧ W.cell? ⟨w.heap.size, 6, none⟩ = some (.int .i64 x.lost)) → Calls Tryz.prog 19 #[WdV x, .string nm] W fun e w' => ∃ A c, e = .returned (.slice A ((allE (heldN x) x.nn x.nn).filter (openP x nm)).length c) ∧ RowsE Bg.encL 2 w' w'.heap.size A ((allE (heldN x) x.nn x.nn).filter (openP x nm)).length ((allE (heldN x) x.nn x.nn).filter (openP x nm)) ∧ Below W.heap.size W w') := Lib.hid (fun W hS => (open_any x nm W (hok.below hS.1)).mono (fun e w' ⟨A, c, he, ho, hb⟩ => ⟨A, c, he, own_lk ho rfl, hb⟩))
  have HB4 : Hid (∀ W, (Below w.heap.size w W ∧ W.cell? ⟨w.heap.size, 0, none⟩ = some (.slice x.na x.nn x.nc) ∧ W.cell? ⟨w.heap.size, 1, none⟩ = some (.slice x.ua x.un x.uc) ∧ W.cell? ⟨w.heap.size, 2, none⟩ = some (.slice x.da x.dn x.dc) ∧ W.cell? ⟨w.heap.size, 3, none⟩ = some (.int .i64 x.nx) ∧ W.cell? ⟨w.heap.size, 4, none⟩ = some (.slice x.la x.ll x.lc) ∧ W.cell? ⟨w.heap.size, 5, none⟩ = some (.slice x.sa x.sl x.sc) ∧ W.cell? ⟨w.heap.size, 6, none⟩ = some (.int .i64 x.lost)) → Calls Tryz.prog 20 #[WdV x, .string nm] W fun e w' => ∃ A c, e = .returned (.slice A ((allE (heldN x) x.nn x.nn).filter (openP x nm)).length c) ∧ RowsE Bg.encL 2 w' w'.heap.size A ((allE (heldN x) x.nn x.nn).filter (openP x nm)).length ((allE (heldN x) x.nn x.nn).filter (openP x nm)) ∧ Below W.heap.size W w') := Lib.hid (fun W hS => (ropen_any x nm W (hok.below hS.1)).mono (fun e w' ⟨A, c, he, ho, hb⟩ => ⟨A, c, he, own_lk ho rfl, hb⟩))
  have HB5 : Hid (∀ W, (Below w.heap.size w W ∧ W.cell? ⟨w.heap.size, 0, none⟩ = some (.slice x.na x.nn x.nc) ∧ W.cell? ⟨w.heap.size, 1, none⟩ = some (.slice x.ua x.un x.uc) ∧ W.cell? ⟨w.heap.size, 2, none⟩ = some (.slice x.da x.dn x.dc) ∧ W.cell? ⟨w.heap.size, 3, none⟩ = some (.int .i64 x.nx) ∧ W.cell? ⟨w.heap.size, 4, none⟩ = some (.slice x.la x.ll x.lc) ∧ W.cell? ⟨w.heap.size, 5, none⟩ = some (.slice x.sa x.sl x.sc) ∧ W.cell? ⟨w.heap.size, 6, none⟩ = some (.int .i64 x.lost)) → Calls Tryz.prog 12 #[WdV x, .int .i64 b, .int .i64 a] W fun e w' => e = .returned (.bool (heldB x a b)) ∧ Below W.heap.size W w') := Lib.hid (fun W hS => by rw [heldB_symm x a b]; exact held_any x b a W (hok.below hS.1))
  have HB6 : Hid (∀ W, (Below w.heap.size w W ∧ W.cell? ⟨w.heap.size, 0, none⟩ = some (.slice x.na x.nn x.nc) ∧ W.cell? ⟨w.heap.size, 1, none⟩ = some (.slice x.ua x.un x.uc) ∧ W.cell? ⟨w.heap.size, 2, none⟩ = some (.slice x.da x.dn x.dc) ∧ W.cell? ⟨w.heap.size, 3, none⟩ = some (.int .i64 x.nx) ∧ W.cell? ⟨w.heap.size, 4, none⟩ = some (.slice x.la x.ll x.lc) ∧ W.cell? ⟨w.heap.size, 5, none⟩ = some (.slice x.sa x.sl x.sc) ∧ W.cell? ⟨w.heap.size, 6, none⟩ = some (.int .i64 x.lost)) → Calls Tryz.prog 13 #[WdV x, .int .i64 b, .int .i64 a, .string nm] W fun e w' => e = .returned (.bool (agreedB x a b nm)) ∧ Below W.heap.size W w') := Lib.hid (fun W hS => by rw [agreedB_symm x a b]; exact agreed_any x b a nm W (hok.below hS.1))
  have hle := allE_sq (heldN x) x.nn
  have hln : (allE (heldN x) x.nn x.nn).length ≤ 1000 := by have h3 : x.nn ≤ 16 := by have h1 := hok.len.1; have h2 := hok.fit.n1; omega
                                                            have h4 : x.nn * x.nn ≤ 16 * 16 := Nat.mul_le_mul h3 h3
                                                            omega
  have hlm : ((allE (heldN x) x.nn x.nn).filter (openP x nm)).length ≤ 1000 := Nat.le_trans (List.length_filter_le _ _) hln
  generalize hL1 : (allE (heldN x) x.nn x.nn).filter (openP x nm) = L2 at HB3 HB4 hlm
  clear hL1
  generalize allE (heldN x) x.nn x.nn = L1 at HB1 HB2 hln
  generalize hN1 : L1.length = N1 at HB1 HB2 hln
  generalize hN2 : L2.length = N2 at HB3 HB4 hlm
  have CS1 := Lib.hid (fun (A1 A2 : Option Addr) (c1 c2 : Nat) W (h1 : RowsE Bg.encL 2 W W.heap.size A1 N1 L1) (h2 : RowsE Bg.encL 2 W W.heap.size A2 N1 L1) => samel_any A1 A2 N1 c1 N1 c2 L1 L1 W h1 h2 hln rfl)
  have CS2 := Lib.hid (fun (A1 A2 : Option Addr) (c1 c2 : Nat) W (h1 : RowsE Bg.encL 2 W W.heap.size A1 N2 L2) (h2 : RowsE Bg.encL 2 W W.heap.size A2 N2 L2) => samel_any A1 A2 N2 c1 N2 c2 L2 L2 W h1 h2 hlm rfl)
  have CAW := Lib.hid (fun W => awake_any W)
  clear hok hle hlm hln hN1 hN2
  generalize heldB x a b = h at *
  generalize agreedB x a b nm = g at *
  generalize ((instS x a nm).getD St0).ch = c at ci cj
  generalize (instS x a nm).isSome = is at ci cj
  obtain ⟨cn, cp, cw, ca, ck, cq⟩ := c
  have CI := Lib.hid ci; have CJ := Lib.hid cj; have CH := Lib.hid ch; have CG := Lib.hid cg; have CRH := Lib.hid crh; have CRG := Lib.hid crg
  clear ci cj ch cg crh crg
  obtain ⟨na, nn, nc, ua, un, uc, da, dn, dc, nx, la, ll, lc, sa, sl, sc, lost, nds, ups⟩ := x
  simp only [] at kc1_0 kc1_1 kc1_2 kc1_3 kc1_4 kc1_5 kc1_6
  go_wp2_with (fail)
  refine (CI.out _ (Qb1 kb1)).mono ?_; rintro e w2 ⟨rfl, hb2⟩
  have hk2 : KeptC w [(⟨w.heap.size, 0, none⟩, .slice na nn nc), (⟨w.heap.size, 1, none⟩, .slice ua un uc), (⟨w.heap.size, 2, none⟩, .slice da dn dc), (⟨w.heap.size, 3, none⟩, .int .i64 nx), (⟨w.heap.size, 4, none⟩, .slice la ll lc), (⟨w.heap.size, 5, none⟩, .slice sa sl sc), (⟨w.heap.size, 6, none⟩, .int .i64 lost)] [] w2 := by
   refine KeptC.below ?_ hb2
   exact Qk1 kb1
  simp only [KeptC, List.forall_mem_cons] at hk2; obtain ⟨kb2, ⟨kc2_0, kc2_1, kc2_2, kc2_3, kc2_4, kc2_5, kc2_6, _⟩, _⟩ := hk2
  have hz2 : w.heap.size < w2.heap.size := cell_lt kc2_0
  clear hb2 CI kb1 hz1 kc1_0 kc1_1 kc1_2 kc1_3 kc1_4 kc1_5 kc1_6
  go_wp2_with (fail)
  refine (CJ.out _ (Qb1 kb2)).mono ?_; rintro e w3 ⟨rfl, hb3⟩
  have hk3 : KeptC w [(⟨w.heap.size, 0, none⟩, .slice na nn nc), (⟨w.heap.size, 1, none⟩, .slice ua un uc), (⟨w.heap.size, 2, none⟩, .slice da dn dc), (⟨w.heap.size, 3, none⟩, .int .i64 nx), (⟨w.heap.size, 4, none⟩, .slice la ll lc), (⟨w.heap.size, 5, none⟩, .slice sa sl sc), (⟨w.heap.size, 6, none⟩, .int .i64 lost), (⟨w2.heap.size, 0, none⟩, .string cn), (⟨w2.heap.size, 1, none⟩, .int .i64 cp), (⟨w2.heap.size, 2, none⟩, .int .i64 cw), (⟨w2.heap.size, 3, none⟩, .bool ca), (⟨w2.heap.size, 4, none⟩, .int .i64 ck), (⟨w2.heap.size, 5, none⟩, .int .i64 cq)] [] w3 := by
   refine KeptC.below ?_ hb3
   exact Qk1 kb2
  simp only [KeptC, List.forall_mem_cons] at hk3; obtain ⟨kb3, ⟨kc3_0, kc3_1, kc3_2, kc3_3, kc3_4, kc3_5, kc3_6, kc3_7, kc3_8, kc3_9, kc3_10, kc3_11, kc3_12, _⟩, _⟩ := hk3
  have hz3 : w.heap.size < w3.heap.size := cell_lt kc3_0
  have hy3 : w2.heap.size < w3.heap.size := cell_lt kc3_7
  clear hb3 CJ kb2 hz2 kc2_0 kc2_1 kc2_2 kc2_3 kc2_4 kc2_5 kc2_6
  go_wp2_with (fail)
  refine (CH.out _ (Qb1 kb3)).mono ?_; rintro e w4 ⟨rfl, hb4⟩
  have hk4 : KeptC w [(⟨w.heap.size, 0, none⟩, .slice na nn nc), (⟨w.heap.size, 1, none⟩, .slice ua un uc), (⟨w.heap.size, 2, none⟩, .slice da dn dc), (⟨w.heap.size, 3, none⟩, .int .i64 nx), (⟨w.heap.size, 4, none⟩, .slice la ll lc), (⟨w.heap.size, 5, none⟩, .slice sa sl sc), (⟨w.heap.size, 6, none⟩, .int .i64 lost), (⟨w2.heap.size, 0, none⟩, .string cn), (⟨w2.heap.size, 1, none⟩, .int .i64 cp), (⟨w2.heap.size, 2, none⟩, .int .i64 cw), (⟨w2.heap.size, 3, none⟩, .bool ca), (⟨w2.heap.size, 4, none⟩, .int .i64 ck), (⟨w2.heap.size, 5, none⟩, .int .i64 cq), (⟨w3.heap.size, 0, none⟩, .string cn), (⟨w3.heap.size, 1, none⟩, .int .i64 cp), (⟨w3.heap.size, 2, none⟩, .int .i64 cw), (⟨w3.heap.size, 3, none⟩, .bool ca), (⟨w3.heap.size, 4, none⟩, .int .i64 ck), (⟨w3.heap.size, 5, none⟩, .int .i64 cq)] [] w4 := by
   refine KeptC.below ?_ hb4
   exact Qk1 kb3
  simp only [KeptC, List.forall_mem_cons] at hk4; obtain ⟨kb4, ⟨kc4_0, kc4_1, kc4_2, kc4_3, kc4_4, kc4_5, kc4_6, kc4_7, kc4_8, kc4_9, kc4_10, kc4_11, kc4_12, kc4_13, kc4_14, kc4_15, kc4_16, kc4_17, kc4_18, _⟩, _⟩ := hk4
  have hz4 : w.heap.size < w4.heap.size := cell_lt kc4_0
  have hy4 : w2.heap.size < w4.heap.size := cell_lt kc4_7
  have hx4 : w3.heap.size < w4.heap.size := cell_lt kc4_13
  clear hb4 CH kb3 hz3 hy3 kc3_0 kc3_1 kc3_2 kc3_3 kc3_4 kc3_5 kc3_6 kc3_7 kc3_8 kc3_9 kc3_10 kc3_11 kc3_12
  go_wp2_with (fail)
  refine (CG.out _ (Qb1 kb4)).mono ?_; rintro e w5 ⟨rfl, hb5⟩
  have hk5 : KeptC w [(⟨w.heap.size, 0, none⟩, .slice na nn nc), (⟨w.heap.size, 1, none⟩, .slice ua un uc), (⟨w.heap.size, 2, none⟩, .slice da dn dc), (⟨w.heap.size, 3, none⟩, .int .i64 nx), (⟨w.heap.size, 4, none⟩, .slice la ll lc), (⟨w.heap.size, 5, none⟩, .slice sa sl sc), (⟨w.heap.size, 6, none⟩, .int .i64 lost), (⟨w2.heap.size, 0, none⟩, .string cn), (⟨w2.heap.size, 1, none⟩, .int .i64 cp), (⟨w2.heap.size, 2, none⟩, .int .i64 cw), (⟨w2.heap.size, 3, none⟩, .bool ca), (⟨w2.heap.size, 4, none⟩, .int .i64 ck), (⟨w2.heap.size, 5, none⟩, .int .i64 cq), (⟨w3.heap.size, 0, none⟩, .string cn), (⟨w3.heap.size, 1, none⟩, .int .i64 cp), (⟨w3.heap.size, 2, none⟩, .int .i64 cw), (⟨w3.heap.size, 3, none⟩, .bool ca), (⟨w3.heap.size, 4, none⟩, .int .i64 ck), (⟨w3.heap.size, 5, none⟩, .int .i64 cq)] [] w5 := by
   refine KeptC.below ?_ hb5
   exact Qk1 kb4
  simp only [KeptC, List.forall_mem_cons] at hk5; obtain ⟨kb5, ⟨kc5_0, kc5_1, kc5_2, kc5_3, kc5_4, kc5_5, kc5_6, kc5_7, kc5_8, kc5_9, kc5_10, kc5_11, kc5_12, kc5_13, kc5_14, kc5_15, kc5_16, kc5_17, kc5_18, _⟩, _⟩ := hk5
  have hz5 : w.heap.size < w5.heap.size := cell_lt kc5_0
  have hy5 : w2.heap.size < w5.heap.size := cell_lt kc5_7
  have hx5 : w3.heap.size < w5.heap.size := cell_lt kc5_13
  clear hb5 CG kb4 hz4 hy4 hx4 kc4_0 kc4_1 kc4_2 kc4_3 kc4_4 kc4_5 kc4_6 kc4_7 kc4_8 kc4_9 kc4_10 kc4_11 kc4_12 kc4_13 kc4_14 kc4_15 kc4_16 kc4_17 kc4_18
  go_wp2_with (fail)
  refine (CRH.out _ (Qb1 kb5)).mono ?_; rintro e w6 ⟨rfl, hb6⟩
  have hk6 : KeptC w [(⟨w.heap.size, 0, none⟩, .slice na nn nc), (⟨w.heap.size, 1, none⟩, .slice ua un uc), (⟨w.heap.size, 2, none⟩, .slice da dn dc), (⟨w.heap.size, 3, none⟩, .int .i64 nx), (⟨w.heap.size, 4, none⟩, .slice la ll lc), (⟨w.heap.size, 5, none⟩, .slice sa sl sc), (⟨w.heap.size, 6, none⟩, .int .i64 lost)] [] w6 := by
   refine KeptC.below ?_ hb6
   exact Qk1 kb5
  simp only [KeptC, List.forall_mem_cons] at hk6; obtain ⟨kb6, ⟨kc6_0, kc6_1, kc6_2, kc6_3, kc6_4, kc6_5, kc6_6, _⟩, _⟩ := hk6
  have hz6 : w.heap.size < w6.heap.size := cell_lt kc6_0
  clear hb6 CRH kb5 hz5 hy5 hx5 kc5_0 kc5_1 kc5_2 kc5_3 kc5_4 kc5_5 kc5_6 kc5_7 kc5_8 kc5_9 kc5_10 kc5_11 kc5_12 kc5_13 kc5_14 kc5_15 kc5_16 kc5_17 kc5_18
  go_wp2_with (fail)
  refine (CRG.out _ (Qb1 kb6)).mono ?_; rintro e w7 ⟨rfl, hb7⟩
  have hk7 : KeptC w [(⟨w.heap.size, 0, none⟩, .slice na nn nc), (⟨w.heap.size, 1, none⟩, .slice ua un uc), (⟨w.heap.size, 2, none⟩, .slice da dn dc), (⟨w.heap.size, 3, none⟩, .int .i64 nx), (⟨w.heap.size, 4, none⟩, .slice la ll lc), (⟨w.heap.size, 5, none⟩, .slice sa sl sc), (⟨w.heap.size, 6, none⟩, .int .i64 lost)] [] w7 := by
   refine KeptC.below ?_ hb7
   exact Qk1 kb6
  simp only [KeptC, List.forall_mem_cons] at hk7; obtain ⟨kb7, ⟨kc7_0, kc7_1, kc7_2, kc7_3, kc7_4, kc7_5, kc7_6, _⟩, _⟩ := hk7
  have hz7 : w.heap.size < w7.heap.size := cell_lt kc7_0
  clear hb7 CRG kb6 hz6 kc6_0 kc6_1 kc6_2 kc6_3 kc6_4 kc6_5 kc6_6
  go_wp2_with (fail)
  have HI : Hid (Below w.heap.size w w7 ∧ w7.cell? ⟨w.heap.size, 0, none⟩ = some (.slice na nn nc) ∧ w7.cell? ⟨w.heap.size, 1, none⟩ = some (.slice ua un uc) ∧ w7.cell? ⟨w.heap.size, 2, none⟩ = some (.slice da dn dc) ∧ w7.cell? ⟨w.heap.size, 3, none⟩ = some (.int .i64 nx) ∧ w7.cell? ⟨w.heap.size, 4, none⟩ = some (.slice la ll lc) ∧ w7.cell? ⟨w.heap.size, 5, none⟩ = some (.slice sa sl sc) ∧ w7.cell? ⟨w.heap.size, 6, none⟩ = some (.int .i64 lost)) := Lib.hid ⟨kb7, kc7_0, kc7_1, kc7_2, kc7_3, kc7_4, kc7_5, kc7_6⟩
  have kS : ∀ p q : World, (Below w.heap.size w p ∧ p.cell? ⟨w.heap.size, 0, none⟩ = some (.slice na nn nc) ∧ p.cell? ⟨w.heap.size, 1, none⟩ = some (.slice ua un uc) ∧ p.cell? ⟨w.heap.size, 2, none⟩ = some (.slice da dn dc) ∧ p.cell? ⟨w.heap.size, 3, none⟩ = some (.int .i64 nx) ∧ p.cell? ⟨w.heap.size, 4, none⟩ = some (.slice la ll lc) ∧ p.cell? ⟨w.heap.size, 5, none⟩ = some (.slice sa sl sc) ∧ p.cell? ⟨w.heap.size, 6, none⟩ = some (.int .i64 lost)) → Below p.heap.size p q → (Below w.heap.size w q ∧ q.cell? ⟨w.heap.size, 0, none⟩ = some (.slice na nn nc) ∧ q.cell? ⟨w.heap.size, 1, none⟩ = some (.slice ua un uc) ∧ q.cell? ⟨w.heap.size, 2, none⟩ = some (.slice da dn dc) ∧ q.cell? ⟨w.heap.size, 3, none⟩ = some (.int .i64 nx) ∧ q.cell? ⟨w.heap.size, 4, none⟩ = some (.slice la ll lc) ∧ q.cell? ⟨w.heap.size, 5, none⟩ = some (.slice sa sl sc) ∧ q.cell? ⟨w.heap.size, 6, none⟩ = some (.int .i64 lost)) := by
   rintro p q ⟨k0, k1, k2, k3, k4, k5, k6, k7⟩ hb
   exact ⟨k0.trans (hb.mono k0.size), (hb.cell (cell_lt k1)).trans k1, (hb.cell (cell_lt k2)).trans k2, (hb.cell (cell_lt k3)).trans k3, (hb.cell (cell_lt k4)).trans k4, (hb.cell (cell_lt k5)).trans k5, (hb.cell (cell_lt k6)).trans k6, (hb.cell (cell_lt k7)).trans k7⟩
  have KS := Lib.hid kS
  clear kS kb7 hz7 kc7_0 kc7_1 kc7_2 kc7_3 kc7_4 kc7_5 kc7_6
  cases h with
  | true =>
   clear hhg
   refine wp_region_noPanic ?_
   refine wp_region_held_drew (S := fun w' => Below w.heap.size w w' ∧ w'.cell? ⟨w.heap.size, 0, none⟩ = some (.slice na nn nc) ∧ w'.cell? ⟨w.heap.size, 1, none⟩ = some (.slice ua un uc) ∧ w'.cell? ⟨w.heap.size, 2, none⟩ = some (.slice da dn dc) ∧ w'.cell? ⟨w.heap.size, 3, none⟩ = some (.int .i64 nx) ∧ w'.cell? ⟨w.heap.size, 4, none⟩ = some (.slice la ll lc) ∧ w'.cell? ⟨w.heap.size, 5, none⟩ = some (.slice sa sl sc) ∧ w'.cell? ⟨w.heap.size, 6, none⟩ = some (.int .i64 lost)) (by kernel_rfl) ?_ (fun hHeld => ?_)
   · (repeat (first | with_reducible assumption | with_reducible exact HI.out | (with_reducible refine KS.out _ _ ?_ (Below.drew (Below.refl _ _))) | (with_reducible refine KS.out _ _ ?_ (by with_reducible assumption))))
   refine wpAnyH_take (i := 0) (v := ?_) (take_at rfl) (by kernel_rfl) (by kernel_rfl) (by kernel_rfl) (fun _ _ _ h => h) (Or.inl ⟨by rfl, ?_⟩) (by with_reducible assumption) ?_; rotate_left; (· intro w hSw; (try dsimp only at hSw); go_simp; first | done | with_reducible rfl)
   try simp only [Act.put, List.setIfInBounds_toArray, List.set_cons_zero, List.set_cons_succ]
   refine wpAnyH_take (i := 2) (v := ?_) (take_at rfl) (by kernel_rfl) (by kernel_rfl) (by kernel_rfl) (fun _ _ _ h => h) (Or.inl ⟨by rfl, ?_⟩) (by with_reducible assumption) ?_; rotate_left; (· intro w hSw; (try dsimp only at hSw); go_simp; first | done | with_reducible rfl)
   try simp only [Act.put, List.setIfInBounds_toArray, List.set_cons_zero, List.set_cons_succ]
   refine wpAnyH_ready (rs := [1]) (by kernel_rfl) (by simp) ?_; refine AllReadyH.cons (take_at rfl) (fun K hK => ?_) AllReadyH.nil
   go_simp
   (first | ((with_reducible refine (HB1.out _ (by with_reducible assumption)).mono ?_); rintro e w21 ⟨A1, cA1, rfl, ho21, hb21⟩; have hS21 := KS.out _ _ (by with_reducible assumption) hb21))
   refine hK.out _ _ ?_ (fun hHeld => ?_)
   · (repeat (first | with_reducible assumption | with_reducible exact HI.out | (with_reducible refine KS.out _ _ ?_ (Below.drew (Below.refl _ _))) | (with_reducible refine KS.out _ _ ?_ (by with_reducible assumption))))
   clear hK K
   try simp only [Act.put, List.setIfInBounds_toArray, List.set_cons_zero, List.set_cons_succ]
   refine wpAnyH_ready (rs := [3]) (by kernel_rfl) (by simp) ?_; refine AllReadyH.cons (take_at rfl) (fun K hK => ?_) AllReadyH.nil
   go_simp
   (first | ((with_reducible refine (HB2.out _ (by with_reducible assumption)).mono ?_); rintro e w22 ⟨A2, cA2, rfl, ho22, hb22⟩; have hS22 := KS.out _ _ (by with_reducible assumption) hb22))
   refine hK.out _ _ ?_ (fun hHeld => ?_)
   · (repeat (first | with_reducible assumption | with_reducible exact HI.out | (with_reducible refine KS.out _ _ ?_ (Below.drew (Below.refl _ _))) | (with_reducible refine KS.out _ _ ?_ (by with_reducible assumption))))
   clear hK K
   try simp only [Act.put, List.setIfInBounds_toArray, List.set_cons_zero, List.set_cons_succ]
   refine wpAnyH_ready (rs := [4]) (by kernel_rfl) (by simp) ?_; refine AllReadyH.cons (take_at rfl) (fun K hK => ?_) AllReadyH.nil
   go_simp
   (first | ((with_reducible refine (CS1.out A1 A2 _ _ _ ((ho21.below hb22).more hb22.size) ho22).mono ?_); rintro e w25 ⟨rfl, hb25⟩; have hS25 := KS.out _ _ (by with_reducible assumption) hb25) | ((with_reducible refine (CS1.out A1 A2 _ _ _ ho21 ((ho22.below hb21).more hb21.size)).mono ?_); rintro e w25 ⟨rfl, hb25⟩; have hS25 := KS.out _ _ (by with_reducible assumption) hb25))
   refine hK.out _ _ ?_ (fun hHeld => ?_)
   · (repeat (first | with_reducible assumption | with_reducible exact HI.out | (with_reducible refine KS.out _ _ ?_ (Below.drew (Below.refl _ _))) | (with_reducible refine KS.out _ _ ?_ (by with_reducible assumption))))
   clear hK K
   try simp only [Act.put, List.setIfInBounds_toArray, List.set_cons_zero, List.set_cons_succ]
   refine wpAnyH_take (i := 5) (v := ?_) (take_at rfl) (by kernel_rfl) (by kernel_rfl) (by kernel_rfl) (fun _ _ _ h => h) (Or.inl ⟨by rfl, ?_⟩) (by with_reducible assumption) ?_; rotate_left; (· intro w hSw; (try dsimp only at hSw); go_simp; first | done | with_reducible rfl)
   try simp only [Act.put, List.setIfInBounds_toArray, List.set_cons_zero, List.set_cons_succ]
   refine wpAnyH_take (i := 6) (v := ?_) (take_at rfl) (by kernel_rfl) (by kernel_rfl) (by kernel_rfl) (fun _ _ _ h => h) (Or.inl ⟨by rfl, ?_⟩) (by with_reducible assumption) ?_; rotate_left; (· intro w hSw; (try dsimp only at hSw); go_simp; first | done | with_reducible rfl)
   try simp only [Act.put, List.setIfInBounds_toArray, List.set_cons_zero, List.set_cons_succ]
   refine wpAnyH_take (i := 7) (v := ?_) (take_at rfl) (by kernel_rfl) (by kernel_rfl) (by kernel_rfl) (fun _ _ _ h => h) (Or.inl ⟨by rfl, ?_⟩) (by with_reducible assumption) ?_; rotate_left; (· intro w hSw; (try dsimp only at hSw); go_simp; first | done | with_reducible rfl)
   try simp only [Act.put, List.setIfInBounds_toArray, List.set_cons_zero, List.set_cons_succ]
   refine wpAnyH_take (i := 9) (v := ?_) (take_at rfl) (by kernel_rfl) (by kernel_rfl) (by kernel_rfl) (fun _ _ _ h => h) (Or.inl ⟨by rfl, ?_⟩) (by with_reducible assumption) ?_; rotate_left; (· intro w hSw; (try dsimp only at hSw); go_simp; first | done | with_reducible rfl)
   try simp only [Act.put, List.setIfInBounds_toArray, List.set_cons_zero, List.set_cons_succ]
   refine wpAnyH_take (i := 10) (v := ?_) (take_at rfl) (by kernel_rfl) (by kernel_rfl) (by kernel_rfl) (fun _ _ _ h => h) (Or.inl ⟨by rfl, ?_⟩) (by with_reducible assumption) ?_; rotate_left; (· intro w hSw; (try dsimp only at hSw); go_simp; first | done | with_reducible rfl)
   try simp only [Act.put, List.setIfInBounds_toArray, List.set_cons_zero, List.set_cons_succ]
   refine wpAnyH_ready (rs := [8]) (by kernel_rfl) (by simp) ?_; refine AllReadyH.cons (take_at rfl) (fun K hK => ?_) AllReadyH.nil
   go_simp
   (first | ((with_reducible refine (HB3.out _ (by with_reducible assumption)).mono ?_); rintro e w23 ⟨A3, cA3, rfl, ho23, hb23⟩; have hS23 := KS.out _ _ (by with_reducible assumption) hb23))
   refine hK.out _ _ ?_ (fun hHeld => ?_)
   · (repeat (first | with_reducible assumption | with_reducible exact HI.out | (with_reducible refine KS.out _ _ ?_ (Below.drew (Below.refl _ _))) | (with_reducible refine KS.out _ _ ?_ (by with_reducible assumption))))
   clear hK K
   try simp only [Act.put, List.setIfInBounds_toArray, List.set_cons_zero, List.set_cons_succ]
   refine wpAnyH_ready (rs := [11]) (by kernel_rfl) (by simp) ?_; refine AllReadyH.cons (take_at rfl) (fun K hK => ?_) AllReadyH.nil
   go_simp
   (first | ((with_reducible refine (HB4.out _ (by with_reducible assumption)).mono ?_); rintro e w24 ⟨A4, cA4, rfl, ho24, hb24⟩; have hS24 := KS.out _ _ (by with_reducible assumption) hb24))
   refine hK.out _ _ ?_ (fun hHeld => ?_)
   · (repeat (first | with_reducible assumption | with_reducible exact HI.out | (with_reducible refine KS.out _ _ ?_ (Below.drew (Below.refl _ _))) | (with_reducible refine KS.out _ _ ?_ (by with_reducible assumption))))
   clear hK K
   try simp only [Act.put, List.setIfInBounds_toArray, List.set_cons_zero, List.set_cons_succ]
   refine wpAnyH_ready (rs := [12]) (by kernel_rfl) (by simp) ?_; refine AllReadyH.cons (take_at rfl) (fun K hK => ?_) AllReadyH.nil
   go_simp
   (first | ((with_reducible refine (CS2.out A3 A4 _ _ _ ((ho23.below hb24).more hb24.size) ho24).mono ?_); rintro e w26 ⟨rfl, hb26⟩; have hS26 := KS.out _ _ (by with_reducible assumption) hb26) | ((with_reducible refine (CS2.out A3 A4 _ _ _ ho23 ((ho24.below hb23).more hb23.size)).mono ?_); rintro e w26 ⟨rfl, hb26⟩; have hS26 := KS.out _ _ (by with_reducible assumption) hb26))
   refine hK.out _ _ ?_ (fun hHeld => ?_)
   · (repeat (first | with_reducible assumption | with_reducible exact HI.out | (with_reducible refine KS.out _ _ ?_ (Below.drew (Below.refl _ _))) | (with_reducible refine KS.out _ _ ?_ (by with_reducible assumption))))
   clear hK K
   try simp only [Act.put, List.setIfInBounds_toArray, List.set_cons_zero, List.set_cons_succ]
   refine wpAnyH_take (i := 13) (v := ?_) (take_at rfl) (by kernel_rfl) (by kernel_rfl) (by kernel_rfl) (fun _ _ _ h => h) (Or.inl ⟨by rfl, ?_⟩) (by with_reducible assumption) ?_; rotate_left; (· intro w hSw; (try dsimp only at hSw); go_simp; first | done | with_reducible rfl)
   try simp only [Act.put, List.setIfInBounds_toArray, List.set_cons_zero, List.set_cons_succ]
   refine wpAnyH_take (i := 14) (v := ?_) (take_at rfl) (by kernel_rfl) (by kernel_rfl) (by kernel_rfl) (fun _ _ _ h => h) (Or.inl ⟨by rfl, ?_⟩) (by with_reducible assumption) ?_; rotate_left; (· intro w hSw; (try dsimp only at hSw); go_simp; first | done | with_reducible rfl)
   try simp only [Act.put, List.setIfInBounds_toArray, List.set_cons_zero, List.set_cons_succ]
   refine wpAnyH_take (i := 15) (v := ?_) (take_at rfl) (by kernel_rfl) (by kernel_rfl) (by kernel_rfl) (fun _ _ _ h => h) (Or.inl ⟨by rfl, ?_⟩) (by with_reducible assumption) ?_; rotate_left; (· intro w hSw; (try dsimp only at hSw); go_simp; first | done | with_reducible rfl)
   try simp only [Act.put, List.setIfInBounds_toArray, List.set_cons_zero, List.set_cons_succ]
   refine wpAnyH_take (i := 16) (v := ?_) (take_at rfl) (by kernel_rfl) (by kernel_rfl) (by kernel_rfl) (fun _ _ _ h => h) (Or.inl ⟨by rfl, ?_⟩) (by with_reducible assumption) ?_; rotate_left; (· intro w hSw; (try dsimp only at hSw); go_simp; first | done | with_reducible rfl)
   try simp only [Act.put, List.setIfInBounds_toArray, List.set_cons_zero, List.set_cons_succ]
   refine wpAnyH_take (i := 17) (v := ?_) (take_at rfl) (by kernel_rfl) (by kernel_rfl) (by kernel_rfl) (fun _ _ _ h => h) (Or.inl ⟨by rfl, ?_⟩) (by with_reducible assumption) ?_; rotate_left; (· intro w hSw; (try dsimp only at hSw); go_simp; first | done | with_reducible rfl)
   try simp only [Act.put, List.setIfInBounds_toArray, List.set_cons_zero, List.set_cons_succ]
   refine wpAnyH_take (i := 18) (v := ?_) (take_at rfl) (by kernel_rfl) (by kernel_rfl) (by kernel_rfl) (fun _ _ _ h => h) (Or.inl ⟨by rfl, ?_⟩) (by with_reducible assumption) ?_; rotate_left; (· intro w hSw; (try dsimp only at hSw); go_simp; first | done | with_reducible rfl)
   try simp only [Act.put, List.setIfInBounds_toArray, List.set_cons_zero, List.set_cons_succ]
   refine wpAnyH_ready (rs := [19]) (by kernel_rfl) (by simp) ?_; refine AllReadyH.cons (take_at rfl) (fun K hK => ?_) AllReadyH.nil
   go_simp
   (first | ((with_reducible refine (HB5.out _ (by with_reducible assumption)).mono ?_); rintro e w27 ⟨rfl, hb27⟩; have hS27 := KS.out _ _ (by with_reducible assumption) hb27))
   refine hK.out _ _ ?_ (fun hHeld => ?_)
   · (repeat (first | with_reducible assumption | with_reducible exact HI.out | (with_reducible refine KS.out _ _ ?_ (Below.drew (Below.refl _ _))) | (with_reducible refine KS.out _ _ ?_ (by with_reducible assumption))))
   clear hK K
   try simp only [Act.put, List.setIfInBounds_toArray, List.set_cons_zero, List.set_cons_succ]
   refine wpAnyH_take (i := 20) (v := ?_) (take_at rfl) (by kernel_rfl) (by kernel_rfl) (by kernel_rfl) (fun _ _ _ h => h) (Or.inl ⟨by rfl, ?_⟩) (by with_reducible assumption) ?_; rotate_left; (· intro w hSw; (try dsimp only at hSw); go_simp; first | done | with_reducible rfl)
   try simp only [Act.put, List.setIfInBounds_toArray, List.set_cons_zero, List.set_cons_succ]
   refine wpAnyH_take (i := 21) (v := ?_) (take_at rfl) (by kernel_rfl) (by kernel_rfl) (by kernel_rfl) (fun _ _ _ h => h) (Or.inl ⟨by rfl, ?_⟩) (by with_reducible assumption) ?_; rotate_left; (· intro w hSw; (try dsimp only at hSw); go_simp; first | done | with_reducible rfl)
   try simp only [Act.put, List.setIfInBounds_toArray, List.set_cons_zero, List.set_cons_succ]
   refine wpAnyH_take (i := 22) (v := ?_) (take_at rfl) (by kernel_rfl) (by kernel_rfl) (by kernel_rfl) (fun _ _ _ h => h) (Or.inl ⟨by rfl, ?_⟩) (by with_reducible assumption) ?_; rotate_left; (· intro w hSw; (try dsimp only at hSw); go_simp; first | done | with_reducible rfl)
   try simp only [Act.put, List.setIfInBounds_toArray, List.set_cons_zero, List.set_cons_succ]
   refine wpAnyH_take (i := 23) (v := ?_) (take_at rfl) (by kernel_rfl) (by kernel_rfl) (by kernel_rfl) (fun _ _ _ h => h) (Or.inl ⟨by rfl, ?_⟩) (by with_reducible assumption) ?_; rotate_left; (· intro w hSw; (try dsimp only at hSw); go_simp; first | done | with_reducible rfl)
   try simp only [Act.put, List.setIfInBounds_toArray, List.set_cons_zero, List.set_cons_succ]
   refine wpAnyH_take (i := 24) (v := ?_) (take_at rfl) (by kernel_rfl) (by kernel_rfl) (by kernel_rfl) (fun _ _ _ h => h) (Or.inl ⟨by rfl, ?_⟩) (by with_reducible assumption) ?_; rotate_left; (· intro w hSw; (try dsimp only at hSw); go_simp; first | done | with_reducible rfl)
   try simp only [Act.put, List.setIfInBounds_toArray, List.set_cons_zero, List.set_cons_succ]
   refine wpAnyH_take (i := 25) (v := ?_) (take_at rfl) (by kernel_rfl) (by kernel_rfl) (by kernel_rfl) (fun _ _ _ h => h) (Or.inl ⟨by rfl, ?_⟩) (by with_reducible assumption) ?_; rotate_left; (· intro w hSw; (try dsimp only at hSw); go_simp; first | done | with_reducible rfl)
   try simp only [Act.put, List.setIfInBounds_toArray, List.set_cons_zero, List.set_cons_succ]
   refine wpAnyH_take (i := 26) (v := ?_) (take_at rfl) (by kernel_rfl) (by kernel_rfl) (by kernel_rfl) (fun _ _ _ h => h) (Or.inl ⟨by rfl, ?_⟩) (by with_reducible assumption) ?_; rotate_left; (· intro w hSw; (try dsimp only at hSw); go_simp; first | done | with_reducible rfl)
   try simp only [Act.put, List.setIfInBounds_toArray, List.set_cons_zero, List.set_cons_succ]
   refine wpAnyH_take (i := 27) (v := ?_) (take_at rfl) (by kernel_rfl) (by kernel_rfl) (by kernel_rfl) (fun _ _ _ h => h) (Or.inl ⟨by rfl, ?_⟩) (by with_reducible assumption) ?_; rotate_left; (· intro w hSw; (try dsimp only at hSw); go_simp; first | done | with_reducible rfl)
   try simp only [Act.put, List.setIfInBounds_toArray, List.set_cons_zero, List.set_cons_succ]
   refine wpAnyH_ready (rs := [28]) (by kernel_rfl) (by simp) ?_; refine AllReadyH.cons (take_at rfl) (fun K hK => ?_) AllReadyH.nil
   go_simp
   (first | ((with_reducible refine (HB6.out _ (by with_reducible assumption)).mono ?_); rintro e w28 ⟨rfl, hb28⟩; have hS28 := KS.out _ _ (by with_reducible assumption) hb28))
   refine hK.out _ _ ?_ (fun hHeld => ?_)
   · (repeat (first | with_reducible assumption | with_reducible exact HI.out | (with_reducible refine KS.out _ _ ?_ (Below.drew (Below.refl _ _))) | (with_reducible refine KS.out _ _ ?_ (by with_reducible assumption))))
   clear hK K
   try simp only [Act.put, List.setIfInBounds_toArray, List.set_cons_zero, List.set_cons_succ]
   refine wpAnyH_take (i := 29) (v := ?_) (take_at rfl) (by kernel_rfl) (by kernel_rfl) (by kernel_rfl) (fun _ _ _ h => h) (Or.inl ⟨by rfl, ?_⟩) (by with_reducible assumption) ?_; rotate_left; (· intro w hSw; (try dsimp only at hSw); go_simp; first | done | with_reducible rfl)
   try simp only [Act.put, List.setIfInBounds_toArray, List.set_cons_zero, List.set_cons_succ]
   refine wpAnyH_take (i := 30) (v := ?_) (take_at rfl) (by kernel_rfl) (by kernel_rfl) (by kernel_rfl) (fun _ _ _ h => h) (Or.inl ⟨by rfl, ?_⟩) (by with_reducible assumption) ?_; rotate_left; (· intro w hSw; (try dsimp only at hSw); go_simp; first | done | with_reducible rfl)
   try simp only [Act.put, List.setIfInBounds_toArray, List.set_cons_zero, List.set_cons_succ]
   refine wpAnyH_take (i := 31) (v := ?_) (take_at rfl) (by kernel_rfl) (by kernel_rfl) (by kernel_rfl) (fun _ _ _ h => h) (Or.inl ⟨by rfl, ?_⟩) (by with_reducible assumption) ?_; rotate_left; (· intro w hSw; (try dsimp only at hSw); go_simp; first | done | with_reducible rfl)
   try simp only [Act.put, List.setIfInBounds_toArray, List.set_cons_zero, List.set_cons_succ]
   refine wpAnyH_take (i := 32) (v := ?_) (take_at rfl) (by kernel_rfl) (by kernel_rfl) (by kernel_rfl) (fun _ _ _ h => h) (Or.inl ⟨by rfl, ?_⟩) (by with_reducible assumption) ?_; rotate_left; (· intro w hSw; (try dsimp only at hSw); go_simp; first | done | with_reducible rfl)
   try simp only [Act.put, List.setIfInBounds_toArray, List.set_cons_zero, List.set_cons_succ]
   refine wpAnyH_take (i := 33) (v := ?_) (take_at rfl) (by kernel_rfl) (by kernel_rfl) (by kernel_rfl) (fun _ _ _ h => h) (Or.inl ⟨by rfl, ?_⟩) (by with_reducible assumption) ?_; rotate_left; (· intro w hSw; (try dsimp only at hSw); go_simp; first | done | with_reducible rfl)
   try simp only [Act.put, List.setIfInBounds_toArray, List.set_cons_zero, List.set_cons_succ]
   refine wpAnyH_take (i := 34) (v := undef) (take_at rfl) (by kernel_rfl) (by kernel_rfl) (by kernel_rfl) (fun _ _ _ h => h) (Or.inr ⟨by rfl, rfl⟩) (by with_reducible assumption) ?_
   simp only [Act.put, List.setIfInBounds_toArray, List.set_cons_zero, List.set_cons_succ]
   refine wpAnyH_take (i := 35) (v := undef) (take_at rfl) (by kernel_rfl) (by kernel_rfl) (by kernel_rfl) (fun _ _ _ h => h) (Or.inr ⟨by rfl, rfl⟩) (by with_reducible assumption) ?_
   simp only [Act.put, List.setIfInBounds_toArray, List.set_cons_zero, List.set_cons_succ]
   refine wpAnyH_take (i := 36) (v := ?_) (take_at rfl) (by kernel_rfl) (by kernel_rfl) (by kernel_rfl) (fun _ _ _ h => h) (Or.inl ⟨by rfl, ?_⟩) (by with_reducible assumption) ?_; rotate_left; (· intro w hSw; (try dsimp only at hSw); go_simp; first | done | with_reducible rfl)
   try simp only [Act.put, List.setIfInBounds_toArray, List.set_cons_zero, List.set_cons_succ]
   refine wpAnyH_take (i := 37) (v := ?_) (take_at rfl) (by kernel_rfl) (by kernel_rfl) (by kernel_rfl) (fun _ _ _ h => h) (Or.inl ⟨by rfl, ?_⟩) (by with_reducible assumption) ?_; rotate_left; (· intro w hSw; (try dsimp only at hSw); go_simp; first | done | with_reducible rfl)
   try simp only [Act.put, List.setIfInBounds_toArray, List.set_cons_zero, List.set_cons_succ]
   refine wpAnyH_take (i := 38) (v := ?_) (take_at rfl) (by kernel_rfl) (by kernel_rfl) (by kernel_rfl) (fun _ _ _ h => h) (Or.inl ⟨by rfl, ?_⟩) (by with_reducible assumption) ?_; rotate_left; (· intro w hSw; (try dsimp only at hSw); go_simp; first | done | with_reducible rfl)
   try simp only [Act.put, List.setIfInBounds_toArray, List.set_cons_zero, List.set_cons_succ]
   refine wpAnyH_ready (rs := [39]) (by kernel_rfl) (by simp) ?_; refine AllReadyH.cons (take_at rfl) (fun K hK => ?_) AllReadyH.nil
   go_simp
   (first | ((with_reducible refine (CAW.out _).mono ?_); rintro e w29 ⟨rfl, hb29⟩; have hS29 := KS.out _ _ (by with_reducible assumption) hb29))
   refine hK.out _ _ ?_ (fun hHeld => ?_)
   · (repeat (first | with_reducible assumption | with_reducible exact HI.out | (with_reducible refine KS.out _ _ ?_ (Below.drew (Below.refl _ _))) | (with_reducible refine KS.out _ _ ?_ (by with_reducible assumption))))
   clear hK K
   try simp only [Act.put, List.setIfInBounds_toArray, List.set_cons_zero, List.set_cons_succ]
   refine wpAnyH_take (i := 40) (v := ?_) (take_at rfl) (by kernel_rfl) (by kernel_rfl) (by kernel_rfl) (fun _ _ _ h => h) (Or.inl ⟨by rfl, ?_⟩) (by with_reducible assumption) ?_; rotate_left; (· intro w hSw; (try dsimp only at hSw); go_simp; first | done | with_reducible rfl)
   try simp only [Act.put, List.setIfInBounds_toArray, List.set_cons_zero, List.set_cons_succ]
   refine wpAnyH_take (i := 41) (v := ?_) (take_at rfl) (by kernel_rfl) (by kernel_rfl) (by kernel_rfl) (fun _ _ _ h => h) (Or.inl ⟨by rfl, ?_⟩) (by with_reducible assumption) ?_; rotate_left; (· intro w hSw; (try dsimp only at hSw); go_simp; first | done | with_reducible rfl)
   try simp only [Act.put, List.setIfInBounds_toArray, List.set_cons_zero, List.set_cons_succ]
   refine wpAnyH_done (by kernel_rfl) ?_ _
   refine NoPanic.normal ?_
   go_wp2; go_ret; exact ⟨rfl, hS29.1⟩
  | false =>
   obtain rfl : g = false := by rcases hhg with h1 | h1; (· cases h1); exact h1
   · skip
     first | (go_region_held3 (fun w' => Below w.heap.size w w' ∧ w'.cell? ⟨w.heap.size, 0, none⟩ = some (.slice na nn nc) ∧ w'.cell? ⟨w.heap.size, 1, none⟩ = some (.slice ua un uc) ∧ w'.cell? ⟨w.heap.size, 2, none⟩ = some (.slice da dn dc) ∧ w'.cell? ⟨w.heap.size, 3, none⟩ = some (.int .i64 nx) ∧ w'.cell? ⟨w.heap.size, 4, none⟩ = some (.slice la ll lc) ∧ w'.cell? ⟨w.heap.size, 5, none⟩ = some (.slice sa sl sc) ∧ w'.cell? ⟨w.heap.size, 6, none⟩ = some (.int .i64 lost)) (repeat (first | with_reducible assumption | with_reducible exact HI.out | (with_reducible refine KS.out _ _ ?_ ((Below.refl _ _).alloc (Nat.le_refl _) _)) | (with_reducible refine KS.out _ _ ?_ (Below.drew (Below.refl _ _))) | (with_reducible refine KS.out _ _ ?_ (by with_reducible assumption)))) (first | ((with_reducible refine (HB1.out _ (by with_reducible assumption)).mono ?_); rintro e w21 ⟨A1, cA1, rfl, ho21, hb21⟩; have hS21 := KS.out _ _ (by with_reducible assumption) hb21) | ((with_reducible refine (HB2.out _ (by with_reducible assumption)).mono ?_); rintro e w22 ⟨A2, cA2, rfl, ho22, hb22⟩; have hS22 := KS.out _ _ (by with_reducible assumption) hb22) | ((with_reducible refine (HB3.out _ (by with_reducible assumption)).mono ?_); rintro e w23 ⟨A3, cA3, rfl, ho23, hb23⟩; have hS23 := KS.out _ _ (by with_reducible assumption) hb23) | ((with_reducible refine (HB4.out _ (by with_reducible assumption)).mono ?_); rintro e w24 ⟨A4, cA4, rfl, ho24, hb24⟩; have hS24 := KS.out _ _ (by with_reducible assumption) hb24) | ((with_reducible refine (CS1.out A1 A2 _ _ _ ((ho21.below hb22).more hb22.size) ho22).mono ?_); rintro e w25 ⟨rfl, hb25⟩; have hS25 := KS.out _ _ (by with_reducible assumption) hb25) | ((with_reducible refine (CS1.out A1 A2 _ _ _ ho21 ((ho22.below hb21).more hb21.size)).mono ?_); rintro e w25 ⟨rfl, hb25⟩; have hS25 := KS.out _ _ (by with_reducible assumption) hb25) | ((with_reducible refine (CS2.out A3 A4 _ _ _ ((ho23.below hb24).more hb24.size) ho24).mono ?_); rintro e w26 ⟨rfl, hb26⟩; have hS26 := KS.out _ _ (by with_reducible assumption) hb26) | ((with_reducible refine (CS2.out A3 A4 _ _ _ ho23 ((ho24.below hb23).more hb23.size)).mono ?_); rintro e w26 ⟨rfl, hb26⟩; have hS26 := KS.out _ _ (by with_reducible assumption) hb26) | ((with_reducible refine (HB5.out _ (by with_reducible assumption)).mono ?_); rintro e w27 ⟨rfl, hb27⟩; have hS27 := KS.out _ _ (by with_reducible assumption) hb27) | ((with_reducible refine (HB6.out _ (by with_reducible assumption)).mono ?_); rintro e w28 ⟨rfl, hb28⟩; have hS28 := KS.out _ _ (by with_reducible assumption) hb28) | ((with_reducible refine (CAW.out _).mono ?_); rintro e w29 ⟨rfl, hb29⟩; have hS29 := KS.out _ _ (by with_reducible assumption) hb29))) | fail
     all_goals (go_wp2; go_ret; exact ⟨rfl, hS29.1⟩)
theorem viewEdges_lifted (os : Os) (started : os.Started) (H : Type) (enc : TypeId × Value → H) :
    ReturnsInHanded {} Tryz.checked os 3 .any (Rows.viewEdgesSpec.pre6 enc Tryz.prog Tryz.f3 Rows.viewEdgesRow.domain false) (Rows.viewEdgesSpec.post enc Tryz.prog Tryz.f3 false true false false) := by
 refine returnsInHanded_of_change_sized (C := Tryz.checked) own started (by kernel_rfl) Tryz.func3
  (ChangeSpec.witness6 (enc := enc) (C := Tryz.checked) false ⟨#[], #[.agg #[.slice none 0 0, .slice none 0 0, .slice none 0 0, .int .i64 0, .slice none 0 0, .slice none 0 0, .int .i64 0], .int .i64 0, .int .i64 0, .string ⟨#[]⟩], []⟩ 8 (by kernel_rfl) (by kernel_rfl) (by kernel_rfl) (by kernel_rfl)) ?_
 intro W base args ds gs before hval hW _ hsz _
 have hW' := hW
 obtain ⟨p, q, hA, hV, rfl, hfz, hnd⟩ := hW
 obtain ⟨rfl, rfl⟩ := trodVars_none hV
 rw [Tryz.params3] at hA hval
 obtain ⟨v0, vs0, d0, ds0, p0, q0, hargs, rfl, rfl, h0, r0⟩ := trodAll_cons hA
 obtain ⟨v1, vs1, d1, ds1, p1, q1, rfl, rfl, rfl, h1, r1⟩ := trodAll_cons r0
 obtain ⟨v2, vs2, d2, ds2, p2, q2, rfl, rfl, rfl, h2, r2⟩ := trodAll_cons r1
 obtain ⟨v3, vs3, d3, ds3, p3, q3, rfl, rfl, rfl, h3, r3⟩ := trodAll_cons r2
 obtain ⟨rfl, rfl, rfl⟩ := trodAll_nil r3
 obtain rfl : args = #[v0, v1, v2, v3] := by cases args; simp_all
 obtain ⟨x, dks, dgs, svs, rfl, hx⟩ := open_world hsz (j := 0) rfl rfl (hval 0 _ v0 rfl rfl) h0
 obtain ⟨a, rfl, _, _, _⟩ := open_int Tryz.underlying3 (hval 1 _ v1 rfl rfl) h1
 obtain ⟨b, rfl, _, _, _⟩ := open_int Tryz.underlying3 (hval 2 _ v2 rfl rfl) h2
 obtain ⟨nm, rfl, _, _, wx⟩ := open_string Tryz.underlying9 (hval 3 _ v3 rfl rfl) h3
 refine (viewEdges_any x dks dgs svs a b nm W hx).mono fun e W' ⟨he, hg⟩ => ?_
 subst he
 exact ⟨_, rfl, law_post laidOut rfl (by kernel_rfl) rfl Tryz.underlying4 rfl hW' hg⟩

theorem viewEdges_holds : Rows.ViewEdgesSaid :=
 OpenClaim.holds_of_wide 3 Tryz.f3 rfl rfl rfl rfl rfl rfl rfl ⟨rfl, rfl, rfl, rfl, rfl⟩ rfl rfl rfl rfl rfl (by kernel_rfl) Tryz.func3 (by kernel_rfl)
  (of_decide_eq_true (by kernel_rfl)) (by unfold Func.isWrapper; first | (rw [if_pos (by decide +kernel)]; kernel_rfl) | (rw [if_neg (by decide +kernel)]; exact ⟨rfl, rfl⟩))
  (fun os started H enc _ => viewEdges_lifted os started H enc)

end Go.Proofs.YtkfodkbgmpbmfaaGreat
