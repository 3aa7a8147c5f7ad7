/- Chapter 22, parts on the way: Yc Yd Ye Yl Yo -/
import Derived.WalkKit
import Derived.WalkSpells
import Derived.WalkLawsBesides
import Derived.Deep.QuietTactic
import Derived.BigQuiet
import Derived.Deep.RegionHeld
import Derived.StillTail
import Derived.RangeFuncNested
import Derived.RangeFuncBound
import Derived.RangeFuncCalls
import Derived.RangeFuncLeaves
import Derived.RangeFuncBox
import Derived.Shelf.Abstract
import Derived.Shelf.RegionOpen
import Derived.OwnWalkIn
import Derived.TacticsInMore
import Derived.LoopNIn
import Derived.LoopIn
import Derived.OrdersIn
import Derived.Test.YtkfodkbgmpbmfaaGreatRows
import Derived.WalkMore
import Derived.Lib.Hide
import Derived.Laws.Strings
import Derived.Below
import Derived.Laws.OwnMore
import Derived.Deep.AppendLies
import Derived.Deep.Draws
import Derived.ChangeSame
import Derived.Deep.Slices
import Derived.Deep.Fields
import Derived.SizedLaws
import Derived.Lib.SmallJoins
import Derived.OpenShut
import Derived.Maps.AppendAt
import Derived.RegionTactic
import Derived.OwnWalk
import Derived.Lib.SliceRun
import Derived.Deep.RegionHeld3
import Derived.Laws.EntriesVeiled
import Derived.Outline
import Derived.Laws.IdiomCopy
import Derived.RowKit
import Derived.Maps.OwnIn
import Derived.Deep.OwnRows
import Derived.Deep.RegionLaw
import Derived.Deep.Cut
import Derived.Deep.CutRange
import Derived.Deep.DeepAppendWide
import Derived.Lib.Mul64
import Derived.Shelf.Spec.BitsCarry
import Derived.Laws.Bits64b
import Derived.Shelf.SlSortCmp.WholeK
import Derived.Shelf.SlicesG.Cmp
import Derived.Test.YtkfodkbgmpbmfaaGreatProg
import Derived.Shelf.SlSortCmp.NoneTotal
import Derived.Laws.BytesString
import Derived.Deep.MidRow
import Derived.Laws.ResultCell
import Derived.Test.YtkfodkbgmpbmfaaGreatB01
import Derived.Test.YtkfodkbgmpbmfaaGreatB02
import Derived.Test.YtkfodkbgmpbmfaaGreatB03
import Derived.Test.YtkfodkbgmpbmfaaGreatB04
import Derived.Test.YtkfodkbgmpbmfaaGreatB05
import Derived.Test.YtkfodkbgmpbmfaaGreatB06
import Derived.Test.YtkfodkbgmpbmfaaGreatB07
import Derived.Test.YtkfodkbgmpbmfaaGreatB08
import Derived.Test.YtkfodkbgmpbmfaaGreatB09
import Derived.Test.YtkfodkbgmpbmfaaGreatB10
import Derived.Test.YtkfodkbgmpbmfaaGreatB11
import Derived.Test.YtkfodkbgmpbmfaaGreatB12
import Derived.Test.YtkfodkbgmpbmfaaGreatB13
import Derived.Test.YtkfodkbgmpbmfaaGreatB14
import Derived.Test.YtkfodkbgmpbmfaaGreatB15
import Derived.Test.YtkfodkbgmpbmfaaGreatB16
import Derived.Test.YtkfodkbgmpbmfaaGreatB17
import Derived.Test.YtkfodkbgmpbmfaaGreatB18
import Derived.Test.YtkfodkbgmpbmfaaGreatB19
import Derived.Test.YtkfodkbgmpbmfaaGreatB20
import Derived.Test.YtkfodkbgmpbmfaaGreatB21
import Derived.Test.YtkfodkbgmpbmfaaGreatB22
import Derived.Test.YtkfodkbgmpbmfaaGreatB23
import Derived.Test.YtkfodkbgmpbmfaaGreatB24
import Derived.Test.YtkfodkbgmpbmfaaGreatB25
import Derived.Test.YtkfodkbgmpbmfaaGreatB26
import Derived.Test.YtkfodkbgmpbmfaaGreatB27
import Derived.Test.YtkfodkbgmpbmfaaGreatB28
import Derived.Test.YtkfodkbgmpbmfaaGreatB29
import Derived.Test.YtkfodkbgmpbmfaaGreatB30
import Derived.Test.YtkfodkbgmpbmfaaGreatB31
import Derived.Test.YtkfodkbgmpbmfaaGreatB32
import Derived.Test.YtkfodkbgmpbmfaaGreatB33
import Derived.Test.YtkfodkbgmpbmfaaGreatB34
import Derived.Test.YtkfodkbgmpbmfaaGreatB35
import Derived.Test.YtkfodkbgmpbmfaaGreatB36
import Derived.Test.YtkfodkbgmpbmfaaGreatB37
import Derived.Test.YtkfodkbgmpbmfaaGreatB38
import Derived.Test.YtkfodkbgmpbmfaaGreatB39
import Derived.Test.YtkfodkbgmpbmfaaGreatB40
import Derived.Test.YtkfodkbgmpbmfaaGreatB41
import Derived.Test.YtkfodkbgmpbmfaaGreatB42
import Derived.Test.YtkfodkbgmpbmfaaGreatU01
set_option linter.unusedVariables false
set_option linter.unusedSimpArgs false
namespace Go.Proofs.YtkfodkbgmpbmfaaGreat
open Go.RowKit Go.Shelf
set_option linter.unusedVariables false
set_option linter.unusedSimpArgs false
set_option maxRecDepth 100000
set_option maxHeartbeats 4000000 in
theorem rchan_none (y : Nd) (nm : ByteArray) (w : World) (hy : StsAt w w.heap.size y.ca y.cn y.chans) (hm : y.cn ≤ 1000) (hf : findS y.chans nm = none) :
    Calls Tryz.prog 96 #[NdV y, .string nm, .bool true] w fun e w' => e = .returned (.tuple #[.agg (stV St0).toArray, .int .i64 (flE y.chans nm)]) ∧ Below w.heap.size w w' := by
 have cf := (fun W (hb : Below w.heap.size w W) => srfind_any y.ca y.cn y.cc y.chans nm W ((hy.below hb).more hb.size) (by omega))
 rw [hf] at cf
 simp only [Option.getD_some, Option.getD_none, Option.isSome_some, Option.isSome_none] at cf
 have CF := Lib.hid cf
 clear cf hy hm
 obtain ⟨e0, he⟩ : ∃ e, flE y.chans nm = e := ⟨_, rfl⟩
 rw [he]
 unfold flE at he
 rw [hf] at he
 simp only [] at he
 obtain ⟨id, boot, ticks, wa, wn, wc, turn, sa, sn, sc, ha, hn, hc, ca, cn, cc, want, seen, halves, chans⟩ := y
 simp only [] at CF ⊢
 clear hf
 have HLa : Hid (LocE stV ((w.alloc (.cells #[.int .i64 id, .int .i64 boot, .int .i64 ticks, .slice wa wn wc, .int .i64 turn, .slice sa sn sc, .slice ha hn hc, .slice ca cn cc] 56)).alloc (.cells #[.string ⟨#[]⟩, .int .i64 0, .int .i64 0, .bool false, .int .i64 0, .int .i64 0, .bool false, .int .i64 0, .bool false, .int .i64 0, .int .i64 0, .int .i64 0, .bool false, .int .i64 0, .int .i64 0, .int .i64 0] 96)) (w.heap.size + 1)) := Lib.hid (by have h := LocE.fresh (enc := stV) (w.alloc (.cells #[.int .i64 id, .int .i64 boot, .int .i64 ticks, .slice wa wn wc, .int .i64 turn, .slice sa sn sc, .slice ha hn hc, .slice ca cn cc] 56)) #[.string ⟨#[]⟩, .int .i64 0, .int .i64 0, .bool false, .int .i64 0, .int .i64 0, .bool false, .int .i64 0, .bool false, .int .i64 0, .int .i64 0, .int .i64 0, .bool false, .int .i64 0, .int .i64 0, .int .i64 0] 96 St0 rfl; simpa using h)
 go_enter Tryz.func96, Tryz.ntmps96
 go_wp2_with (fail)
 refine (CF.out _ Qb).mono ?_; rintro e w1 ⟨rfl, hb1⟩
 have HL1 := Lib.hid (HLa.out.below hb1)
 have HB1 : Hid (Below w.heap.size w w1) := Lib.hid (Qb1 hb1)
 have hs1 : w.heap.size + 1 < w1.heap.size := HL1.out.1
 clear hb1 HLa
 have HLb : Hid (LocE stV (w1.alloc (.cells #[.string ⟨#[]⟩, .int .i64 0, .int .i64 0, .bool false, .int .i64 0, .int .i64 0, .bool false, .int .i64 0, .bool false, .int .i64 0, .int .i64 0, .int .i64 0, .bool false, .int .i64 0, .int .i64 0, .int .i64 0] 96)) w1.heap.size) := Lib.hid (LocE.fresh (enc := stV) w1 #[.string ⟨#[]⟩, .int .i64 0, .int .i64 0, .bool false, .int .i64 0, .int .i64 0, .bool false, .int .i64 0, .bool false, .int .i64 0, .int .i64 0, .int .i64 0, .bool false, .int .i64 0, .int .i64 0, .int .i64 0] 96 St0 rfl)
 have HLc := Lib.hid (HL1.out.below ((Below.refl _ _).alloc (Nat.le_refl _) (.cells #[.string ⟨#[]⟩, .int .i64 0, .int .i64 0, .bool false, .int .i64 0, .int .i64 0, .bool false, .int .i64 0, .bool false, .int .i64 0, .int .i64 0, .int .i64 0, .bool false, .int .i64 0, .int .i64 0, .int .i64 0] 96)))
 have HB2 : Hid (Below w.heap.size w (w1.alloc (.cells #[.string ⟨#[]⟩, .int .i64 0, .int .i64 0, .bool false, .int .i64 0, .int .i64 0, .bool false, .int .i64 0, .bool false, .int .i64 0, .int .i64 0, .int .i64 0, .bool false, .int .i64 0, .int .i64 0, .int .i64 0] 96))) := Lib.hid (Qb1 HB1.out)
 go_upto_region 2 with ((with_reducible show wpList _ _ _ (_ :: _) _ _); refine wpList_store_lay rfl 96 (.tmp 8) (.tmp 15) rfl w1.heap.size 0 (stV St0).toArray rfl rfl (HLb.out.there stV_len) (by kernel_rfl) (all_oneCell_toArray (stV_one St0)) (fun w' => LocX stV w' w1.heap.size St0 ∧ LocE stV w' (w.heap.size + 1) ∧ Below w.heap.size w w') ⟨HLb.out.layX stV_len St0 rfl, HLc.out.otherS (by omega) _ _, Below.setCells (by omega) _ _ _ HB2.out⟩ ?_; rintro w2 ⟨hX2, hL2, hB2⟩; have HX2 := Lib.hid hX2; have HL2 := Lib.hid hL2; have HB3 := Lib.hid hB2; clear hX2 hL2 hB2 HLb HLc HB2)
 subst he
 go_wp2_with (first | ((with_reducible show wpList _ _ _ (_ :: _) _ _); refine wpList_load_mid rfl 96 (.tmp 8) rfl w1.heap.size 0 rfl (stV St0) _ HX2.out.range Tryz.underlying96 rfl (by kernel_rfl) ?_) | ((with_reducible show wpList _ _ _ (_ :: _) _ _); refine wpList_store_lay rfl 96 (.tmp 6) (.tmp 19) rfl (w.heap.size + 1) 0 (stV St0).toArray rfl rfl (HL2.out.there stV_len) (by kernel_rfl) (all_oneCell_toArray (stV_one St0)) (fun w' => w'.rangeAt (w.heap.size + 1) 0 (stV St0) ∧ Below w.heap.size w w') ⟨World.rangeAt_setCells_same _ _ _ _ (HL2.out.there stV_len), Below.setCells (by omega) _ _ _ HB3.out⟩ ?_; rintro wz ⟨hYz, hBz⟩))
 refine bodyPost_ret (results_cell_mid2 (p := 6) (u := 7) (ty := 96) rfl _ _ (w.heap.size + 1) (stV St0) _ rfl hYz Tryz.underlying96 rfl (by kernel_rfl)) rfl ⟨?_, hBz⟩
 rfl
set_option maxHeartbeats 4000000 in
theorem rchan_some (y : Nd) (nm : ByteArray) (w : World) (hy : StsAt w w.heap.size y.ca y.cn y.chans) (hm : y.cn ≤ 1000) (s : St) (hf : findS y.chans nm = some s) :
    Calls Tryz.prog 96 #[NdV y, .string nm, .bool true] w fun e w' => e = .returned (.tuple #[.agg (stV s).toArray, .int .i64 (flE y.chans nm)]) ∧ Below w.heap.size w w' := by
 have cf := (fun W (hb : Below w.heap.size w W) => srfind_any y.ca y.cn y.cc y.chans nm W ((hy.below hb).more hb.size) (by omega))
 rw [hf] at cf
 simp only [Option.getD_some, Option.getD_none, Option.isSome_some, Option.isSome_none] at cf
 have CF := Lib.hid cf
 clear cf hy hm
 obtain ⟨e0, he⟩ : ∃ e, flE y.chans nm = e := ⟨_, rfl⟩
 rw [he]
 unfold flE at he
 rw [hf] at he
 simp only [] at he
 obtain ⟨id, boot, ticks, wa, wn, wc, turn, sa, sn, sc, ha, hn, hc, ca, cn, cc, want, seen, halves, chans⟩ := y
 simp only [] at CF ⊢
 clear hf
 have HLa : Hid (LocE stV ((w.alloc (.cells #[.int .i64 id, .int .i64 boot, .int .i64 ticks, .slice wa wn wc, .int .i64 turn, .slice sa sn sc, .slice ha hn hc, .slice ca cn cc] 56)).alloc (.cells #[.string ⟨#[]⟩, .int .i64 0, .int .i64 0, .bool false, .int .i64 0, .int .i64 0, .bool false, .int .i64 0, .bool false, .int .i64 0, .int .i64 0, .int .i64 0, .bool false, .int .i64 0, .int .i64 0, .int .i64 0] 96)) (w.heap.size + 1)) := Lib.hid (by have h := LocE.fresh (enc := stV) (w.alloc (.cells #[.int .i64 id, .int .i64 boot, .int .i64 ticks, .slice wa wn wc, .int .i64 turn, .slice sa sn sc, .slice ha hn hc, .slice ca cn cc] 56)) #[.string ⟨#[]⟩, .int .i64 0, .int .i64 0, .bool false, .int .i64 0, .int .i64 0, .bool false, .int .i64 0, .bool false, .int .i64 0, .int .i64 0, .int .i64 0, .bool false, .int .i64 0, .int .i64 0, .int .i64 0] 96 St0 rfl; simpa using h)
 go_enter Tryz.func96, Tryz.ntmps96
 go_wp2_with (fail)
 refine (CF.out _ Qb).mono ?_; rintro e w1 ⟨rfl, hb1⟩
 have HL1 := Lib.hid (HLa.out.below hb1)
 have HB1 : Hid (Below w.heap.size w w1) := Lib.hid (Qb1 hb1)
 have hs1 : w.heap.size + 1 < w1.heap.size := HL1.out.1
 clear hb1 HLa
 have HLb : Hid (LocE stV (w1.alloc (.cells #[.string ⟨#[]⟩, .int .i64 0, .int .i64 0, .bool false, .int .i64 0, .int .i64 0, .bool false, .int .i64 0, .bool false, .int .i64 0, .int .i64 0, .int .i64 0, .bool false, .int .i64 0, .int .i64 0, .int .i64 0] 96)) w1.heap.size) := Lib.hid (LocE.fresh (enc := stV) w1 #[.string ⟨#[]⟩, .int .i64 0, .int .i64 0, .bool false, .int .i64 0, .int .i64 0, .bool false, .int .i64 0, .bool false, .int .i64 0, .int .i64 0, .int .i64 0, .bool false, .int .i64 0, .int .i64 0, .int .i64 0] 96 St0 rfl)
 have HLc := Lib.hid (HL1.out.below ((Below.refl _ _).alloc (Nat.le_refl _) (.cells #[.string ⟨#[]⟩, .int .i64 0, .int .i64 0, .bool false, .int .i64 0, .int .i64 0, .bool false, .int .i64 0, .bool false, .int .i64 0, .int .i64 0, .int .i64 0, .bool false, .int .i64 0, .int .i64 0, .int .i64 0] 96)))
 have HB2 : Hid (Below w.heap.size w (w1.alloc (.cells #[.string ⟨#[]⟩, .int .i64 0, .int .i64 0, .bool false, .int .i64 0, .int .i64 0, .bool false, .int .i64 0, .bool false, .int .i64 0, .int .i64 0, .int .i64 0, .bool false, .int .i64 0, .int .i64 0, .int .i64 0] 96))) := Lib.hid (Qb1 HB1.out)
 go_upto_region 2 with ((with_reducible show wpList _ _ _ (_ :: _) _ _); refine wpList_store_lay rfl 96 (.tmp 8) (.tmp 15) rfl w1.heap.size 0 (stV s).toArray rfl rfl (HLb.out.there stV_len) (by kernel_rfl) (all_oneCell_toArray (stV_one s)) (fun w' => LocX stV w' w1.heap.size s ∧ LocE stV w' (w.heap.size + 1) ∧ Below w.heap.size w w') ⟨HLb.out.layX stV_len s rfl, HLc.out.otherS (by omega) _ _, Below.setCells (by omega) _ _ _ HB2.out⟩ ?_; rintro w2 ⟨hX2, hL2, hB2⟩; have HX2 := Lib.hid hX2; have HL2 := Lib.hid hL2; have HB3 := Lib.hid hB2; clear hX2 hL2 hB2 HLb HLc HB2)
 have CK : Hid (∀ W, Calls Tryz.prog 29 #[.int .i64 s.ch.kd] W fun x w' => x = .returned (.bool (flowsK s.ch.kd)) ∧ Below W.heap.size W w') := Lib.hid (fun W => srflows_any s.ch.kd W)
 generalize flowsK s.ch.kd = fk at CK he
 have c4 := (HX2.out.2 4 _ rfl).1
 have hs2 : w1.heap.size < w2.heap.size := HX2.out.1
 go_wp2_with (fail)
 refine (CK.out _).mono ?_; rintro e w3 ⟨rfl, hb3⟩
 have HX3 := Lib.hid (HX2.out.below hb3 hs2)
 have HL3 := Lib.hid (HL2.out.below hb3)
 have HB4 : Hid (Below w.heap.size w w3) := Lib.hid (HB3.out.trans (hb3.mono HB3.out.size))
 clear hb3 c4
 cases fk with
 | false =>
  simp only [Bool.false_eq_true, if_false] at he
  subst he
  go_wp2_with (first | ((with_reducible show wpList _ _ _ (_ :: _) _ _); refine wpList_load_mid rfl 96 (.tmp 8) rfl w1.heap.size 0 rfl (stV s) _ HX3.out.range Tryz.underlying96 rfl (by kernel_rfl) ?_) | ((with_reducible show wpList _ _ _ (_ :: _) _ _); refine wpList_store_lay rfl 96 (.tmp 6) (.tmp 26) rfl (w.heap.size + 1) 0 (stV s).toArray rfl rfl (HL3.out.there stV_len) (by kernel_rfl) (all_oneCell_toArray (stV_one s)) (fun w' => w'.rangeAt (w.heap.size + 1) 0 (stV s) ∧ Below w.heap.size w w') ⟨World.rangeAt_setCells_same _ _ _ _ (HL3.out.there stV_len), Below.setCells (by omega) _ _ _ HB4.out⟩ ?_; rintro wz ⟨hYz, hBz⟩))
  refine bodyPost_ret (results_cell_mid2 (p := 6) (u := 7) (ty := 96) rfl _ _ (w.heap.size + 1) (stV s) _ rfl hYz Tryz.underlying96 rfl (by kernel_rfl)) rfl ⟨?_, hBz⟩
  rfl
 | true =>
  simp only [if_true] at he
  subst he
  go_wp2_with (first | ((with_reducible show wpList _ _ _ (_ :: _) _ _); refine wpList_load_mid rfl 96 (.tmp 8) rfl w1.heap.size 0 rfl (stV s) _ HX3.out.range Tryz.underlying96 rfl (by kernel_rfl) ?_) | ((with_reducible show wpList _ _ _ (_ :: _) _ _); refine wpList_store_lay rfl 96 (.tmp 6) (.tmp 27) rfl (w.heap.size + 1) 0 (stV s).toArray rfl rfl (HL3.out.there stV_len) (by kernel_rfl) (all_oneCell_toArray (stV_one s)) (fun w' => w'.rangeAt (w.heap.size + 1) 0 (stV s) ∧ Below w.heap.size w w') ⟨World.rangeAt_setCells_same _ _ _ _ (HL3.out.there stV_len), Below.setCells (by omega) _ _ _ HB4.out⟩ ?_; rintro wz ⟨hYz, hBz⟩))
  refine bodyPost_ret (results_cell_mid2 (p := 6) (u := 7) (ty := 96) rfl _ _ (w.heap.size + 1) (stV s) _ rfl hYz Tryz.underlying96 rfl (by kernel_rfl)) rfl ⟨?_, hBz⟩
  rfl
theorem rchan_any (y : Nd) (nm : ByteArray) (w : World) (hy : StsAt w w.heap.size y.ca y.cn y.chans) (hm : y.cn ≤ 1000) :
    Calls Tryz.prog 96 #[NdV y, .string nm, .bool true] w fun e w' => e = .returned (.tuple #[.agg (stV ((findS y.chans nm).getD St0)).toArray, .int .i64 (flE y.chans nm)]) ∧ Below w.heap.size w w' := by
 cases hf : findS y.chans nm with
 | none => exact rchan_none y nm w hy hm hf
 | some s => exact rchan_some y nm w hy hm s hf
end Go.Proofs.YtkfodkbgmpbmfaaGreat
namespace Go.Proofs.YtkfodkbgmpbmfaaGreat
open Go.RowKit Go.Shelf
set_option linter.unusedVariables false
set_option linter.unusedSimpArgs false
set_option maxRecDepth 100000
theorem step_app1H {P : Program} {α : Type} {enc : α → List Value} {k bytes : Nat} (hk : ∀ x, (enc x).length = k) (h1 : ∀ x, ∀ u ∈ enc x, u.oneCell' = true) (hk0 : 0 < k) {ops : Array Oper} {o : Oper} {a : Act} {w : World} {K : Act → World → Prop} {Q : Exit → Act → World → Prop} {E : Prop} (hgd : o.guard = none) (s x : Operand) (t e : TypeId)
    (ho : o.op = .call { callee := .builtin .append, args := #[s, x], argTypes := #[t, t] }) (ht : P.underlying t = some (.slice e)) {z : Value} (hi : (P.info? e).map (fun i => (i.zero, i.size, i.bytes)) = some (some z, k, bytes)) (hzs : z.cells.size = k)
    (base : Nat) (OL : List α) (A2 : Option Addr) (n2 cp2 : Nat) (hn2 : OL.length = n2) (hs : a.eval s = .slice A2 n2 cp2) (hown : OwnE enc k e w base (.slice A2 n2 cp2) OL)
    (bx : Nat) (hbx : bx < w.heap.size) (hne : (Value.slice A2 n2 cp2).ownBlock ≠ some bx)
    (g : Addr) (c : Nat) (hx : a.eval x = .slice (some g) 1 c) (y : α) (hr : CellsE enc w g y) (hg : g.block < w.heap.size) (h63 : n2 + 1 ≤ maxLen) (hb : (n2 + 1) * bytes ≤ 140737488355328) (hbase : base ≤ w.heap.size)
    (h : ∀ O3 A3 n3 cp3 w3, O3 = OL ++ [y] → O3.length = n3 → OwnE enc k e w3 base (.slice A3 n3 cp3) O3 → Below base w w3 → w3.heap[bx]? = w.heap[bx]? → (Value.slice A3 n3 cp3).ownBlock ≠ some bx → K (a.put o.dst (.slice A3 n3 cp3)) w3) :
    if Region.wanted o (yielded ops a.tmps) = true then Oper.wp P o a w K Q else E := by
 obtain ⟨i0, hi0, hz0, hz1, hz2⟩ := info_parts hi
 subst hn2
 have hr2 : Reads w w.heap.size k (some g) 1 (enc y) := ⟨by rw [hk, Nat.one_mul], fun _ => ⟨g, rfl, hg, hr⟩⟩
 refine step_append_any w hgd s x t ho base e i0 z k bytes ht hi0 hz0 hz1 hz2 hzs hk0 _ OL.length (flatE enc OL) hs hown w.heap.size (some g) 1 c (enc y) hx hr2 (h1 y) h63 hb hbase ?_
 intro v' w' hown' hg' hat'
 obtain ⟨A3, c3, rfl⟩ := row_slice' hown'
 have hbl := (row_grown hown hg' hbase).1
 have hl : (OL ++ [y]).length = OL.length + 1 := by simp
 refine h (OL ++ [y]) A3 _ c3 w' rfl hl (by unfold OwnE; rw [flatE_snoc, hl]; exact hown') hbl (hg'.block bx hbx (Ne.symm hne)) ?_
 rcases hat' with e2 | e2
 · rw [e2]; exact hne
 · rw [e2]
   intro e3
   have := Option.some.inj e3
   omega
theorem entry_inf : (Tryz.prog.info? 232).map (fun i => (i.zero, i.size, i.bytes)) = some (some (.agg #[.int .i64 0, .int .i64 0]), 2, 16) := by kernel_rfl
theorem told_any (x : Int) (w : World) : Calls Tryz.prog 129 #[.int .i64 x] w fun e w' => e = .returned (.tuple #[.int .i64 (tellN x).1, .int .i64 (tellN x).2]) ∧ w = w' := by
 unfold tellN Rg.flowsB
 by_cases h1 : -2147483647 ≤ x
 · by_cases h2 : x ≤ 2147483647
   · rw [decide_eq_true h1, decide_eq_true h2]
     go_enter Tryz.func129, Tryz.ntmps129
     go_wp2
     go_ret2
     exact ⟨rfl, rfl⟩
   · rw [decide_eq_true h1, decide_eq_false h2]
     go_enter Tryz.func129, Tryz.ntmps129
     go_wp2
     go_ret2
     exact ⟨rfl, rfl⟩
 · rw [decide_eq_false h1]
   go_enter Tryz.func129, Tryz.ntmps129
   go_wp2
   go_ret2
   exact ⟨rfl, rfl⟩
theorem box_cell {w w' : World} {b o : Nat} {v : Value} (h : w'.heap[b]? = w.heap[b]?) (hc : w.cell? ⟨b, o, none⟩ = some v) : w'.cell? ⟨b, o, none⟩ = some v := (World.cell?_of_block (w := w) (w' := w') (a := ⟨b, o, none⟩) h).trans hc
set_option maxHeartbeats 8000000 in
theorem rpage_any (id : Int) (A : Option Addr) (n cp : Nat) (hs : List Hf) (nm : ByteArray) (w : World) (hr : HfsAt w w.heap.size A n hs) (hn : n ≤ 16) (hl8 : ∀ h ∈ hs, h.lines.length ≤ 8) :
    Calls Tryz.prog 170 #[.int .i64 id, .slice A n cp, .string nm] w fun e w' => ∃ A2 n2 c2, e = .returned (.slice A2 n2 c2) ∧ (outsN id hs nm).length = n2 ∧ OwnE Bg.encL 2 232 w' w.heap.size (.slice A2 n2 c2) (outsN id hs nm) ∧ Below w.heap.size w w' := by
 have HR := Lib.hid hr.1
 have HRL := Lib.hid hr.2
 have HL8 := Lib.hid hl8
 clear hr hl8
 go_enter Tryz.func170, Tryz.ntmps170
 go_wp2
 go_loopw [8, 7] (fun i l w' => ∃ (k : Nat) (OL : List (Int × Int)) (A2 : Option Addr) (n2 c2 : Nat), k ≤ n ∧ i = .int .i64 k ∧ l = .slice A2 n2 c2 ∧ Hid (OL.length = n2) ∧ Hid (OL = outsN id (hs.take k) nm) ∧ Hid (OwnE Bg.encL 2 232 w' w.heap.size (.slice A2 n2 c2) OL) ∧ KeptC w [] [] w') (fun i _ _ => n - (intOf i).toNat)
 case atStart => exact ⟨0, [], none, 0, 0, Nat.zero_le _, rfl, rfl, Lib.hid rfl, Lib.hid rfl, Lib.hid (OwnE.nil _ _ _), Qk⟩
 case round =>
  obtain ⟨k, OL, A2, n2, c2, hk, rfl, rfl, HN2, HOL, HO, hK⟩ := hrel
  have kb0 := hK.1
  clear hK
  have hs0 := kb0.size
  by_cases hlt : k < n
  rotate_left
  · obtain rfl : k = n := by omega
    go_wp2
    go_ret
    have e1 : OL = outsN id hs nm := by rw [HOL.out, List.take_of_length_le (Nat.le_of_eq HR.out.1)]
    exact ⟨A2, n2, c2, rfl, by rw [← e1]; exact HN2.out, by rw [← e1]; exact HO.out, kb0⟩
  · obtain ⟨ad, x, rfl, hab, hx, h4⟩ := HR.out.at hlt
    obtain ⟨P, hP⟩ : ∃ P, ad.add (k * 6) = P := ⟨_, rfl⟩
    rw [hP] at h4 hab
    obtain ⟨d0, d1, d2, d3, d4, d5⟩ := (hf6_of h4).below hab kb0
    have hPw : P.block < wr.heap.size := by omega
    have HX := Lib.hid hx
    have HLX := Lib.hid (HRL.out x (List.mem_of_getElem? hx)).1
    have HX8 := Lib.hid (HL8.out x (List.mem_of_getElem? hx))
    have HPL : Hid (OL.length ≤ 8 * k) := Lib.hid (by
     rw [HOL.out]
     have h := outsN_len (id := id) (nm := nm) (hs.take k) (fun h hh => HL8.out h (List.mem_of_mem_take hh))
     have := List.length_take_le k hs
     omega)
    clear h4 hx
    obtain ⟨peer, hboot, life, la, ln, lc, pend, miss, lines⟩ := x
    simp only [] at d0 d1 d2 d3 d4 d5 HLX HX8
    obtain ⟨w1, h⟩ : ∃ w1, w1 = wr := ⟨_, rfl⟩
    subst h
    have HNE : Hid ((Value.slice A2 n2 c2).ownBlock ≠ some w1.heap.size) := Lib.hid (by
     intro e
     rcases HO.out.2 with ⟨e2, _⟩ | ⟨g, cap, cur, e2, _, hg, _⟩
     · rw [e2] at e; simp [Value.ownBlock] at e
     · rw [e2] at e
       have h1 : g = w1.heap.size := by simpa [Value.ownBlock] using e
       have := (Array.getElem?_eq_some_iff.1 hg).1
       omega)
    go_wp2
    go_loopw [10, 7] (fun i l w' => ∃ (j : Nat) (O2 : List (Int × Int)) (A3 : Option Addr) (n3 c3 : Nat), j ≤ ln ∧ i = .int .i64 j ∧ l = .slice A3 n3 c3 ∧ Hid (O2.length = n3) ∧ Hid (O2 = OL ++ outsH id nm ⟨peer, hboot, life, la, ln, lc, pend, miss, lines⟩ (lines.take j)) ∧ Hid (OwnE Bg.encL 2 232 w' w.heap.size (.slice A3 n3 c3) O2) ∧ Hid ((Value.slice A3 n3 c3).ownBlock ≠ some w1.heap.size) ∧ KeptC w [(⟨w1.heap.size, 0, none⟩, .int .i64 peer), (⟨w1.heap.size, 3, none⟩, .slice la ln lc)] [] w') (fun i _ _ => ln - (intOf i).toNat)
    case atStart => exact ⟨0, OL, A2, n2, c2, Nat.zero_le _, rfl, rfl, HN2, Lib.hid (by simp [outsH]), Lib.hid (HO.out.below ((Below.refl _ _).alloc (Nat.le_refl _) _)), HNE, (Qk1 kb0)⟩
    case round =>
     obtain ⟨j, O2, A3, n3, c3, hj, rfl, rfl, HN3, HO2, HW2, HNB, hK⟩ := hrel
     clear d0 d1 d2 d3 d4 d5 kb0 HNE HO HN2
     simp only [KeptC, List.forall_mem_cons] at hK; obtain ⟨kb2, ⟨kc2_0, kc2_1, _⟩, _⟩ := hK
     have hs2 := kb2.size
     have hz2 : w1.heap.size < wr.heap.size := cell_lt kc2_0
     by_cases hlj : j < ln
     rotate_left
     · obtain rfl : j = ln := by omega
       have HE : Hid (O2 = outsN id (hs.take (k + 1)) nm) := Lib.hid (by rw [outsN_next HX.out, HO2.out, HOL.out, List.take_of_length_le (Nat.le_of_eq HLX.out.1)])
       go_wp2
       go_roundw
       case rel => exact ⟨k + 1, O2, A3, n3, c3, by omega, by go_num, rfl, HN3, HE, HW2, (Qk1 kb2)⟩
       case measure => simp [intOf]; omega
     · obtain ⟨adl, lx, rfl, habl, hxl, h7⟩ := HLX.out.at hlj
       obtain ⟨Q, hQ⟩ : ∃ Q, adl.add (j * 4) = Q := ⟨_, rfl⟩
       rw [hQ] at h7 habl
       obtain ⟨l0, l1, l2, l3⟩ := (ln4_of h7).below habl kb2
       have hQw : Q.block < wr.heap.size := by omega
       have HXL := Lib.hid hxl
       have hwj : IntKind.i64.wrap ((j : Int) + 1) = (j : Int) + 1 := by rw [IntKind.wrap_i64]; have h1 := HX8.out; have h2 := HLX.out.1; omega
       clear h7 hxl
       obtain ⟨lnm, lver, lwr, lflow⟩ := lx
       simp only [] at l0 l1 l2 l3
       cases he : (lnm.toList == nm.toList) with
       | false =>
        have HE : Hid (isL nm ⟨lnm, lver, lwr, lflow⟩ = false) := Lib.hid he
        go_wp2
        go_roundw
        case rel => exact ⟨j + 1, O2, A3, n3, c3, by omega, by go_num, rfl, HN3, Lib.hid (by rw [outsH_next HXL.out, HE.out, HO2.out]; simp), HW2, HNB, (Qk1 kb2)⟩
        case measure => simp [intOf]; omega
       | true =>
        have HE : Hid (isL nm ⟨lnm, lver, lwr, lflow⟩ = true) := Lib.hid he
        have HB1 : Hid (n3 + 1 ≤ maxLen ∧ (n3 + 1) * 16 ≤ 140737488355328) := Lib.hid (by
         have h1 := outsH_len id nm ⟨peer, hboot, life, some adl, ln, lc, pend, miss, lines⟩ (lines.take j)
         have h2 := List.length_take_le j lines
         have h3 := HX8.out
         have h4 := HLX.out.1
         have h5 := HPL.out
         have h6 := HN3.out
         rw [HO2.out, List.length_append] at h6
         simp only [maxLen]
         omega)
        go_wp2_with (fail)
        have kS : ∀ a b : World, (Below w.heap.size w a ∧ a.cell? ⟨w1.heap.size, 0, none⟩ = some (.int .i64 peer) ∧ a.cell? ⟨w1.heap.size, 3, none⟩ = some (.slice (some adl) ln lc) ∧ a.cell? ⟨Q.block, Q.off + 1, none⟩ = some (.int .i64 lver) ∧ a.cell? ⟨Q.block, Q.off + 2, none⟩ = some (.int .i64 lwr) ∧ a.cell? ⟨Q.block, Q.off + 3, none⟩ = some (.int .i64 lflow)) → Below a.heap.size a b → (Below w.heap.size w b ∧ b.cell? ⟨w1.heap.size, 0, none⟩ = some (.int .i64 peer) ∧ b.cell? ⟨w1.heap.size, 3, none⟩ = some (.slice (some adl) ln lc) ∧ b.cell? ⟨Q.block, Q.off + 1, none⟩ = some (.int .i64 lver) ∧ b.cell? ⟨Q.block, Q.off + 2, none⟩ = some (.int .i64 lwr) ∧ b.cell? ⟨Q.block, Q.off + 3, none⟩ = some (.int .i64 lflow)) := by
         rintro a b ⟨k0, k1, k2, k3, k4, k5⟩ hb
         exact ⟨k0.trans (hb.mono k0.size), (hb.cell (p := ⟨w1.heap.size, 0, none⟩) (cell_lt k1)).trans k1, (hb.cell (p := ⟨w1.heap.size, 3, none⟩) (cell_lt k2)).trans k2, (hb.cell (p := ⟨Q.block, Q.off + 1, none⟩) (cell_lt k3)).trans k3, (hb.cell (p := ⟨Q.block, Q.off + 2, none⟩) (cell_lt k4)).trans k4, (hb.cell (p := ⟨Q.block, Q.off + 3, none⟩) (cell_lt k5)).trans k5⟩
        have KS := Lib.hid kS
        have kT : ∀ a b : World, (Below w.heap.size w a ∧ a.cell? ⟨w1.heap.size, 0, none⟩ = some (.int .i64 peer) ∧ a.cell? ⟨w1.heap.size, 3, none⟩ = some (.slice (some adl) ln lc) ∧ a.cell? ⟨Q.block, Q.off + 1, none⟩ = some (.int .i64 lver) ∧ a.cell? ⟨Q.block, Q.off + 2, none⟩ = some (.int .i64 lwr) ∧ a.cell? ⟨Q.block, Q.off + 3, none⟩ = some (.int .i64 lflow)) → Below w.heap.size a b → b.heap[w1.heap.size]? = a.heap[w1.heap.size]? → (Below w.heap.size w b ∧ b.cell? ⟨w1.heap.size, 0, none⟩ = some (.int .i64 peer) ∧ b.cell? ⟨w1.heap.size, 3, none⟩ = some (.slice (some adl) ln lc) ∧ b.cell? ⟨Q.block, Q.off + 1, none⟩ = some (.int .i64 lver) ∧ b.cell? ⟨Q.block, Q.off + 2, none⟩ = some (.int .i64 lwr) ∧ b.cell? ⟨Q.block, Q.off + 3, none⟩ = some (.int .i64 lflow)) := by
         rintro a b ⟨k0, k1, k2, k3, k4, k5⟩ hb he
         exact ⟨k0.trans hb, box_cell he k1, box_cell he k2, (hb.cell (p := ⟨Q.block, Q.off + 1, none⟩) habl).trans k3, (hb.cell (p := ⟨Q.block, Q.off + 2, none⟩) habl).trans k4, (hb.cell (p := ⟨Q.block, Q.off + 3, none⟩) habl).trans k5⟩
        have KT := Lib.hid kT
        have HI : Hid (Below w.heap.size w wr ∧ wr.cell? ⟨w1.heap.size, 0, none⟩ = some (.int .i64 peer) ∧ wr.cell? ⟨w1.heap.size, 3, none⟩ = some (.slice (some adl) ln lc) ∧ wr.cell? ⟨Q.block, Q.off + 1, none⟩ = some (.int .i64 lver) ∧ wr.cell? ⟨Q.block, Q.off + 2, none⟩ = some (.int .i64 lwr) ∧ wr.cell? ⟨Q.block, Q.off + 3, none⟩ = some (.int .i64 lflow)) := Lib.hid ⟨kb2, kc2_0, kc2_1, l1, l2, l3⟩
        have HZ1 : Hid (w1.heap.size < wr.heap.size ∧ w.heap.size ≤ w1.heap.size) := Lib.hid ⟨hz2, by omega⟩
        clear kS kT
        go_region_held3 (fun w' => Below w.heap.size w w' ∧ w'.cell? ⟨w1.heap.size, 0, none⟩ = some (.int .i64 peer) ∧ w'.cell? ⟨w1.heap.size, 3, none⟩ = some (.slice (some adl) ln lc) ∧ w'.cell? ⟨Q.block, Q.off + 1, none⟩ = some (.int .i64 lver) ∧ w'.cell? ⟨Q.block, Q.off + 2, none⟩ = some (.int .i64 lwr) ∧ w'.cell? ⟨Q.block, Q.off + 3, none⟩ = some (.int .i64 lflow)) (repeat (first | with_reducible assumption | with_reducible exact HI.out | (with_reducible refine KS.out _ _ ?_ ((Below.refl _ _).alloc (Nat.le_refl _) _)) | (with_reducible refine KS.out _ _ ?_ (Below.drew (Below.refl _ _))) | (with_reducible refine KS.out _ _ ?_ (by with_reducible assumption)))) (first | (refine step_app1H Bg.encL_len Bg.encL_one (by decide) rfl (.tmp 36) (.tmp 50) 229 232 rfl Tryz.underlying229 entry_inf rfl w.heap.size O2 A3 n3 c3 HN3.out rfl (by exact (HW2.out.below HB9.out).below ((Below.refl _ _).alloc (Nat.le_refl _) _)) w1.heap.size (by simp; omega) HNB.out ⟨w9.heap.size, 0, none⟩ 1 rfl (outL id peer ⟨lnm, lver, lwr, lflow⟩) (fun i u hu => by have h := ((LocX.fresh (enc := Bg.encL) w9 #[.int .i64 peer, .int .i64 (Rg.outR lver lwr lflow id peer)] 232 (outL id peer ⟨lnm, lver, lwr, lflow⟩) rfl).2 i u hu).1; rw [Addr.add_lit, Nat.zero_add]; exact h) (by simp) HB1.out.1 HB1.out.2 (by simp; omega) ?_; rintro O4 A4 n4 c4 w4 hO4 hn4 hown4 hb4 hbx4 hne4; have hS4 : Below w.heap.size w w4 ∧ w4.cell? ⟨w1.heap.size, 0, none⟩ = some (.int .i64 peer) ∧ w4.cell? ⟨w1.heap.size, 3, none⟩ = some (.slice (some adl) ln lc) ∧ w4.cell? ⟨Q.block, Q.off + 1, none⟩ = some (.int .i64 lver) ∧ w4.cell? ⟨Q.block, Q.off + 2, none⟩ = some (.int .i64 lwr) ∧ w4.cell? ⟨Q.block, Q.off + 3, none⟩ = some (.int .i64 lflow) := KT.out _ _ (by with_reducible assumption) hb4 hbx4; have HO4 := Lib.hid hO4; have HN4 := Lib.hid hn4; have HW4 := Lib.hid hown4; have HNE4 := Lib.hid hne4; clear hO4 hn4 hown4 hne4) | ((with_reducible refine (Rg.rout_any _ _ _ _ _ _).mono ?_); rintro e w9 ⟨rfl, hb9⟩; have hS9 : Below w.heap.size w w9 ∧ w9.cell? ⟨w1.heap.size, 0, none⟩ = some (.int .i64 peer) ∧ w9.cell? ⟨w1.heap.size, 3, none⟩ = some (.slice (some adl) ln lc) ∧ w9.cell? ⟨Q.block, Q.off + 1, none⟩ = some (.int .i64 lver) ∧ w9.cell? ⟨Q.block, Q.off + 2, none⟩ = some (.int .i64 lwr) ∧ w9.cell? ⟨Q.block, Q.off + 3, none⟩ = some (.int .i64 lflow) := KS.out _ _ (by with_reducible assumption) hb9; have HB9 : Hid (Below wr.heap.size wr w9) := Lib.hid ((Qb : Below wr.heap.size wr _).trans (hb9.mono (by first | (simp; done) | (simp; omega) | omega))); have hz9 : w1.heap.size < w9.heap.size := cell_lt hS9.2.1; have hz9b : wr.heap.size ≤ w9.heap.size := HB9.out.size))
        have HE4 : Hid (O4 = OL ++ outsH id nm ⟨peer, hboot, life, some adl, ln, lc, pend, miss, lines⟩ (lines.take (j + 1))) := Lib.hid (by rw [outsH_next HXL.out, HE.out, HO4.out, HO2.out]; simp)
        have kb4 := hS4.1
        have e40 := hS4.2.1
        have e43 := hS4.2.2.1
        go_wp2
        go_roundw
        case rel => exact ⟨j + 1, O4, A4, n4, c4, by omega, by go_num, rfl, HN4, HE4, HW4, HNE4, (Qk1 kb4)⟩
        case measure => simp [intOf]; omega
end Go.Proofs.YtkfodkbgmpbmfaaGreat
namespace Go.Proofs.YtkfodkbgmpbmfaaGreat
open Go.RowKit Go.Shelf
set_option linter.unusedVariables false
set_option linter.unusedSimpArgs false
set_option maxRecDepth 100000
theorem sumO_take {L : List (Int × Int)} {k : Nat} {x : Int × Int} (h : L[k]? = some x) : sumO (L.take (k + 1)) = sumO (L.take k) + x.2 := by
 unfold sumO
 rw [List.take_add_one, h]
 simp
theorem sumO_bd {L : List (Int × Int)} (h : ∀ x ∈ L, -2147483647 ≤ x.2 ∧ x.2 ≤ 2147483647) : ∀ k : Nat, -2147483647 * (k : Int) ≤ sumO (L.take k) ∧ sumO (L.take k) ≤ 2147483647 * (k : Int)
 | 0 => by simp [sumO]
 | k + 1 => by
  have h1 := sumO_bd h k
  cases hk : L[k]? with
  | none =>
   have e : L.take (k + 1) = L.take k := by rw [List.take_add_one, hk]; simp
   rw [e]
   omega
  | some x =>
   have h2 := h x (List.mem_of_getElem? hk)
   rw [sumO_take hk]
   omega
theorem outsN_mem {id : Int} {hs : List Hf} {nm : ByteArray} {x : Int × Int} (h : x ∈ outsN id hs nm) : (∃ y ∈ hs, x.1 = y.peer) ∧ -2147483647 ≤ x.2 ∧ x.2 ≤ 2147483647 := by
 unfold outsN at h
 obtain ⟨y, hy, h2⟩ := List.mem_flatMap.1 h
 obtain ⟨l, _, rfl⟩ := List.mem_map.1 h2
 exact ⟨⟨y, hy, rfl⟩, outL_bd id y.peer l⟩
set_option maxHeartbeats 4000000 in
theorem rtaken_any (id : Int) (A : Option Addr) (n cp : Nat) (hs : List Hf) (nm : ByteArray) (w : World) (hr : HfsAt w w.heap.size A n hs) (hn : n ≤ 16) (hl8 : ∀ h ∈ hs, h.lines.length ≤ 8) (hp : ∀ h ∈ hs, 0 ≤ h.peer) :
    Calls Tryz.prog 130 #[.int .i64 id, .slice A n cp, .string nm, .int .i64 (-1)] w fun e w' => e = .returned (.int .i64 (sumO (outsN id hs nm))) ∧ Below w.heap.size w w' := by
 have C := Lib.hid (rpage_any id A n cp hs nm w hr hn hl8)
 have HLN : Hid ((outsN id hs nm).length ≤ 128) := Lib.hid (by have h1 := outsN_len (id := id) (nm := nm) hs hl8; have h2 := hr.1.1; omega)
 have HMB : Hid (∀ x ∈ outsN id hs nm, 0 ≤ x.1 ∧ -2147483647 ≤ x.2 ∧ x.2 ≤ 2147483647) := Lib.hid (fun x hx => by
  obtain ⟨⟨y, hy, e⟩, h2⟩ := outsN_mem hx
  exact ⟨by rw [e]; exact hp y hy, h2⟩)
 clear hr hl8 hp
 generalize outsN id hs nm = L at C HLN HMB ⊢
 go_enter Tryz.func130, Tryz.ntmps130
 go_wp2_with (fail)
 refine C.out.mono ?_; rintro e w1 ⟨A2, n2, c2, rfl, hn2, hown, hb1⟩
 have HL : Hid (RowsE Bg.encL 2 w1 w1.heap.size A2 n2 L) := Lib.hid (by
  obtain ⟨A4, c4, e, h⟩ := OwnE.at_ Bg.encL_len hown
  injection e with e1 e2 e3
  rw [e1, e2]
  exact h)
 have HB := Lib.hid hb1
 have HN : Hid (n2 ≤ 128) := Lib.hid (by rw [← hn2]; exact HLN.out)
 have HN2 := Lib.hid hn2
 clear hown hb1 C hn2
 go_wp2
 go_loopw [11, 9] (fun i s w' => ∃ (k : Nat) (S : Int), k ≤ n2 ∧ i = .int .i64 k ∧ s = .int .i64 S ∧ Hid (S = sumO (L.take k)) ∧ w' = w1) (fun i _ _ => n2 - (intOf i).toNat)
 case atStart => exact ⟨0, 0, Nat.zero_le _, rfl, rfl, Lib.hid rfl, rfl⟩
 case round =>
  obtain ⟨k, S, hk, rfl, rfl, HS, rfl⟩ := hrel
  by_cases hlt : k < n2
  rotate_left
  · obtain rfl : k = n2 := by omega
    have HE : Hid (S = sumO L) := Lib.hid (by rw [HS.out, List.take_of_length_le (by have := HN2.out; omega)])
    go_wp2
    go_ret
    exact ⟨by first | rfl | (rw [HE.out]; rfl), HB.out⟩
  · obtain ⟨ad, x, rfl, hab, hx, h4⟩ := HL.out.at hlt
    obtain ⟨P, hP⟩ : ∃ P, ad.add (k * 2) = P := ⟨_, rfl⟩
    rw [hP] at h4 hab
    have c0 : wr.cell? P = some (.int .i64 x.1) := by have := h4 0 _ rfl; rwa [Bg.add_z] at this
    have c1 : wr.cell? ⟨P.block, P.off + 1, none⟩ = some (.int .i64 x.2) := by have := h4 1 _ rfl; rwa [Bg.add_next] at this
    have hm := HMB.out x (List.mem_of_getElem? hx)
    have q : (x.1 != -1) = true := by simp; omega
    obtain ⟨T, hT⟩ : ∃ T, S + x.2 = T := ⟨_, rfl⟩
    have HT : Hid (T = sumO (L.take (k + 1))) := Lib.hid (by rw [sumO_take hx, ← HS.out, hT])
    have hw : IntKind.i64.wrap (S + x.2) = T := by
     have h1 := sumO_bd (L := L) (fun x hx => (HMB.out x hx).2) (k + 1)
     have h2 := HT.out
     have h3 := HN.out
     rw [IntKind.wrap_i64, hT]
     omega
    have hwk : IntKind.i64.wrap ((k : Int) + 1) = (k : Int) + 1 := by rw [IntKind.wrap_i64]; have := HN.out; omega
    clear h4 hx hm hT
    go_wp2
    go_roundw
    case rel => exact ⟨k + 1, T, by omega, by go_num, rfl, HT, by first | rfl | trivial⟩
    case measure => simp [intOf]; omega
set_option maxHeartbeats 4000000 in
theorem rest11_any (id inp : Int) (A : Option Addr) (n cp : Nat) (hs : List Hf) (nm : ByteArray) (w : World) (hr : HfsAt w w.heap.size A n hs) (hn : n ≤ 16) (hl8 : ∀ h ∈ hs, h.lines.length ≤ 8) (hp : ∀ h ∈ hs, 0 ≤ h.peer) (hf1 : -4294967296 ≤ inp) (hf2 : inp ≤ 4294967296) :
    Calls Tryz.prog 97 #[.int .i64 id, .int .i64 inp, .slice A n cp, .string nm] w fun e w' => e = .returned (.tuple #[.int .i64 (tellN (inp - sumO (outsN id hs nm))).1, .int .i64 (tellN (inp - sumO (outsN id hs nm))).2]) ∧ Below w.heap.size w w' := by
 have C := Lib.hid (rtaken_any id A n cp hs nm w hr hn hl8 hp)
 have hbd := sumO_bd (L := outsN id hs nm) (fun x hx => (outsN_mem hx).2) (outsN id hs nm).length
 have hln := outsN_len (id := id) (nm := nm) hs hl8
 have hl := hr.1.1
 rw [List.take_length] at hbd
 generalize hL : sumO (outsN id hs nm) = L at C hbd ⊢
 obtain ⟨T, hT⟩ : ∃ T, inp - L = T := ⟨_, rfl⟩
 rw [hT]
 have hw : IntKind.i64.wrap (inp - L) = T := by rw [IntKind.wrap_i64, hT]; omega
 clear hr hl8 hp hbd hln hl hT hf1 hf2 hL
 have ct := (fun W => told_any T W)
 generalize tellN T = q at ct ⊢
 obtain ⟨qa, qb⟩ := q
 have CT := Lib.hid ct
 clear ct
 go_enter Tryz.func97, Tryz.ntmps97
 go_wp2_with (fail)
 refine C.out.mono ?_; rintro e w1 ⟨rfl, hb1⟩
 have HB := Lib.hid hb1
 clear hb1
 go_wp2_with (fail)
 refine (CT.out _).mono ?_; rintro e w2 ⟨rfl, rfl⟩
 go_wp2
 go_ret2
 exact ⟨by first | rfl | (simp; done), HB.out⟩
set_option maxHeartbeats 4000000 in
theorem rest20_any (y : Nd) (nm : ByteArray) (w : World) (hy : NdAt w w.heap.size y) (hm : y.cn ≤ 1000) (hn : y.hn ≤ 16) (hl8 : ∀ h ∈ y.halves, h.lines.length ≤ 8) (hp : ∀ h ∈ y.halves, 0 ≤ h.peer) (hf1 : -4294967296 ≤ ((findS y.chans nm).getD St0).inp) (hf2 : ((findS y.chans nm).getD St0).inp ≤ 4294967296) :
    Calls Tryz.prog 58 #[NdV y, .string nm] w fun e w' => e = .returned (.tuple #[.int .i64 (estB y nm).1, .int .i64 (estB y nm).2]) ∧ Below w.heap.size w w' := by
 have CF := Lib.hid (fun W (hb : Below w.heap.size w W) => rchan_any y nm W ((hy.2.2.2.below hb).more hb.size) hm)
 have ce := (fun W (hb : Below w.heap.size w W) => rest11_any y.id ((findS y.chans nm).getD St0).inp y.ha y.hn y.hc y.halves nm W ((hy.2.2.1.below hb).more hb.size) hn hl8 hp hf1 hf2)
 unfold estB
 generalize (findS y.chans nm).getD St0 = z at CF ce hf1 hf2 ⊢
 generalize flE y.chans nm = f0 at CF ⊢
 have e1 : tellN (z.inp - sumO (outsN y.id y.halves nm)) = estN y z nm := rfl
 have e2 : tellN (z.inp + (-1) * sumT (fun _ => true) (outsN y.id y.halves nm)) = estN y z nm := by
  rw [sumT_all]
  unfold estN
  congr 1
  omega
 first | rw [e1] at ce | rw [e2] at ce
 generalize estN y z nm = q at ce ⊢
 obtain ⟨qa, qb⟩ := q
 have CE := Lib.hid ce
 clear ce hy hm hn hl8 hp hf1 hf2 e1 e2
 obtain ⟨id, boot, ticks, wa, wn, wc, turn, sa, sn, sc, ha, hn, hc, ca, cn, cc, want, seen, halves, chans⟩ := y
 simp only [] at CF CE ⊢
 go_enter Tryz.func58, Tryz.ntmps58
 go_wp2_with (fail)
 refine (CF.out _ Qb).mono ?_; rintro e w1 ⟨rfl, hb1⟩
 have hk1 : KeptC w [(⟨w.heap.size, 0, none⟩, .int .i64 id), (⟨w.heap.size, 6, none⟩, .slice ha hn hc)] [] w1 := by
  refine KeptC.below ?_ hb1
  exact Qk
 simp only [KeptC, List.forall_mem_cons] at hk1; obtain ⟨kb1, ⟨kc1_0, kc1_1, _⟩, _⟩ := hk1
 have hz1 : w.heap.size < w1.heap.size := cell_lt kc1_0
 clear hb1 CF
 have HLb : Hid (LocE stV (w1.alloc (.cells #[.string ⟨#[]⟩, .int .i64 0, .int .i64 0, .bool false, .int .i64 0, .int .i64 0, .bool false, .int .i64 0, .bool false, .int .i64 0, .int .i64 0, .int .i64 0, .bool false, .int .i64 0, .int .i64 0, .int .i64 0] 96)) w1.heap.size) := Lib.hid (LocE.fresh (enc := stV) w1 #[.string ⟨#[]⟩, .int .i64 0, .int .i64 0, .bool false, .int .i64 0, .int .i64 0, .bool false, .int .i64 0, .bool false, .int .i64 0, .int .i64 0, .int .i64 0, .bool false, .int .i64 0, .int .i64 0, .int .i64 0] 96 St0 rfl)
 have HK2 : Hid (Below w1.heap.size w1 (w1.alloc (.cells #[.string ⟨#[]⟩, .int .i64 0, .int .i64 0, .bool false, .int .i64 0, .int .i64 0, .bool false, .int .i64 0, .bool false, .int .i64 0, .int .i64 0, .int .i64 0, .bool false, .int .i64 0, .int .i64 0, .int .i64 0] 96))) := Lib.hid ((Below.refl _ _).alloc (Nat.le_refl _) _)
 go_upto_region 2 with ((with_reducible show wpList _ _ _ (_ :: _) _ _); refine wpList_store_lay rfl 96 (.tmp 6) (.tmp 12) rfl w1.heap.size 0 (stV z).toArray rfl rfl (HLb.out.there stV_len) (by kernel_rfl) (all_oneCell_toArray (stV_one z)) (fun w' => LocX stV w' w1.heap.size z ∧ Below w1.heap.size w1 w') ⟨HLb.out.layX stV_len z rfl, Below.setCells (Nat.le_refl _) _ _ _ HK2.out⟩ ?_; rintro w2 ⟨hX2, hB2⟩; have HX2 := Lib.hid hX2; have HB2 := Lib.hid hB2; clear hX2 hB2 HLb HK2)
 have k0 := (HB2.out.cell (p := ⟨w.heap.size, 0, none⟩) hz1).trans kc1_0
 have k6 := (HB2.out.cell (p := ⟨w.heap.size, 6, none⟩) hz1).trans kc1_1
 have k7 := (HX2.out.2 7 _ rfl).1
 have kb2 : Below w.heap.size w w2 := kb1.trans (HB2.out.mono kb1.size)
 by_cases hf : f0 = 0
 · subst hf
   go_wp2_with (fail)
   refine (CE.out _ (Qb1 kb2)).mono ?_; rintro e w3 ⟨rfl, hb3⟩
   have kb3 : Below w.heap.size w w3 := kb2.trans (hb3.mono kb2.size)
   clear hb3
   go_wp2
   go_ret2
   exact ⟨by first | rfl | (simp; done), kb3⟩
 · have q1 : (f0 != 0) = true := by simpa using hf
   have HF := Lib.hid hf
   clear hf
   go_wp2
   go_ret2
   exact ⟨by first | rfl | (simp [HF.out]; done), kb2⟩
end Go.Proofs.YtkfodkbgmpbmfaaGreat
namespace Go.Proofs.YtkfodkbgmpbmfaaGreat
open Go.RowKit Go.Shelf
set_option linter.unusedVariables false
set_option linter.unusedSimpArgs false
set_option maxRecDepth 100000
set_option maxHeartbeats 2000000 in
theorem rhas_any (A : Option Addr) (n cp : Nat) (rs : List Int) (v : Int) (w : World) (hr : RowsE encI 1 w w.heap.size A n rs) (hm : n ≤ 70368744177664) :
    Calls Tryz.prog 61 #[.slice A n cp, .int .i64 v] w fun e w' => e = .returned (.bool (rs.contains v)) ∧ w = w' := by
 have HR := Lib.hid hr
 clear hr
 go_enter Tryz.func61, Tryz.ntmps61
 go_wp2
 go_loopw [5] (fun i w' => ∃ (k : Nat), k ≤ n ∧ i = .int .i64 k ∧ Hid (∀ (t : Nat) y, t < k → rs[t]? = some y → y ≠ v) ∧ w' = w) (fun i _ => n - (intOf i).toNat)
 case atStart => exact ⟨0, Nat.zero_le _, rfl, Lib.hid (fun t y h => absurd h (by omega)), rfl⟩
 case round =>
  obtain ⟨k, hk, rfl, HA, rfl⟩ := hrel
  by_cases hlt : k < n
  rotate_left
  · obtain rfl : k = n := by omega
    have HP : Hid (rs.contains v = false) := Lib.hid (has_none (by have := HR.out.1; rw [this]; exact HA.out))
    go_wp2
    go_ret
    exact ⟨by rw [HP.out]; rfl, rfl⟩
  · obtain ⟨ad, x, rfl, hab, hx, h4⟩ := HR.out.at hlt
    rw [Nat.mul_one] at h4 hab
    have c0 : wr.cell? (ad.add k) = some (.int .i64 x) := by have := h4 0 _ rfl; rwa [Bg.add_z] at this
    have HX := Lib.hid hx
    clear h4 hx
    by_cases hxv : x = v
    · have HP : Hid (rs.contains v = true) := Lib.hid (has_hit (by rw [HX.out, hxv]))
      have hq : (x == v) = true := by simpa using hxv
      clear hxv
      go_wp2
      go_ret
      exact ⟨by rw [HP.out]; rfl, rfl⟩
    · have HQ := Lib.hid hxv
      have hq : (x == v) = false := by simpa using hxv
      clear hxv
      go_wp2
      go_roundw
      case rel => exact ⟨k + 1, by omega, by go_num, Lib.hid (before_next HA.out HX.out HQ.out), by first | rfl | trivial⟩
      case measure => simp [intOf]; omega
end Go.Proofs.YtkfodkbgmpbmfaaGreat
namespace Go.Proofs.YtkfodkbgmpbmfaaGreat
open Go.RowKit Go.Shelf
set_option linter.unusedVariables false
set_option linter.unusedSimpArgs false
set_option maxRecDepth 100000
theorem rises_ext : ∀ {l m : List Nat}, l.Pairwise (· < ·) → m.Pairwise (· < ·) → (∀ x, x ∈ l ↔ x ∈ m) → l = m
 | [], [], _, _, _ => rfl
 | [], b :: m, _, _, h => by have := (h b).2 (by simp); cases this
 | a :: l, [], _, _, h => by have := (h a).1 (by simp); cases this
 | a :: l, b :: m, h1, h2, h => by
  rw [List.pairwise_cons] at h1 h2
  have e : a = b := by
   rcases List.mem_cons.1 ((h a).1 (by simp)) with e | e
   · exact e
   · rcases List.mem_cons.1 ((h b).2 (by simp)) with e2 | e2
     · exact e2.symm
     · have := h2.1 a e; have := h1.1 b e2; omega
  subst e
  rw [rises_ext h1.2 h2.2 (fun x => by
   constructor
   · intro hx
     rcases List.mem_cons.1 ((h x).1 (List.mem_cons_of_mem _ hx)) with e | e
     · subst e; have := h1.1 x hx; omega
     · exact e
   · intro hx
     rcases List.mem_cons.1 ((h x).2 (List.mem_cons_of_mem _ hx)) with e | e
     · subst e; have := h2.1 x hx; omega
     · exact e)]
theorem rhas_anyB (A : Option Addr) (n cp : Nat) (rs : List Int) (v : Int) (w : World) (hr : RowsE encI 1 w w.heap.size A n rs) (hm : n ≤ 70368744177664) :
    Calls Tryz.prog 61 #[.slice A n cp, .int .i64 v] w fun e w' => e = .returned (.bool (rs.contains v)) ∧ Below w.heap.size w w' :=
 (rhas_any A n cp rs v w hr hm).mono fun e w' h => ⟨h.1, by rw [← h.2]; exact Below.refl _ _⟩
end Go.Proofs.YtkfodkbgmpbmfaaGreat
