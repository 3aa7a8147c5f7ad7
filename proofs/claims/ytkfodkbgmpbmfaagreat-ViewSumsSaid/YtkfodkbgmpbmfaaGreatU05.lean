/- ViewSums: of any world, any set and any name: view's Closed, Sums and Groups answer as the document says. For every input, without a condition. -/
import Derived.WalkKit
import Derived.WalkSpells
import Derived.WalkLawsBesides
import Derived.Deep.QuietTactic
import Derived.BigQuiet
import Derived.Deep.RegionHeld
import Derived.StillTail
import Derived.Test.YtkfodkbgmpbmfaaGreatRows
import Derived.WalkMore
import Derived.Lib.Hide
import Derived.Laws.Strings
import Derived.Below
import Derived.Laws.OwnMore
import Derived.Deep.AppendLies
import Derived.Deep.Draws
import Derived.ChangeSame
import Derived.Deep.Slices
import Derived.Deep.Fields
import Derived.SizedLaws
import Derived.Lib.SmallJoins
import Derived.OpenShut
import Derived.RangeFuncNested
import Derived.RangeFuncBound
import Derived.RangeFuncCalls
import Derived.RangeFuncLeaves
import Derived.RangeFuncBox
import Derived.Shelf.Abstract
import Derived.Shelf.RegionOpen
import Derived.OwnWalkIn
import Derived.TacticsInMore
import Derived.LoopNIn
import Derived.LoopIn
import Derived.OrdersIn
import Derived.Maps.AppendAt
import Derived.RegionTactic
import Derived.OwnWalk
import Derived.Lib.SliceRun
import Derived.Deep.RegionHeld3
import Derived.Laws.EntriesVeiled
import Derived.Outline
import Derived.Laws.IdiomCopy
import Derived.RowKit
import Derived.Lib.Mul64
import Derived.Shelf.Spec.BitsCarry
import Derived.Laws.Bits64b
import Derived.Deep.Cut
import Derived.Shelf.SlSortCmp.WholeK
import Derived.Shelf.SlicesG.Cmp
import Derived.Test.YtkfodkbgmpbmfaaGreatProg
import Derived.Shelf.SlSortCmp.NoneTotal
import Derived.Maps.OwnIn
import Derived.ProofKit
import Derived.ChangeMaps5
import Derived.Test.YtkfodkbgmpbmfaaGreatB01
import Derived.Test.YtkfodkbgmpbmfaaGreatB02
import Derived.Test.YtkfodkbgmpbmfaaGreatB03
import Derived.Test.YtkfodkbgmpbmfaaGreatB04
import Derived.Test.YtkfodkbgmpbmfaaGreatB05
import Derived.Test.YtkfodkbgmpbmfaaGreatB06
import Derived.Test.YtkfodkbgmpbmfaaGreatB07
import Derived.Test.YtkfodkbgmpbmfaaGreatB08
import Derived.Test.YtkfodkbgmpbmfaaGreatB09
import Derived.Test.YtkfodkbgmpbmfaaGreatB10
import Derived.Test.YtkfodkbgmpbmfaaGreatB11
import Derived.Test.YtkfodkbgmpbmfaaGreatB12
import Derived.Test.YtkfodkbgmpbmfaaGreatB13
import Derived.Test.YtkfodkbgmpbmfaaGreatB14
import Derived.Test.YtkfodkbgmpbmfaaGreatB15
import Derived.Test.YtkfodkbgmpbmfaaGreatB16
import Derived.Test.YtkfodkbgmpbmfaaGreatB17
import Derived.Test.YtkfodkbgmpbmfaaGreatB18
import Derived.Test.YtkfodkbgmpbmfaaGreatB19
import Derived.Test.YtkfodkbgmpbmfaaGreatB20
import Derived.Test.YtkfodkbgmpbmfaaGreatB21
import Derived.Test.YtkfodkbgmpbmfaaGreatB22
import Derived.Test.YtkfodkbgmpbmfaaGreatB23
import Derived.Test.YtkfodkbgmpbmfaaGreatB24
import Derived.Test.YtkfodkbgmpbmfaaGreatB25
import Derived.Test.YtkfodkbgmpbmfaaGreatB26
import Derived.Test.YtkfodkbgmpbmfaaGreatB27
import Derived.Test.YtkfodkbgmpbmfaaGreatB28
import Derived.Test.YtkfodkbgmpbmfaaGreatB29
import Derived.Test.YtkfodkbgmpbmfaaGreatB30
import Derived.Test.YtkfodkbgmpbmfaaGreatB31
import Derived.Test.YtkfodkbgmpbmfaaGreatB32
import Derived.Test.YtkfodkbgmpbmfaaGreatB33
import Derived.Test.YtkfodkbgmpbmfaaGreatB34
import Derived.Test.YtkfodkbgmpbmfaaGreatB35
import Derived.Test.YtkfodkbgmpbmfaaGreatB36
import Derived.Test.YtkfodkbgmpbmfaaGreatB37
import Derived.Test.YtkfodkbgmpbmfaaGreatB38
import Derived.Test.YtkfodkbgmpbmfaaGreatB39
import Derived.Test.YtkfodkbgmpbmfaaGreatB40
import Derived.Test.YtkfodkbgmpbmfaaGreatB41
import Derived.Test.YtkfodkbgmpbmfaaGreatB42
import Derived.Test.YtkfodkbgmpbmfaaGreatU01
import Derived.Test.YtkfodkbgmpbmfaaGreatU02
import Derived.Test.YtkfodkbgmpbmfaaGreatU03
import Derived.Test.YtkfodkbgmpbmfaaGreatU04
set_option linter.unusedVariables false
set_option linter.unusedSimpArgs false
namespace Go.Proofs.YtkfodkbgmpbmfaaGreat
open Go.RowKit Go.Shelf
set_option linter.unusedVariables false
set_option linter.unusedSimpArgs false
set_option maxRecDepth 100000
set_option maxHeartbeats 8000000 in
theorem rsums_any (x : Wd) (nm : ByteArray) (A : Option Addr) (n c : Nat) (set : List Int) (w : World) (hx : WdOk w x) (hs : RowsE encI 1 w w.heap.size A n set) (hm : n ≤ 70368744177664) :
    Calls Tryz.prog 22 #[WdV x, .slice A n c, .string nm] w fun e w' => e = .returned (.tuple #[.int .i64 (sumsB x nm set 0 0).1, .int .i64 (sumsB x nm set 0 0).2.1, .int .i64 (sumsB x nm set 0 0).2.2]) ∧ Below w.heap.size w w' := by
 have HND := Lib.hid (fun k (hk : k < x.nn) => hx.nd hk)
 have HUB := Lib.hid (fun k (hk : k < x.nn) => hx.up hk)
 have HUN : Hid (x.un = x.nn) := Lib.hid hx.len.2
 have HUA := Lib.hid (fun (k : Nat) (b : Bool) (y : Nd) (hk : k < x.nds.length) (hb : x.ups[k]? = some b) (hy : x.nds[k]? = some y) => upN_at hk hb hy)
 have HE := Lib.hid (fun (a : Int) W (hb : Below w.heap.size w W) => WdOk.est (hx.below hb) a nm)
 have HS := Lib.hid hs
 have HLS : Hid (set.length = n) := Lib.hid hs.1
 have HLN : Hid (x.nds.length = x.nn ∧ x.nn ≤ 16) := Lib.hid ⟨hx.len.1, by have := hx.len.1; have := hx.fit.n1; omega⟩
 have HGE := Lib.hid (fun (a : Int) (h : ¬ (0 ≤ a ∧ a < x.nn)) => sumErr_ge (nm := nm) (x := x) (a := a) (by rw [HLN.out.1]; exact h))
 have HDN := Lib.hid (fun (a : Int) (h : 0 ≤ a ∧ a < x.nn) (hu : upN x a = none) => sumErr_dn (nm := nm) (x := x) (a := a) (by rw [HLN.out.1]; exact h) hu)
 have HUP := Lib.hid (fun (a : Int) (u : Nd) (h : 0 ≤ a ∧ a < x.nn) (hu : upN x a = some u) => sumErr_up (nm := nm) (x := x) (a := a) (by rw [HLN.out.1]; exact h) hu)
 have HNX := Lib.hid (fun k a X Y (h : set[k]? = some a) (e : (sumErr x nm a).2.2 = 0) => sums_next (X := X) (Y := Y) h e)
 have HST := Lib.hid (fun k a X Y (h : set[k]? = some a) (e : (sumErr x nm a).2.2 ≠ 0) => sums_stop (X := X) (Y := Y) h e)
 have HEN := Lib.hid (fun k X Y (h : set.length ≤ k) => sums_end (x := x) (nm := nm) (X := X) (Y := Y) h)
 obtain ⟨S, hS⟩ : ∃ S : Nat → Int → Int → Int × Int × Int, S = fun k X Y => sumsB x nm (set.drop k) X Y := ⟨_, rfl⟩
 have HS0 : Hid (sumsB x nm set 0 0 = S 0 0 0) := Lib.hid (by rw [hS]; rfl)
 replace HNX : Hid (∀ k a X Y, set[k]? = some a → (sumErr x nm a).2.2 = 0 → S k X Y = S (k + 1) (wrap64 (X + (sumErr x nm a).1)) (wrap64 (Y + (sumErr x nm a).2.1))) := Lib.hid (by rw [hS]; exact HNX.out)
 replace HST : Hid (∀ k a X Y, set[k]? = some a → (sumErr x nm a).2.2 ≠ 0 → S k X Y = (0, 0, (sumErr x nm a).2.2)) := Lib.hid (by rw [hS]; exact HST.out)
 replace HEN : Hid (∀ k X Y, set.length ≤ k → S k X Y = (X, Y, 0)) := Lib.hid (by rw [hS]; exact HEN.out)
 rw [HS0.out]
 generalize hT : S 0 0 0 = T
 have HT0 := Lib.hid hT
 clear hS HS0 hT
 clear hx hs
 generalize sumErr x nm = sE at HGE HDN HUP HNX HST
 generalize upN x = U at HE HDN HUP HUA
 obtain ⟨T1, T2, T3⟩ := T
 obtain ⟨na, nn, nc, ua, un, uc, da, dn, dc, nx, la, ll, lc, sa, sl, sc, lost, nds, ups⟩ := x
 simp only [] at HND HUB HUN HUA HGE HDN HUP HLN ⊢
 go_enter Tryz.func22, Tryz.ntmps22
 go_wp2
 go_loopw [11, 9, 10] (fun i p q w' => ∃ (k : Nat) (X Y : Int), k ≤ n ∧ i = .int .i64 k ∧ p = .int .i64 X ∧ q = .int .i64 Y ∧ Hid (S k X Y = (T1, T2, T3)) ∧ KeptC w [(⟨w.heap.size, 0, none⟩, .slice na nn nc), (⟨w.heap.size, 1, none⟩, .slice ua un uc), (⟨w.heap.size, 2, none⟩, .slice da dn dc), (⟨w.heap.size, 3, none⟩, .int .i64 nx), (⟨w.heap.size, 4, none⟩, .slice la ll lc), (⟨w.heap.size, 5, none⟩, .slice sa sl sc), (⟨w.heap.size, 6, none⟩, .int .i64 lost)] [] w') (fun i _ _ _ => n - (intOf i).toNat)
 case atStart => exact ⟨0, 0, 0, Nat.zero_le _, rfl, rfl, rfl, HT0, Qk⟩
 case round =>
  obtain ⟨k, X, Y, hk, rfl, rfl, rfl, HT, hK⟩ := hrel
  simp only [KeptC, List.forall_mem_cons] at hK; obtain ⟨kb0, ⟨kc0_0, kc0_1, kc0_2, kc0_3, kc0_4, kc0_5, kc0_6, _⟩, _⟩ := hK
  have hs0 := kb0.size
  have hz0 : w.heap.size < wr.heap.size := cell_lt kc0_0
  by_cases hlt : k < n
  rotate_left
  · obtain rfl : k = n := by omega
    have HC : Hid ((X, Y, (0 : Int)) = (T1, T2, T3)) := Lib.hid (by rw [← HT.out, HEN.out k X Y (Nat.le_of_eq HLS.out)])
    have h1 := HC.out
    injection h1 with h1 h2
    injection h2 with h2 h3
    subst h1 h2 h3
    clear HC HT HT0 HEN
    go_wp2
    go_ret3
    exact ⟨rfl, kb0⟩
  · obtain ⟨ad, a, rfl, hab, ha, h4⟩ := HS.out.at hlt
    rw [Nat.mul_one] at h4 hab
    have c0 : wr.cell? (ad.add k) = some (.int .i64 a) := by have := h4 0 _ rfl; rw [Bg.add_z] at this; exact (kb0.cell hab).trans this
    have HA := Lib.hid ha
    have hwk : IntKind.i64.wrap ((k : Int) + 1) = (k : Int) + 1 := by rw [IntKind.wrap_i64]; omega
    clear h4 ha
    by_cases hr : 0 ≤ a ∧ a < nn
    rotate_left
    · have HE0 : Hid ((T1, T2, T3) = ((0 : Int), (0 : Int), (40 : Int))) := Lib.hid (by
        have e := HGE.out a hr
        rw [← HT.out, HST.out k a X Y HA.out (by rw [e]; decide), e])
      have h1 := HE0.out
      injection h1 with h1 h2
      injection h2 with h2 h3
      subst h1 h2 h3
      clear HE0 HT HT0
      by_cases ha0 : a < 0
      · clear hr
        go_wp2
        go_ret3
        exact ⟨rfl, kb0⟩
      · have hge : (nn : Int) ≤ a := by omega
        clear hr
        go_wp2
        go_ret3
        exact ⟨rfl, kb0⟩
    · obtain ⟨w1, h⟩ : ∃ w1, w1 = wr := ⟨_, rfl⟩
      subst h
      have hr1 : ¬ a < 0 := by omega
      have hr2 : ¬ (nn : Int) ≤ a := by omega
      obtain ⟨i, rfl⟩ : ∃ i : Nat, a = i := ⟨a.toNat, by omega⟩
      have hi : i < nn := by omega
      have hiu : i < un := by have := HUN.out; omega
      obtain ⟨adn, u, hna, habn, hu2, h8, hnd⟩ := HND.out i hi
      obtain ⟨adu, b, hua, habu, hub, hcu⟩ := HUB.out i hi
      have hup := HUA.out i b u (by rw [HLN.out.1]; exact hi) hub hu2
      subst hna hua
      obtain ⟨P, hP⟩ : ∃ P, adn.add (i * 8) = P := ⟨_, rfl⟩
      rw [hP] at h8 habn
      have hPw : P.block < w1.heap.size := by omega
      obtain ⟨p0, p1, p2, p3, p4, p5, p6, p7⟩ := h8.below habn kb0
      have u0 : w1.cell? (adu.add i) = some (.bool b) := (kb0.cell habu).trans hcu
      have he := HE.out (i : Int)
      clear h8 hnd hub hu2 hcu
      cases b with
      | false =>
       have HE0 : Hid ((T1, T2, T3) = ((0 : Int), (0 : Int), (51 : Int))) := Lib.hid (by
        have e := HDN.out (i : Int) hr (by rw [hup]; rfl)
        rw [← HT.out, HST.out k i X Y HA.out (by rw [e]; decide), e])
       have h1 := HE0.out
       injection h1 with h1 h2
       injection h2 with h2 h3
       subst h1 h2 h3
       clear HE0 HT HT0 he hup hr p0 p1 p2 p3 p4 p5 p6 p7
       go_wp2
       go_ret3
       exact ⟨rfl, kb0⟩
      | true =>
       rw [if_pos rfl] at hup
       obtain ⟨e1, e2, e3⟩ := HUP.out (i : Int) u hr hup
       rw [hup] at he
       simp only [Option.getD_some] at he
       have HE2 := Lib.hid he
       have HFL : Hid (flE u.chans nm = if (findS u.chans nm).isSome = true then (if flowsK ((findS u.chans nm).getD St0).ch.kd = true then 0 else 46) else 44) := Lib.hid (by
        unfold flE
        cases hf : findS u.chans nm with
        | none => rfl
        | some s => rfl)
       have HEF : Hid (flE u.chans nm ≠ 0 → (estB u nm).2 = flE u.chans nm) := Lib.hid (fun h => by unfold estB; rw [if_neg h])
       have cf := (fun W (hb : Below w.heap.size w W) => srfind_any u.ca u.cn u.cc u.chans nm W (HE2.out W hb).nd.2.2.2 (by have := (HE2.out W hb).cn; omega))
       have ce := (fun W (hb : Below w.heap.size w W) => rest20_any u nm W (HE2.out W hb).nd (HE2.out W hb).cn (HE2.out W hb).hn (HE2.out W hb).l8 (HE2.out W hb).pr (HE2.out W hb).f1 (HE2.out W hb).f2)
       have HST2 := Lib.hid (HST.out k i X Y HA.out)
       have HNX2 := Lib.hid (HNX.out k i X Y HA.out)
       generalize sE (i : Int) = s at e1 e2 e3 HST2 HNX2
       obtain ⟨sx, sy, se⟩ := s
       simp only [] at e1 e2 e3 HST2 HNX2
       rw [← e1, ← e2] at ce
       rw [← e1] at e3 HEF
       generalize flE u.chans nm = f0 at HFL HEF
       generalize (findS u.chans nm).isSome = ok2 at cf HFL
       generalize (findS u.chans nm).getD St0 = z at cf HFL e3
       have E3 := Lib.hid e3
       have CE := Lib.hid ce
       have CF := Lib.hid cf
       clear he ce cf e1 e2 e3 hup hr
       go_wp2_with (fail)
       refine (CF.out _ (Qb1 kb0)).mono ?_; rintro e w2 ⟨rfl, hb2⟩
       have hk2 : KeptC w [(⟨w.heap.size, 0, none⟩, .slice (some adn) nn nc), (⟨w.heap.size, 1, none⟩, .slice (some adu) un uc), (⟨w.heap.size, 2, none⟩, .slice da dn dc), (⟨w.heap.size, 3, none⟩, .int .i64 nx), (⟨w.heap.size, 4, none⟩, .slice la ll lc), (⟨w.heap.size, 5, none⟩, .slice sa sl sc), (⟨w.heap.size, 6, none⟩, .int .i64 lost), (P, .int .i64 u.id), (⟨P.block, P.off + 1, none⟩, .int .i64 u.boot), (⟨P.block, P.off + 2, none⟩, .int .i64 u.ticks), (⟨P.block, P.off + 3, none⟩, .slice u.wa u.wn u.wc), (⟨P.block, P.off + 4, none⟩, .int .i64 u.turn), (⟨P.block, P.off + 5, none⟩, .slice u.sa u.sn u.sc), (⟨P.block, P.off + 6, none⟩, .slice u.ha u.hn u.hc), (⟨P.block, P.off + 7, none⟩, .slice u.ca u.cn u.cc)] [] w2 := by
        refine KeptC.below ?_ hb2
        exact Qk1 kb0
       simp only [KeptC, List.forall_mem_cons] at hk2; obtain ⟨kb2, ⟨kc2_0, kc2_1, kc2_2, kc2_3, kc2_4, kc2_5, kc2_6, kc2_7, kc2_8, kc2_9, kc2_10, kc2_11, kc2_12, kc2_13, kc2_14, _⟩, _⟩ := hk2
       have hz2 : w.heap.size < w2.heap.size := cell_lt kc2_0
       have hP2 : P.block < w2.heap.size := cell_lt kc2_7
       clear hb2 CF kb0 hz0 hs0 kc0_0 kc0_1 kc0_2 kc0_3 kc0_4 kc0_5 kc0_6 c0 hr1 hr2 p0 p1 p2 p3 p4 p5 p6 p7 u0
       have HLb : Hid (LocE stV (w2.alloc (.cells #[.string ⟨#[]⟩, .int .i64 0, .int .i64 0, .bool false, .int .i64 0, .int .i64 0, .bool false, .int .i64 0, .bool false, .int .i64 0, .int .i64 0, .int .i64 0, .bool false, .int .i64 0, .int .i64 0, .int .i64 0] 96)) w2.heap.size) := Lib.hid (LocE.fresh (enc := stV) w2 #[.string ⟨#[]⟩, .int .i64 0, .int .i64 0, .bool false, .int .i64 0, .int .i64 0, .bool false, .int .i64 0, .bool false, .int .i64 0, .int .i64 0, .int .i64 0, .bool false, .int .i64 0, .int .i64 0, .int .i64 0] 96 St0 rfl)
       have HK2 : Hid (Below w2.heap.size w2 (w2.alloc (.cells #[.string ⟨#[]⟩, .int .i64 0, .int .i64 0, .bool false, .int .i64 0, .int .i64 0, .bool false, .int .i64 0, .bool false, .int .i64 0, .int .i64 0, .int .i64 0, .bool false, .int .i64 0, .int .i64 0, .int .i64 0] 96))) := Lib.hid ((Below.refl _ _).alloc (Nat.le_refl _) _)
       go_upto_region 12 with ((with_reducible show wpList _ _ _ (_ :: _) _ _); refine wpList_store_lay rfl 96 (.tmp 13) (.tmp 51) rfl w2.heap.size 0 (stV z).toArray rfl rfl (HLb.out.there stV_len) (by kernel_rfl) (all_oneCell_toArray (stV_one z)) (fun w' => LocX stV w' w2.heap.size z ∧ Below w2.heap.size w2 w') ⟨HLb.out.layX stV_len z rfl, Below.setCells (Nat.le_refl _) _ _ _ HK2.out⟩ ?_; rintro w3 ⟨hX3, hB3⟩; have HX3 := Lib.hid hX3; have HB3 := Lib.hid hB3; clear hX3 HLb HK2)
       have hk3 : KeptC w [(⟨w.heap.size, 0, none⟩, .slice (some adn) nn nc), (⟨w.heap.size, 1, none⟩, .slice (some adu) un uc), (⟨w.heap.size, 2, none⟩, .slice da dn dc), (⟨w.heap.size, 3, none⟩, .int .i64 nx), (⟨w.heap.size, 4, none⟩, .slice la ll lc), (⟨w.heap.size, 5, none⟩, .slice sa sl sc), (⟨w.heap.size, 6, none⟩, .int .i64 lost), (P, .int .i64 u.id), (⟨P.block, P.off + 1, none⟩, .int .i64 u.boot), (⟨P.block, P.off + 2, none⟩, .int .i64 u.ticks), (⟨P.block, P.off + 3, none⟩, .slice u.wa u.wn u.wc), (⟨P.block, P.off + 4, none⟩, .int .i64 u.turn), (⟨P.block, P.off + 5, none⟩, .slice u.sa u.sn u.sc), (⟨P.block, P.off + 6, none⟩, .slice u.ha u.hn u.hc), (⟨P.block, P.off + 7, none⟩, .slice u.ca u.cn u.cc)] [] w3 := by
        refine KeptC.below ?_ hB3
        exact Qk1 kb2
       simp only [KeptC, List.forall_mem_cons] at hk3; obtain ⟨kb3, ⟨kc3_0, kc3_1, kc3_2, kc3_3, kc3_4, kc3_5, kc3_6, kc3_7, kc3_8, kc3_9, kc3_10, kc3_11, kc3_12, kc3_13, kc3_14, _⟩, _⟩ := hk3
       have hz3 : w.heap.size < w3.heap.size := cell_lt kc3_0
       have hP3 : P.block < w3.heap.size := cell_lt kc3_7
       have hz3c : w2.heap.size < w3.heap.size := HX3.out.1
       have z4 := (HX3.out.2 4 _ rfl).1
       have z7 := (HX3.out.2 7 _ rfl).1
       clear hB3 kb2 hz2 hP2 kc2_0 kc2_1 kc2_2 kc2_3 kc2_4 kc2_5 kc2_6 kc2_7 kc2_8 kc2_9 kc2_10 kc2_11 kc2_12 kc2_13 kc2_14
       cases ok2 with
       | false =>
        have HE0 : Hid ((T1, T2, T3) = ((0 : Int), (0 : Int), (44 : Int))) := Lib.hid (by
         have h1 : f0 = 44 := HFL.out
         have h2 := HEF.out (by rw [h1]; decide)
         rw [h1] at h2
         rw [← HT.out, HST2.out (by rw [h2]; decide), h2])
        have h1 := HE0.out
        injection h1 with h1 h2
        injection h2 with h2 h3
        subst h1 h2 h3
        clear HE0 HT HT0 HST2 HNX2 E3 HEF HFL
        go_wp2
        go_ret3
        exact ⟨rfl, kb3⟩
       | true =>
        have CK : Hid (∀ W, Calls Tryz.prog 29 #[.int .i64 z.ch.kd] W fun x w' => x = .returned (.bool (flowsK z.ch.kd)) ∧ Below W.heap.size W w') := Lib.hid (fun W => srflows_any z.ch.kd W)
        generalize flowsK z.ch.kd = fk at CK HFL
        go_wp2_with (fail)
        refine (CK.out _).mono ?_; rintro e w5 ⟨rfl, hb5⟩
        have hk5 : KeptC w [(⟨w.heap.size, 0, none⟩, .slice (some adn) nn nc), (⟨w.heap.size, 1, none⟩, .slice (some adu) un uc), (⟨w.heap.size, 2, none⟩, .slice da dn dc), (⟨w.heap.size, 3, none⟩, .int .i64 nx), (⟨w.heap.size, 4, none⟩, .slice la ll lc), (⟨w.heap.size, 5, none⟩, .slice sa sl sc), (⟨w.heap.size, 6, none⟩, .int .i64 lost), (P, .int .i64 u.id), (⟨P.block, P.off + 1, none⟩, .int .i64 u.boot), (⟨P.block, P.off + 2, none⟩, .int .i64 u.ticks), (⟨P.block, P.off + 3, none⟩, .slice u.wa u.wn u.wc), (⟨P.block, P.off + 4, none⟩, .int .i64 u.turn), (⟨P.block, P.off + 5, none⟩, .slice u.sa u.sn u.sc), (⟨P.block, P.off + 6, none⟩, .slice u.ha u.hn u.hc), (⟨P.block, P.off + 7, none⟩, .slice u.ca u.cn u.cc), (⟨w2.heap.size, 7, none⟩, .int .i64 z.inp)] [] w5 := by
         refine KeptC.below ?_ hb5
         exact Qk1 kb3
        simp only [KeptC, List.forall_mem_cons] at hk5; obtain ⟨kb5, ⟨kc5_0, kc5_1, kc5_2, kc5_3, kc5_4, kc5_5, kc5_6, kc5_7, kc5_8, kc5_9, kc5_10, kc5_11, kc5_12, kc5_13, kc5_14, kc5_15, _⟩, _⟩ := hk5
        have hz5 : w.heap.size < w5.heap.size := cell_lt kc5_0
        have hP5 : P.block < w5.heap.size := cell_lt kc5_7
        have hz5c : w2.heap.size < w5.heap.size := cell_lt kc5_15
        clear hb5 CK kb3 hz3 hP3 hz3c z4 z7 kc3_0 kc3_1 kc3_2 kc3_3 kc3_4 kc3_5 kc3_6 kc3_7 kc3_8 kc3_9 kc3_10 kc3_11 kc3_12 kc3_13 kc3_14
        cases fk with
        | false =>
         have HE0 : Hid ((T1, T2, T3) = ((0 : Int), (0 : Int), (46 : Int))) := Lib.hid (by
          have h1 : f0 = 46 := HFL.out
          have h2 := HEF.out (by rw [h1]; decide)
          rw [h1] at h2
          rw [← HT.out, HST2.out (by rw [h2]; decide), h2])
         have h1 := HE0.out
         injection h1 with h1 h2
         injection h2 with h2 h3
         subst h1 h2 h3
         clear HE0 HT HT0 HST2 HNX2 E3 HEF HFL
         go_wp2
         go_ret3
         exact ⟨rfl, kb5⟩
        | true =>
         go_wp2_with (fail)
         refine (CE.out _ (Qb1 kb5)).mono ?_; rintro e w6 ⟨rfl, hb6⟩
         have hk6 : KeptC w [(⟨w.heap.size, 0, none⟩, .slice (some adn) nn nc), (⟨w.heap.size, 1, none⟩, .slice (some adu) un uc), (⟨w.heap.size, 2, none⟩, .slice da dn dc), (⟨w.heap.size, 3, none⟩, .int .i64 nx), (⟨w.heap.size, 4, none⟩, .slice la ll lc), (⟨w.heap.size, 5, none⟩, .slice sa sl sc), (⟨w.heap.size, 6, none⟩, .int .i64 lost), (⟨w2.heap.size, 7, none⟩, .int .i64 z.inp)] [] w6 := by
          refine KeptC.below ?_ hb6
          exact Qk1 kb5
         simp only [KeptC, List.forall_mem_cons] at hk6; obtain ⟨kb6, ⟨kc6_0, kc6_1, kc6_2, kc6_3, kc6_4, kc6_5, kc6_6, kc6_7, _⟩, _⟩ := hk6
         have hz6 : w.heap.size < w6.heap.size := cell_lt kc6_0
         have hz6c : w2.heap.size < w6.heap.size := cell_lt kc6_7
         clear hb6 CE kb5 hz5 hP5 hz5c kc5_0 kc5_1 kc5_2 kc5_3 kc5_4 kc5_5 kc5_6 kc5_7 kc5_8 kc5_9 kc5_10 kc5_11 kc5_12 kc5_13 kc5_14 kc5_15
         by_cases hse : se = 0
         rotate_left
         · have HE0 : Hid ((T1, T2, T3) = ((0 : Int), (0 : Int), se)) := Lib.hid (by rw [← HT.out, HST2.out hse])
           have h1 := HE0.out
           injection h1 with h1 h2
           injection h2 with h2 h3
           subst h1 h2 h3
           have q1 : (T3 != 0) = true := by simpa using hse
           clear HE0 HT HT0 hse HST2 HNX2 E3 HEF HFL
           go_wp2
           go_ret3
           exact ⟨rfl, kb6⟩
         · subst hse
           have hsy := E3.out rfl
           subst hsy
           have HT5 := Lib.hid (show S (k + 1) (wrap64 (X + sx)) (wrap64 (Y + z.inp)) = (T1, T2, T3) by rw [← HNX2.out rfl]; exact HT.out)
           clear HNX2 HST2 E3 HEF HFL
           go_wp2
           go_roundw
           case rel => exact ⟨k + 1, _, _, by omega, by go_num, rfl, rfl, Lib.hid (by first | exact HT5.out | (simp only [IntKind.wrap_i64]; have h := HT5.out; unfold wrap64 at h; exact h)), (Qk1 kb6)⟩
           case measure => simp [intOf]; omega
end Go.Proofs.YtkfodkbgmpbmfaaGreat
namespace Go.Proofs.YtkfodkbgmpbmfaaGreat
open Go.ChangeShapes Go.WideShapes Go.ChangeAt Go.RowKit Go.Shelf Go.Deep Go.Joins Go.ChangeMaps
set_option linter.unusedVariables false
set_option linter.unusedSimpArgs false
set_option maxRecDepth 100000
set_option maxHeartbeats 16000000 in
theorem viewSums_any (x : Wd) (dks : List Sl) (dgs : List Bg.Dg) (svs : List Bg.LK) (A : Option Addr) (n c : Nat) (set : List Int) (nm : ByteArray) (w : World) (hx : WdAll w x dks dgs svs) (hs : RowsE encI 1 w w.heap.size A n set) (hnc : n ≤ c) (hm70 : n ≤ 70368744177664) :
    Calls Tryz.prog 4 #[WdV x, .slice A n c, .string nm] w fun e w' => e = .returned (.bool true) ∧ Below w.heap.size w w' := by
 have CF := Lib.hid (fun W (hb : Below w.heap.size w W) => wdfit_any x dks dgs svs W (hx.below hb))
 have HOK := Lib.hid (fun (h : FitW x) => (⟨hx.cells, h⟩ : WdOk w x))
 clear hx
 go_enter Tryz.func4, Tryz.ntmps4
 go_wp2_with (fail)
 refine (CF.out _ Qb).mono ?_; rintro e w1 ⟨bo, rfl, hF, hb1⟩
 have hk1 : KeptC w [(⟨w.heap.size, 0, none⟩, .slice x.na x.nn x.nc), (⟨w.heap.size, 1, none⟩, .slice x.ua x.un x.uc), (⟨w.heap.size, 2, none⟩, .slice x.da x.dn x.dc), (⟨w.heap.size, 3, none⟩, .int .i64 x.nx), (⟨w.heap.size, 4, none⟩, .slice x.la x.ll x.lc), (⟨w.heap.size, 5, none⟩, .slice x.sa x.sl x.sc), (⟨w.heap.size, 6, none⟩, .int .i64 x.lost)] [] w1 := by
  refine KeptC.below ?_ hb1
  exact Qk
 simp only [KeptC, List.forall_mem_cons] at hk1; obtain ⟨kb1, ⟨kc1_0, kc1_1, kc1_2, kc1_3, kc1_4, kc1_5, kc1_6, _⟩, _⟩ := hk1
 have hz1 : w.heap.size < w1.heap.size := cell_lt kc1_0
 clear hb1 CF
 cases bo with
 | false =>
  clear HOK hF
  go_wp2_with (fail)
  refine (awake_any _).mono ?_; rintro e w2 ⟨rfl, hb2⟩
  go_wp2
  go_ret
  exact ⟨rfl, (Qb2 hb2 kb1)⟩
 | true =>
  have hok := HOK.out (hF rfl)
  clear HOK hF
  have ci := (fun W (hb : Below w.heap.size w W) => vsums_any x nm A n c set W (hok.below hb) ((hs.below hb).more hb.size) hm70)
  have cj := (fun W (hb : Below w.heap.size w W) => rsums_any x nm A n c set W (hok.below hb) ((hs.below hb).more hb.size) hm70)
  have HB3 : Hid (∀ W, (Below w.heap.size w W ∧ W.cell? ⟨w.heap.size, 0, none⟩ = some (.slice x.na x.nn x.nc) ∧ W.cell? ⟨w.heap.size, 1, none⟩ = some (.slice x.ua x.un x.uc) ∧ W.cell? ⟨w.heap.size, 2, none⟩ = some (.slice x.da x.dn x.dc) ∧ W.cell? ⟨w.heap.size, 3, none⟩ = some (.int .i64 x.nx) ∧ W.cell? ⟨w.heap.size, 4, none⟩ = some (.slice x.la x.ll x.lc) ∧ W.cell? ⟨w.heap.size, 5, none⟩ = some (.slice x.sa x.sl x.sc) ∧ W.cell? ⟨w.heap.size, 6, none⟩ = some (.int .i64 x.lost)) → Calls Tryz.prog 23 #[WdV x, .slice A n c, .string nm] W fun e w' => e = .returned (.bool (closedB x set nm)) ∧ Below W.heap.size W w') := Lib.hid (fun W hS => vclosed_any x nm A n c set W (hok.below hS.1) ((hs.below hS.1).more hS.1.size) hnc hm70)
  have HB4 : Hid (∀ W, (Below w.heap.size w W ∧ W.cell? ⟨w.heap.size, 0, none⟩ = some (.slice x.na x.nn x.nc) ∧ W.cell? ⟨w.heap.size, 1, none⟩ = some (.slice x.ua x.un x.uc) ∧ W.cell? ⟨w.heap.size, 2, none⟩ = some (.slice x.da x.dn x.dc) ∧ W.cell? ⟨w.heap.size, 3, none⟩ = some (.int .i64 x.nx) ∧ W.cell? ⟨w.heap.size, 4, none⟩ = some (.slice x.la x.ll x.lc) ∧ W.cell? ⟨w.heap.size, 5, none⟩ = some (.slice x.sa x.sl x.sc) ∧ W.cell? ⟨w.heap.size, 6, none⟩ = some (.int .i64 x.lost)) → Calls Tryz.prog 24 #[WdV x, .slice A n c, .string nm] W fun e w' => e = .returned (.bool (closedB x set nm)) ∧ Below W.heap.size W w') := Lib.hid (fun W hS => rclosed_any x nm A n c set W (hok.below hS.1) ((hs.below hS.1).more hS.1.size) hnc hm70)
  have HB1 : Hid (∀ W, (Below w.heap.size w W ∧ W.cell? ⟨w.heap.size, 0, none⟩ = some (.slice x.na x.nn x.nc) ∧ W.cell? ⟨w.heap.size, 1, none⟩ = some (.slice x.ua x.un x.uc) ∧ W.cell? ⟨w.heap.size, 2, none⟩ = some (.slice x.da x.dn x.dc) ∧ W.cell? ⟨w.heap.size, 3, none⟩ = some (.int .i64 x.nx) ∧ W.cell? ⟨w.heap.size, 4, none⟩ = some (.slice x.la x.ll x.lc) ∧ W.cell? ⟨w.heap.size, 5, none⟩ = some (.slice x.sa x.sl x.sc) ∧ W.cell? ⟨w.heap.size, 6, none⟩ = some (.int .i64 x.lost)) → Calls Tryz.prog 26 #[WdV x] W fun e w' => ∃ A c gs, e = .returned (.slice A (groupsB x).length c) ∧ gs.map Gr.mem = groupsB x ∧ GsAt w' w'.heap.size A (groupsB x).length gs ∧ Below W.heap.size W w') := Lib.hid (fun W hS => (vgroups_any x W (hok.below hS.1)).mono (fun e w' ⟨A, N, C, gs, he, hm, hg, hb⟩ => by
   have hN : N = (groupsB x).length := by rw [← hm, List.length_map]; exact hg.1.1.symm
   subst hN
   exact ⟨A, C, gs, he, hm, hg, hb⟩))
  have HB2 : Hid (∀ W, (Below w.heap.size w W ∧ W.cell? ⟨w.heap.size, 0, none⟩ = some (.slice x.na x.nn x.nc) ∧ W.cell? ⟨w.heap.size, 1, none⟩ = some (.slice x.ua x.un x.uc) ∧ W.cell? ⟨w.heap.size, 2, none⟩ = some (.slice x.da x.dn x.dc) ∧ W.cell? ⟨w.heap.size, 3, none⟩ = some (.int .i64 x.nx) ∧ W.cell? ⟨w.heap.size, 4, none⟩ = some (.slice x.la x.ll x.lc) ∧ W.cell? ⟨w.heap.size, 5, none⟩ = some (.slice x.sa x.sl x.sc) ∧ W.cell? ⟨w.heap.size, 6, none⟩ = some (.int .i64 x.lost)) → Calls Tryz.prog 27 #[WdV x] W fun e w' => ∃ A c gs, e = .returned (.slice A (groupsB x).length c) ∧ gs.map Gr.mem = groupsB x ∧ GsAt w' w'.heap.size A (groupsB x).length gs ∧ Below W.heap.size W w') := Lib.hid (fun W hS => (rgroups_any x W (hok.below hS.1)).mono (fun e w' ⟨A, N, C, gs, he, hm, hg, hb⟩ => by
   have hN : N = (groupsB x).length := by rw [← hm, List.length_map]; exact hg.1.1.symm
   subst hN
   exact ⟨A, C, gs, he, hm, hg, hb⟩))
  have hle : (groupsB x).length ≤ 1000 := by have h1 := grps_len x.nds.length (heldN x) (upB x) x.nds.length; have h2 := hok.fit.n1; unfold groupsB; omega
  have hlm : ∀ m ∈ groupsB x, m.length ≤ 1000 := fun m hm => by
   obtain ⟨a, _, _, e⟩ := grps_of x.nds.length (heldN x) (upB x) x.nds.length (Nat.le_refl _) m hm
   have h1 := grp_len x.nds.length (heldN x) a
   have h2 := hok.fit.n1
   rw [e]; omega
  generalize closedB x set nm = ev at HB3 HB4
  generalize sumsB x nm set 0 0 = q at ci cj
  obtain ⟨q1, q2, q3⟩ := q
  generalize groupsB x = LG at HB1 HB2 hle hlm
  generalize hN1 : LG.length = N1 at HB1 HB2 hle
  have CS1 := Lib.hid (fun (A1 A2 : Option Addr) (c1 c2 : Nat) (gs1 gs2 : List Gr) W (m1 : gs1.map Gr.mem = LG) (m2 : gs2.map Gr.mem = LG) (h1 : GsAt W W.heap.size A1 N1 gs1) (h2 : GsAt W W.heap.size A2 N1 gs2) => lgroups_any A1 A2 N1 c1 c2 gs1 gs2 W h1 h2 (m1.trans m2.symm) hle (fun g hg => hlm g.mem (by rw [← m1]; exact List.mem_map.2 ⟨g, hg, rfl⟩)))
  have CAW := Lib.hid (fun W => awake_any W)
  clear hok hle hlm hN1 hs
  have CI := Lib.hid ci; have CJ := Lib.hid cj
  clear ci cj
  obtain ⟨na, nn, nc, ua, un, uc, da, dn, dc, nx, la, ll, lc, sa, sl, sc, lost, nds, ups⟩ := x
  simp only [] at kc1_0 kc1_1 kc1_2 kc1_3 kc1_4 kc1_5 kc1_6
  go_wp2_with (fail)
  refine (CI.out _ (Qb1 kb1)).mono ?_; rintro e w2 ⟨rfl, hb2⟩
  have hk2 : KeptC w [(⟨w.heap.size, 0, none⟩, .slice na nn nc), (⟨w.heap.size, 1, none⟩, .slice ua un uc), (⟨w.heap.size, 2, none⟩, .slice da dn dc), (⟨w.heap.size, 3, none⟩, .int .i64 nx), (⟨w.heap.size, 4, none⟩, .slice la ll lc), (⟨w.heap.size, 5, none⟩, .slice sa sl sc), (⟨w.heap.size, 6, none⟩, .int .i64 lost)] [] w2 := by
   refine KeptC.below ?_ hb2
   exact Qk1 kb1
  simp only [KeptC, List.forall_mem_cons] at hk2; obtain ⟨kb2, ⟨kc2_0, kc2_1, kc2_2, kc2_3, kc2_4, kc2_5, kc2_6, _⟩, _⟩ := hk2
  have hz2 : w.heap.size < w2.heap.size := cell_lt kc2_0
  clear hb2 CI kb1 hz1 kc1_0 kc1_1 kc1_2 kc1_3 kc1_4 kc1_5 kc1_6
  go_wp2_with (fail)
  refine (CJ.out _ (Qb1 kb2)).mono ?_; rintro e w3 ⟨rfl, hb3⟩
  have hk3 : KeptC w [(⟨w.heap.size, 0, none⟩, .slice na nn nc), (⟨w.heap.size, 1, none⟩, .slice ua un uc), (⟨w.heap.size, 2, none⟩, .slice da dn dc), (⟨w.heap.size, 3, none⟩, .int .i64 nx), (⟨w.heap.size, 4, none⟩, .slice la ll lc), (⟨w.heap.size, 5, none⟩, .slice sa sl sc), (⟨w.heap.size, 6, none⟩, .int .i64 lost)] [] w3 := by
   refine KeptC.below ?_ hb3
   exact Qk1 kb2
  simp only [KeptC, List.forall_mem_cons] at hk3; obtain ⟨kb3, ⟨kc3_0, kc3_1, kc3_2, kc3_3, kc3_4, kc3_5, kc3_6, _⟩, _⟩ := hk3
  have hz3 : w.heap.size < w3.heap.size := cell_lt kc3_0
  clear hb3 CJ kb2 hz2 kc2_0 kc2_1 kc2_2 kc2_3 kc2_4 kc2_5 kc2_6
  go_wp2_with (fail)
  obtain ⟨w7, h⟩ : ∃ w7, w7 = w3 := ⟨_, rfl⟩
  subst h
  have kb7 := kb3; have kc7_0 := kc3_0; have kc7_1 := kc3_1; have kc7_2 := kc3_2; have kc7_3 := kc3_3; have kc7_4 := kc3_4; have kc7_5 := kc3_5; have kc7_6 := kc3_6
  clear kb3 hz3 kc3_0 kc3_1 kc3_2 kc3_3 kc3_4 kc3_5 kc3_6
  have HI : Hid (Below w.heap.size w w7 ∧ w7.cell? ⟨w.heap.size, 0, none⟩ = some (.slice na nn nc) ∧ w7.cell? ⟨w.heap.size, 1, none⟩ = some (.slice ua un uc) ∧ w7.cell? ⟨w.heap.size, 2, none⟩ = some (.slice da dn dc) ∧ w7.cell? ⟨w.heap.size, 3, none⟩ = some (.int .i64 nx) ∧ w7.cell? ⟨w.heap.size, 4, none⟩ = some (.slice la ll lc) ∧ w7.cell? ⟨w.heap.size, 5, none⟩ = some (.slice sa sl sc) ∧ w7.cell? ⟨w.heap.size, 6, none⟩ = some (.int .i64 lost)) := Lib.hid ⟨kb7, kc7_0, kc7_1, kc7_2, kc7_3, kc7_4, kc7_5, kc7_6⟩
  have kS : ∀ p q : World, (Below w.heap.size w p ∧ p.cell? ⟨w.heap.size, 0, none⟩ = some (.slice na nn nc) ∧ p.cell? ⟨w.heap.size, 1, none⟩ = some (.slice ua un uc) ∧ p.cell? ⟨w.heap.size, 2, none⟩ = some (.slice da dn dc) ∧ p.cell? ⟨w.heap.size, 3, none⟩ = some (.int .i64 nx) ∧ p.cell? ⟨w.heap.size, 4, none⟩ = some (.slice la ll lc) ∧ p.cell? ⟨w.heap.size, 5, none⟩ = some (.slice sa sl sc) ∧ p.cell? ⟨w.heap.size, 6, none⟩ = some (.int .i64 lost)) → Below p.heap.size p q → (Below w.heap.size w q ∧ q.cell? ⟨w.heap.size, 0, none⟩ = some (.slice na nn nc) ∧ q.cell? ⟨w.heap.size, 1, none⟩ = some (.slice ua un uc) ∧ q.cell? ⟨w.heap.size, 2, none⟩ = some (.slice da dn dc) ∧ q.cell? ⟨w.heap.size, 3, none⟩ = some (.int .i64 nx) ∧ q.cell? ⟨w.heap.size, 4, none⟩ = some (.slice la ll lc) ∧ q.cell? ⟨w.heap.size, 5, none⟩ = some (.slice sa sl sc) ∧ q.cell? ⟨w.heap.size, 6, none⟩ = some (.int .i64 lost)) := by
   rintro p q ⟨k0, k1, k2, k3, k4, k5, k6, k7⟩ hb
   exact ⟨k0.trans (hb.mono k0.size), (hb.cell (cell_lt k1)).trans k1, (hb.cell (cell_lt k2)).trans k2, (hb.cell (cell_lt k3)).trans k3, (hb.cell (cell_lt k4)).trans k4, (hb.cell (cell_lt k5)).trans k5, (hb.cell (cell_lt k6)).trans k6, (hb.cell (cell_lt k7)).trans k7⟩
  have KS := Lib.hid kS
  have HBW : Hid (∀ p : World, (Below w.heap.size w p ∧ p.cell? ⟨w.heap.size, 0, none⟩ = some (.slice na nn nc) ∧ p.cell? ⟨w.heap.size, 1, none⟩ = some (.slice ua un uc) ∧ p.cell? ⟨w.heap.size, 2, none⟩ = some (.slice da dn dc) ∧ p.cell? ⟨w.heap.size, 3, none⟩ = some (.int .i64 nx) ∧ p.cell? ⟨w.heap.size, 4, none⟩ = some (.slice la ll lc) ∧ p.cell? ⟨w.heap.size, 5, none⟩ = some (.slice sa sl sc) ∧ p.cell? ⟨w.heap.size, 6, none⟩ = some (.int .i64 lost)) → Below w.heap.size w p) := Lib.hid (fun p h => h.1)
  clear kS kb7 kc7_0 kc7_1 kc7_2 kc7_3 kc7_4 kc7_5 kc7_6
  cases ev with
  | true =>
   first | (go_region_held3 (fun w' => Below w.heap.size w w' ∧ w'.cell? ⟨w.heap.size, 0, none⟩ = some (.slice na nn nc) ∧ w'.cell? ⟨w.heap.size, 1, none⟩ = some (.slice ua un uc) ∧ w'.cell? ⟨w.heap.size, 2, none⟩ = some (.slice da dn dc) ∧ w'.cell? ⟨w.heap.size, 3, none⟩ = some (.int .i64 nx) ∧ w'.cell? ⟨w.heap.size, 4, none⟩ = some (.slice la ll lc) ∧ w'.cell? ⟨w.heap.size, 5, none⟩ = some (.slice sa sl sc) ∧ w'.cell? ⟨w.heap.size, 6, none⟩ = some (.int .i64 lost)) (repeat (first | with_reducible assumption | with_reducible exact HI.out | (with_reducible refine KS.out _ _ ?_ ((Below.refl _ _).alloc (Nat.le_refl _) _)) | (with_reducible refine KS.out _ _ ?_ (Below.drew (Below.refl _ _))) | (with_reducible refine KS.out _ _ ?_ (by with_reducible assumption)))) (first | ((with_reducible refine (HB1.out _ (by with_reducible assumption)).mono ?_); rintro e w21 ⟨A1, cA1, gs21, rfl, hm21, ho21, hb21⟩; have hS21 := KS.out _ _ (by with_reducible assumption) hb21) | ((with_reducible refine (HB2.out _ (by with_reducible assumption)).mono ?_); rintro e w22 ⟨A2, cA2, gs22, rfl, hm22, ho22, hb22⟩; have hS22 := KS.out _ _ (by with_reducible assumption) hb22) | ((with_reducible refine (CS1.out A1 A2 _ _ _ _ _ hm21 hm22 ((ho21.below hb22).more hb22.size) ho22).mono ?_); rintro e w25 ⟨rfl, hb25⟩; have hS25 := KS.out _ _ (by with_reducible assumption) hb25) | ((with_reducible refine (CS1.out A1 A2 _ _ _ _ _ hm21 hm22 ho21 ((ho22.below hb21).more hb21.size)).mono ?_); rintro e w25 ⟨rfl, hb25⟩; have hS25 := KS.out _ _ (by with_reducible assumption) hb25) | ((with_reducible refine (HB3.out _ (by with_reducible assumption)).mono ?_); rintro e w27 ⟨rfl, hb27⟩; have hS27 := KS.out _ _ (by with_reducible assumption) hb27) | ((with_reducible refine (HB4.out _ (by with_reducible assumption)).mono ?_); rintro e w28 ⟨rfl, hb28⟩; have hS28 := KS.out _ _ (by with_reducible assumption) hb28) | ((with_reducible refine (CAW.out _).mono ?_); rintro e w29 ⟨rfl, hb29⟩; have hS29 := KS.out _ _ (by with_reducible assumption) hb29))) | fail
   all_goals (go_wp2; go_ret; exact ⟨rfl, hS29.1⟩)
  | false =>
   first | (go_region_held3 (fun w' => Below w.heap.size w w' ∧ w'.cell? ⟨w.heap.size, 0, none⟩ = some (.slice na nn nc) ∧ w'.cell? ⟨w.heap.size, 1, none⟩ = some (.slice ua un uc) ∧ w'.cell? ⟨w.heap.size, 2, none⟩ = some (.slice da dn dc) ∧ w'.cell? ⟨w.heap.size, 3, none⟩ = some (.int .i64 nx) ∧ w'.cell? ⟨w.heap.size, 4, none⟩ = some (.slice la ll lc) ∧ w'.cell? ⟨w.heap.size, 5, none⟩ = some (.slice sa sl sc) ∧ w'.cell? ⟨w.heap.size, 6, none⟩ = some (.int .i64 lost)) (repeat (first | with_reducible assumption | with_reducible exact HI.out | (with_reducible refine KS.out _ _ ?_ ((Below.refl _ _).alloc (Nat.le_refl _) _)) | (with_reducible refine KS.out _ _ ?_ (Below.drew (Below.refl _ _))) | (with_reducible refine KS.out _ _ ?_ (by with_reducible assumption)))) (first | ((with_reducible refine (HB1.out _ (by with_reducible assumption)).mono ?_); rintro e w21 ⟨A1, cA1, gs21, rfl, hm21, ho21, hb21⟩; have hS21 := KS.out _ _ (by with_reducible assumption) hb21) | ((with_reducible refine (HB2.out _ (by with_reducible assumption)).mono ?_); rintro e w22 ⟨A2, cA2, gs22, rfl, hm22, ho22, hb22⟩; have hS22 := KS.out _ _ (by with_reducible assumption) hb22) | ((with_reducible refine (CS1.out A1 A2 _ _ _ _ _ hm21 hm22 ((ho21.below hb22).more hb22.size) ho22).mono ?_); rintro e w25 ⟨rfl, hb25⟩; have hS25 := KS.out _ _ (by with_reducible assumption) hb25) | ((with_reducible refine (CS1.out A1 A2 _ _ _ _ _ hm21 hm22 ho21 ((ho22.below hb21).more hb21.size)).mono ?_); rintro e w25 ⟨rfl, hb25⟩; have hS25 := KS.out _ _ (by with_reducible assumption) hb25) | ((with_reducible refine (HB3.out _ (by with_reducible assumption)).mono ?_); rintro e w27 ⟨rfl, hb27⟩; have hS27 := KS.out _ _ (by with_reducible assumption) hb27) | ((with_reducible refine (HB4.out _ (by with_reducible assumption)).mono ?_); rintro e w28 ⟨rfl, hb28⟩; have hS28 := KS.out _ _ (by with_reducible assumption) hb28) | ((with_reducible refine (CAW.out _).mono ?_); rintro e w29 ⟨rfl, hb29⟩; have hS29 := KS.out _ _ (by with_reducible assumption) hb29))) | fail
   all_goals (go_wp2; go_ret; exact ⟨rfl, hS29.1⟩)
theorem viewSums_lifted (os : Os) (started : os.Started) (H : Type) (enc : TypeId × Value → H) :
    ReturnsInHanded {} Tryz.checked os 4 .any (Rows.viewSumsSpec.pre6 enc Tryz.prog Tryz.f4 Rows.viewSumsRow.domain false) (Rows.viewSumsSpec.post enc Tryz.prog Tryz.f4 false true false false) := by
 refine returnsInHanded_of_change_sized (C := Tryz.checked) own started (by kernel_rfl) Tryz.func4
  (ChangeSpec.witness6 (enc := enc) (C := Tryz.checked) false ⟨#[], #[.agg #[.slice none 0 0, .slice none 0 0, .slice none 0 0, .int .i64 0, .slice none 0 0, .slice none 0 0, .int .i64 0], .slice none 0 0, .string ⟨#[]⟩], []⟩ 8 (by kernel_rfl) (by kernel_rfl) (by kernel_rfl) (by kernel_rfl)) ?_
 intro W base args ds gs before hval hW _ hsz _
 have hW' := hW
 obtain ⟨p, q, hA, hV, rfl, hfz, hnd⟩ := hW
 obtain ⟨rfl, rfl⟩ := trodVars_none hV
 rw [Tryz.params4] at hA hval
 obtain ⟨v0, vs0, d0, ds0, p0, q0, hargs, rfl, rfl, h0, r0⟩ := trodAll_cons hA
 obtain ⟨v1, vs1, d1, ds1, p1, q1, rfl, rfl, rfl, h1, r1⟩ := trodAll_cons r0
 obtain ⟨v2, vs2, d2, ds2, p2, q2, rfl, rfl, rfl, h2, r2⟩ := trodAll_cons r1
 obtain ⟨rfl, rfl, rfl⟩ := trodAll_nil r2
 obtain rfl : args = #[v0, v1, v2] := by cases args; simp_all
 obtain ⟨x, dks, dgs, svs, rfl, hx⟩ := open_world hsz (j := 0) rfl rfl (hval 0 _ v0 rfl rfl) h0
 obtain ⟨A, n, c, set, rfl, hs, hnc, hm70⟩ := open_set hsz (j := 1) rfl rfl (hval 1 _ v1 rfl rfl) h1
 obtain ⟨nm, rfl, _, _, wx⟩ := open_string Tryz.underlying9 (hval 2 _ v2 rfl rfl) h2
 refine (viewSums_any x dks dgs svs A n c set nm W hx hs hnc hm70).mono fun e W' ⟨he, hg⟩ => ?_
 subst he
 exact ⟨_, rfl, law_post laidOut rfl (by kernel_rfl) rfl Tryz.underlying4 rfl hW' hg⟩

theorem viewSums_holds : Rows.ViewSumsSaid :=
 OpenClaim.holds_of_wide 4 Tryz.f4 rfl rfl rfl rfl rfl rfl rfl ⟨rfl, rfl, rfl, rfl, rfl⟩ rfl rfl rfl rfl rfl (by kernel_rfl) Tryz.func4 (by kernel_rfl)
  (of_decide_eq_true (by kernel_rfl)) (by unfold Func.isWrapper; first | (rw [if_pos (by decide +kernel)]; kernel_rfl) | (rw [if_neg (by decide +kernel)]; exact ⟨rfl, rfl⟩))
  (fun os started H enc _ => viewSums_lifted os started H enc)

end Go.Proofs.YtkfodkbgmpbmfaaGreat
