/- Chapter 22, parts on the way: Yq Yt Opv Yu -/
import Derived.Shelf.SlGeneric
import Derived.Ground.SlgmProg
import Derived.Shelf.SortM.Plain
import Derived.Test.YtkfodkbgmpbmfaaGreatProg
import Derived.Deep.OwnRows
import Derived.Sort.OwnSortedInts
import Derived.Shelf.SlSortCmp.WholeK
import Derived.Shelf.SlicesG.Cmp
import Derived.WalkKit
import Derived.WalkSpells
import Derived.WalkLawsBesides
import Derived.Deep.QuietTactic
import Derived.BigQuiet
import Derived.Deep.RegionHeld
import Derived.StillTail
import Derived.RangeFuncNested
import Derived.RangeFuncCalls
import Derived.OrdersIn
import Derived.OwnWalkIn
import Derived.Test.YtkfodkbgmpbmfaaGreatRows
import Derived.Below
import Derived.Laws.OwnMore
import Derived.Deep.AppendLies
import Derived.Deep.Draws
import Derived.Maps.AppendAt
import Derived.RegionTactic
import Derived.OwnWalk
import Derived.Laws.IdiomCopy
import Derived.RowKit
import Derived.Shelf.SlSortCmp.NoneTotal
import Derived.RangeFuncBound
import Derived.RangeFuncLeaves
import Derived.RangeFuncBox
import Derived.Shelf.Abstract
import Derived.Shelf.RegionOpen
import Derived.TacticsInMore
import Derived.LoopNIn
import Derived.LoopIn
import Derived.Maps.OwnIn
import Derived.WalkMore
import Derived.Lib.Hide
import Derived.Laws.Strings
import Derived.ChangeSame
import Derived.Deep.Slices
import Derived.Deep.Fields
import Derived.SizedLaws
import Derived.Lib.SmallJoins
import Derived.OpenShut
import Derived.Lib.SliceRun
import Derived.Deep.RegionHeld3
import Derived.Laws.EntriesVeiled
import Derived.Outline
import Derived.Lib.Mul64
import Derived.Shelf.Spec.BitsCarry
import Derived.Laws.Bits64b
import Derived.Deep.Cut
import Derived.Laws.BytesString
import Derived.Deep.MidRow
import Derived.Laws.ResultCell
import Derived.Deep.RegionLaw
import Derived.Deep.CutRange
import Derived.Deep.DeepAppendWide
import Derived.Laws.IdiomStrings
import Derived.ProofKit
import Derived.ChangeSlices
import Derived.Test.YtkfodkbgmpbmfaaGreatB01
import Derived.Test.YtkfodkbgmpbmfaaGreatB02
import Derived.Test.YtkfodkbgmpbmfaaGreatB03
import Derived.Test.YtkfodkbgmpbmfaaGreatB04
import Derived.Test.YtkfodkbgmpbmfaaGreatB05
import Derived.Test.YtkfodkbgmpbmfaaGreatB06
import Derived.Test.YtkfodkbgmpbmfaaGreatB07
import Derived.Test.YtkfodkbgmpbmfaaGreatB08
import Derived.Test.YtkfodkbgmpbmfaaGreatB09
import Derived.Test.YtkfodkbgmpbmfaaGreatB10
import Derived.Test.YtkfodkbgmpbmfaaGreatB11
import Derived.Test.YtkfodkbgmpbmfaaGreatB12
import Derived.Test.YtkfodkbgmpbmfaaGreatB13
import Derived.Test.YtkfodkbgmpbmfaaGreatB14
import Derived.Test.YtkfodkbgmpbmfaaGreatB15
import Derived.Test.YtkfodkbgmpbmfaaGreatB16
import Derived.Test.YtkfodkbgmpbmfaaGreatB17
import Derived.Test.YtkfodkbgmpbmfaaGreatB18
import Derived.Test.YtkfodkbgmpbmfaaGreatB19
import Derived.Test.YtkfodkbgmpbmfaaGreatB20
import Derived.Test.YtkfodkbgmpbmfaaGreatB21
import Derived.Test.YtkfodkbgmpbmfaaGreatB22
import Derived.Test.YtkfodkbgmpbmfaaGreatB23
import Derived.Test.YtkfodkbgmpbmfaaGreatB24
import Derived.Test.YtkfodkbgmpbmfaaGreatB25
import Derived.Test.YtkfodkbgmpbmfaaGreatB26
import Derived.Test.YtkfodkbgmpbmfaaGreatB27
import Derived.Test.YtkfodkbgmpbmfaaGreatB28
import Derived.Test.YtkfodkbgmpbmfaaGreatB29
import Derived.Test.YtkfodkbgmpbmfaaGreatB30
import Derived.Test.YtkfodkbgmpbmfaaGreatB31
import Derived.Test.YtkfodkbgmpbmfaaGreatB32
import Derived.Test.YtkfodkbgmpbmfaaGreatB33
import Derived.Test.YtkfodkbgmpbmfaaGreatB34
import Derived.Test.YtkfodkbgmpbmfaaGreatB35
import Derived.Test.YtkfodkbgmpbmfaaGreatB36
import Derived.Test.YtkfodkbgmpbmfaaGreatB37
import Derived.Test.YtkfodkbgmpbmfaaGreatB38
import Derived.Test.YtkfodkbgmpbmfaaGreatB39
import Derived.Test.YtkfodkbgmpbmfaaGreatB40
import Derived.Test.YtkfodkbgmpbmfaaGreatB41
import Derived.Test.YtkfodkbgmpbmfaaGreatB42
import Derived.Test.YtkfodkbgmpbmfaaGreatU01
import Derived.Test.YtkfodkbgmpbmfaaGreatU02
set_option linter.unusedVariables false
set_option linter.unusedSimpArgs false
namespace Go.Proofs.YtkfodkbgmpbmfaaGreat
open Go.RowKit Go.Shelf
set_option linter.unusedVariables false
set_option linter.unusedSimpArgs false
set_option maxRecDepth 100000
set_option maxHeartbeats 8000000 in
theorem rclosed_any (x : Wd) (nm : ByteArray) (A : Option Addr) (n c : Nat) (set : List Int) (w : World) (hx : WdOk w x) (hs : RowsE encI 1 w w.heap.size A n set) (hnc : n ≤ c) (hm : n ≤ 70368744177664) :
    Calls Tryz.prog 24 #[WdV x, .slice A n c, .string nm] w fun e w' => e = .returned (.bool (closedB x set nm)) ∧ Below w.heap.size w w' := by
 have CB := Lib.hid (fun (a b : Int) W (hb : Below w.heap.size w W) => rboth_any x a b nm W (hx.below hb))
 have CG := Lib.hid (fun (a b : Int) W (hb : Below w.heap.size w W) => ragreed_any x a b nm W (hx.below hb))
 have CC := Lib.hid (fun (v : Int) W (hb : Below w.heap.size w W) => rhas_anyB A n c set v W ((hs.below hb).more hb.size) hm)
 have CK := Lib.hid (fun (k : Nat) (hk : k ≤ n) (v : Int) W (hb : Below w.heap.size w W) => rhas_anyB A k c (set.take k) v W (((hs.take hk).below hb).more hb.size) (by omega))
 have HBU := Lib.hid (fun (a b : Int) (e : bothB x a b nm = true) => hx.both_at e)
 have HS := Lib.hid hs
 have HLS : Hid (set.length = n) := Lib.hid hs.1
 have HNO := Lib.hid (fun k (hk : k < set.length) (h : closeB x nm set k = false) => closed_no hk h)
 have HYES := Lib.hid (fun (h : ∀ t, t < set.length → closeB x nm set t = true) => closed_yes h)
 have HCL := Lib.hid (fun k a (h : set[k]? = some a) => closeB_at (x := x) (nm := nm) h)
 clear hx hs
 generalize closedB x set nm = r at HNO HYES ⊢
 generalize closeB x nm set = cl at HNO HYES HCL
 generalize bothB x = bo at CB HBU HCL
 generalize agreedB x = ag at CG HCL
 generalize upN x = U at HBU HCL
 obtain ⟨na, nn, nc, ua, un, uc, da, dn, dc, nx, la, ll, lc, sa, sl, sc, lost, nds, ups⟩ := x
 simp only [] at HBU ⊢
 go_enter Tryz.func24, Tryz.ntmps24
 go_wp2
 go_loopw [7] (fun i w' => ∃ (k : Nat), k ≤ n ∧ i = .int .i64 k ∧ Hid (∀ t, t < k → cl t = true) ∧ KeptC w [(⟨w.heap.size, 0, none⟩, .slice na nn nc), (⟨w.heap.size, 1, none⟩, .slice ua un uc), (⟨w.heap.size, 2, none⟩, .slice da dn dc), (⟨w.heap.size, 3, none⟩, .int .i64 nx), (⟨w.heap.size, 4, none⟩, .slice la ll lc), (⟨w.heap.size, 5, none⟩, .slice sa sl sc), (⟨w.heap.size, 6, none⟩, .int .i64 lost)] [] w') (fun i _ => n - (intOf i).toNat)
 case atStart => exact ⟨0, Nat.zero_le _, rfl, Lib.hid (fun t h => absurd h (by omega)), Qk⟩
 case round =>
  obtain ⟨k, hk, rfl, HA, hK⟩ := hrel
  simp only [KeptC, List.forall_mem_cons] at hK; obtain ⟨kb0, ⟨kc0_0, kc0_1, kc0_2, kc0_3, kc0_4, kc0_5, kc0_6, _⟩, _⟩ := hK
  have hs0 := kb0.size
  have hz0 : w.heap.size < wr.heap.size := cell_lt kc0_0
  by_cases hlt : k < n
  rotate_left
  · obtain rfl : k = n := by omega
    have HC : Hid (r = true) := Lib.hid (HYES.out (by rw [HLS.out]; exact HA.out))
    go_wp2
    go_ret
    exact ⟨by rw [HC.out]; rfl, kb0⟩
  · obtain ⟨ad, a, rfl, hab, ha, h4⟩ := HS.out.at hlt
    rw [Nat.mul_one] at h4 hab
    have c0 : wr.cell? (ad.add k) = some (.int .i64 a) := by have := h4 0 _ rfl; rw [Bg.add_z] at this; exact (kb0.cell hab).trans this
    obtain ⟨ad1, s0, hA1, hab1, hs1, h5⟩ := HS.out.at (show 0 < n by omega)
    obtain rfl := Option.some.inj hA1
    rw [Nat.zero_mul, Bg.add_z] at h5 hab1
    have d0 : wr.cell? ad = some (.int .i64 s0) := by have := h5 0 _ rfl; rw [Bg.add_z] at this; exact (kb0.cell hab1).trans this
    have hcl := HCL.out k a ha
    rw [headD_at hs1] at hcl
    have HKL : Hid (k < set.length) := Lib.hid (by rw [HLS.out]; exact hlt)
    have hwk : IntKind.i64.wrap ((k : Int) + 1) = (k : Int) + 1 := by rw [IntKind.wrap_i64]; omega
    have hkc : (k : Int) ≤ c := by omega
    have hkn : (k : Int) ≤ n := by omega
    have h0n : 0 < n := by omega
    have HCL2 := Lib.hid hcl
    have CK2 := Lib.hid (CK.out k hk a)
    have CB2 := Lib.hid (CB.out s0 a)
    have HBU2 := Lib.hid (HBU.out s0 a)
    clear h4 h5 hA1 hs1 ha hcl
    obtain ⟨w1, h⟩ : ∃ w1, w1 = wr := ⟨_, rfl⟩
    subst h
    cases hp : (set.take k).contains a with
    | true =>
     have ck := CK2.out
     rw [hp] at ck
     have CK3 := Lib.hid ck
     have HR : Hid (r = false) := Lib.hid (HNO.out k HKL.out (by rw [HCL2.out, hp]; rfl))
     clear ck hp CK2 CB2 HBU2
     go_wp2_with (fail)
     refine wp_region_quietC_lit (KeptC w [(⟨w.heap.size, 0, none⟩, .slice na nn nc), (⟨w.heap.size, 1, none⟩, .slice ua un uc), (⟨w.heap.size, 2, none⟩, .slice da dn dc), (⟨w.heap.size, 3, none⟩, .int .i64 nx), (⟨w.heap.size, 4, none⟩, .slice la ll lc), (⟨w.heap.size, 5, none⟩, .slice sa sl sc), (⟨w.heap.size, 6, none⟩, .int .i64 lost), (ad, .int .i64 s0), (ad.add k, .int .i64 a)] []) (by kernel_rfl) (by kernel_rfl) ?_ ?_
     · refine KeptC.drewn ?_
       exact Qk1 kb0
     repeat (first
      | go_big_quiet_skip
      | (go_big_quiet_want; (apply quietC_run); (· intro w' hw'; (have hk' := hw'; simp only [KeptC, List.forall_mem_cons] at hk'; go_split_ands); go_simp; first | done | rfl); (simp only [Act.put, List.setIfInBounds_toArray, List.set_cons_zero, List.set_cons_succ]; go_big_quiet_on))
      | (go_big_quiet_want; (apply quietC_call); (· intro w' hw'; go_simp; first | done | exact ⟨rfl, rfl⟩ | rfl); (· intro w' hw'; first | ((with_reducible refine (CK3.out _ hw'.lowV).mono ?_); rintro e w2 ⟨rfl, hb⟩; exact ⟨rfl, hw'.below hb⟩)); (simp only [Act.put, List.setIfInBounds_toArray, List.set_cons_zero, List.set_cons_succ]; go_big_quiet_on)))
     refine wpQuiet_nil ?_
     intro w9 hk9
     (have hk' := hk9; simp only [KeptC, List.forall_mem_cons] at hk'; go_split_ands); have hkB9 := hk9.1
     go_wp2
     go_ret
     exact ⟨by rw [HR.out]; rfl, hkB9⟩
    | false =>
     have ck := CK2.out
     rw [hp] at ck
     have CK3 := Lib.hid ck
     cases hb : bo s0 a nm with
     | false =>
      have cb := CB2.out
      rw [hb] at cb
      have CB3 := Lib.hid cb
      have HR : Hid (r = false) := Lib.hid (HNO.out k HKL.out (by rw [HCL2.out, hp, hb]; rfl))
      clear ck cb hp hb CK2 CB2 HBU2
      go_wp2_with (fail)
      refine wp_region_quietC_lit (KeptC w [(⟨w.heap.size, 0, none⟩, .slice na nn nc), (⟨w.heap.size, 1, none⟩, .slice ua un uc), (⟨w.heap.size, 2, none⟩, .slice da dn dc), (⟨w.heap.size, 3, none⟩, .int .i64 nx), (⟨w.heap.size, 4, none⟩, .slice la ll lc), (⟨w.heap.size, 5, none⟩, .slice sa sl sc), (⟨w.heap.size, 6, none⟩, .int .i64 lost), (ad, .int .i64 s0), (ad.add k, .int .i64 a)] []) (by kernel_rfl) (by kernel_rfl) ?_ ?_
      · refine KeptC.drewn ?_
        exact Qk1 kb0
      repeat (first
       | go_big_quiet_skip
       | (go_big_quiet_want; (apply quietC_run); (· intro w' hw'; (have hk' := hw'; simp only [KeptC, List.forall_mem_cons] at hk'; go_split_ands); go_simp; first | done | rfl); (simp only [Act.put, List.setIfInBounds_toArray, List.set_cons_zero, List.set_cons_succ]; go_big_quiet_on))
       | (go_big_quiet_want; (apply quietC_call); (· intro w' hw'; go_simp; first | done | exact ⟨rfl, rfl⟩ | rfl); (· intro w' hw'; first | ((with_reducible refine (CK3.out _ hw'.lowV).mono ?_); rintro e w2 ⟨rfl, hb⟩; exact ⟨rfl, hw'.below hb⟩) | ((with_reducible refine (CB3.out _ hw'.lowV).mono ?_); rintro e w2 ⟨rfl, hb⟩; exact ⟨rfl, hw'.below hb⟩)); (simp only [Act.put, List.setIfInBounds_toArray, List.set_cons_zero, List.set_cons_succ]; go_big_quiet_on)))
      refine wpQuiet_nil ?_
      intro w9 hk9
      (have hk' := hk9; simp only [KeptC, List.forall_mem_cons] at hk'; go_split_ands); have hkB9 := hk9.1
      go_wp2
      go_ret
      exact ⟨by rw [HR.out]; rfl, hkB9⟩
     | true =>
      have cb := CB2.out
      rw [hb] at cb
      have CB3 := Lib.hid cb
      obtain ⟨i, adn, u, rfl, hin, hna, habn, h8, hhf, h16, hU⟩ := HBU2.out hb
      subst hna
      have HALL : Hid (cl k = (u.halves.all fun h => set.contains h.peer && ag (i : Int) h.peer nm)) := Lib.hid (by rw [HCL2.out, hp, hb, hU]; rfl)
      obtain ⟨P, hP⟩ : ∃ P, adn.add (i * 8) = P := ⟨_, rfl⟩
      rw [hP] at h8 habn
      obtain ⟨p0, p1, p2, p3, p4, p5, p6, p7⟩ := h8.below habn kb0
      have hPw : P.block < w1.heap.size := by omega
      have HHF := Lib.hid hhf.1
      have HH16 := Lib.hid h16
      have HLU : Hid (u.halves.length = u.hn) := Lib.hid hhf.1.1
      clear ck cb hp hb CK2 CB2 HBU2 hU hhf h8 h16 p0 p1 p2 p3 p4 p5 p7
      go_wp2_with (fail)
      refine wp_region_quietC_lit (KeptC w [(⟨w.heap.size, 0, none⟩, .slice (some adn) nn nc), (⟨w.heap.size, 1, none⟩, .slice ua un uc), (⟨w.heap.size, 2, none⟩, .slice da dn dc), (⟨w.heap.size, 3, none⟩, .int .i64 nx), (⟨w.heap.size, 4, none⟩, .slice la ll lc), (⟨w.heap.size, 5, none⟩, .slice sa sl sc), (⟨w.heap.size, 6, none⟩, .int .i64 lost), (ad, .int .i64 s0), (ad.add k, .int .i64 i), (⟨P.block, P.off + 6, none⟩, .slice u.ha u.hn u.hc)] []) (by kernel_rfl) (by kernel_rfl) ?_ ?_
      · refine KeptC.drewn ?_
        exact Qk1 kb0
      repeat (first
       | go_big_quiet_skip
       | (go_big_quiet_want; (apply quietC_run); (· intro w' hw'; (have hk' := hw'; simp only [KeptC, List.forall_mem_cons] at hk'; go_split_ands); go_simp; first | done | rfl); (simp only [Act.put, List.setIfInBounds_toArray, List.set_cons_zero, List.set_cons_succ]; go_big_quiet_on))
       | (go_big_quiet_want; (apply quietC_call); (· intro w' hw'; go_simp; first | done | exact ⟨rfl, rfl⟩ | rfl); (· intro w' hw'; first | ((with_reducible refine (CK3.out _ hw'.lowV).mono ?_); rintro e w2 ⟨rfl, hb⟩; exact ⟨rfl, hw'.below hb⟩) | ((with_reducible refine (CB3.out _ hw'.lowV).mono ?_); rintro e w2 ⟨rfl, hb⟩; exact ⟨rfl, hw'.below hb⟩)); (simp only [Act.put, List.setIfInBounds_toArray, List.set_cons_zero, List.set_cons_succ]; go_big_quiet_on)))
      refine wpQuiet_nil ?_
      intro w9 hk9
      (have hk' := hk9; simp only [KeptC, List.forall_mem_cons] at hk'; go_split_ands); have hkB9 := hk9.1
      clear CK3 CB3 p6 c0 d0 kc0_0 kc0_1 kc0_2 kc0_3 kc0_4 kc0_5 kc0_6
      have hP9 : P.block < w9.heap.size := by have := hkB9.size; omega

      go_wp2
      go_loopw [10] (fun i' w' => ∃ (j : Nat), j ≤ u.hn ∧ i' = .int .i64 j ∧ Hid (∀ (t : Nat) h, t < j → u.halves[t]? = some h → (set.contains h.peer && ag (i : Int) h.peer nm) = true) ∧ KeptC w [(⟨w.heap.size, 0, none⟩, .slice (some adn) nn nc), (⟨w.heap.size, 1, none⟩, .slice ua un uc), (⟨w.heap.size, 2, none⟩, .slice da dn dc), (⟨w.heap.size, 3, none⟩, .int .i64 nx), (⟨w.heap.size, 4, none⟩, .slice la ll lc), (⟨w.heap.size, 5, none⟩, .slice sa sl sc), (⟨w.heap.size, 6, none⟩, .int .i64 lost)] [] w') (fun i' _ => u.hn - (intOf i').toNat)
      case atStart => exact ⟨0, Nat.zero_le _, rfl, Lib.hid (fun t h ht => absurd ht (by omega)), (Qk1 hkB9)⟩
      case round =>
       obtain ⟨j, hj, rfl, HT, hK⟩ := hrel
       clear kb0 hz0 hs0 hk9
       simp only [KeptC, List.forall_mem_cons] at hK; obtain ⟨kb3, ⟨kc3_0, kc3_1, kc3_2, kc3_3, kc3_4, kc3_5, kc3_6, _⟩, _⟩ := hK
       have hs3 := kb3.size
       have hz3 : w.heap.size < wr.heap.size := cell_lt kc3_0
       by_cases hlj : j < u.hn
       rotate_left
       · obtain rfl : j = u.hn := by omega
         have HCK : Hid (∀ t, t < k + 1 → cl t = true) := Lib.hid (by
          intro t ht
          rcases Nat.lt_or_eq_of_le (Nat.lt_succ_iff.1 ht) with h1 | h1
          · exact HA.out t h1
          · subst h1
            rw [HALL.out, List.all_eq_true]
            intro h hh
            obtain ⟨q, hq, rfl⟩ := List.getElem_of_mem hh
            exact HT.out q _ (by rw [← HLU.out]; exact hq) (List.getElem?_eq_getElem hq))
         go_wp2
         go_roundw
         case rel => exact ⟨k + 1, by omega, by go_num, HCK, (Qk1 kb3)⟩
         case measure => simp [intOf]; omega
       · obtain ⟨adh, g, hha, habh, hg, h6⟩ := HHF.out.at hlj
         obtain ⟨Q, hQ⟩ : ∃ Q, adh.add (j * 6) = Q := ⟨_, rfl⟩
         rw [hQ] at h6 habh
         obtain ⟨q0, q1, q2, q3, q4, q5⟩ := (hf6_of h6).below habh kb3
         have hQw : Q.block < wr.heap.size := by omega
         have HG := Lib.hid hg
         have hwj : IntKind.i64.wrap ((j : Int) + 1) = (j : Int) + 1 := by rw [IntKind.wrap_i64]; have := HH16.out; omega
         have hju : (j : Int) < (u.hn : Int) := by omega
         have CC2 := Lib.hid (CC.out g.peer)
         have CG2 := Lib.hid (CG.out (i : Int) g.peer)
         have HBAD : Hid ((set.contains g.peer && ag (i : Int) g.peer nm) = false → r = false) := Lib.hid (fun h => HNO.out k HKL.out (by
          rw [HALL.out, List.all_eq_false]
          exact ⟨g, List.mem_of_getElem? HG.out, by rw [h]; decide⟩))
         have HNXT : Hid ((set.contains g.peer && ag (i : Int) g.peer nm) = true → ∀ (t : Nat) h, t < j + 1 → u.halves[t]? = some h → (set.contains h.peer && ag (i : Int) h.peer nm) = true) := Lib.hid (by
          intro h0 t h ht hh
          rcases Nat.lt_or_eq_of_le (Nat.lt_succ_iff.1 ht) with h1 | h1
          · exact HT.out t h h1 hh
          · subst h1
            obtain rfl := Option.some.inj (HG.out.symm.trans hh)
            exact h0)
         clear h6 hg q1 q2 q3 q4 q5
         generalize g.peer = v at q0 CC2 CG2 HBAD HNXT
         generalize ag (i : Int) v nm = b2 at CG2 HBAD HNXT
         generalize set.contains v = b1 at CC2 HBAD HNXT
         rw [hha]
         cases b1 with
         | false =>
          have HR : Hid (r = false) := Lib.hid (HBAD.out rfl)
          go_wp2_with (fail)
          refine wp_region_quietC_lit (KeptC w [(⟨w.heap.size, 0, none⟩, .slice (some adn) nn nc), (⟨w.heap.size, 1, none⟩, .slice ua un uc), (⟨w.heap.size, 2, none⟩, .slice da dn dc), (⟨w.heap.size, 3, none⟩, .int .i64 nx), (⟨w.heap.size, 4, none⟩, .slice la ll lc), (⟨w.heap.size, 5, none⟩, .slice sa sl sc), (⟨w.heap.size, 6, none⟩, .int .i64 lost), (Q, .int .i64 v)] []) (by kernel_rfl) (by kernel_rfl) ?_ ?_
          · refine KeptC.drewn ?_
            exact Qk1 kb3
          repeat (first
           | go_big_quiet_skip
           | (go_big_quiet_want; (apply quietC_run); (· intro w' hw'; (have hk' := hw'; simp only [KeptC, List.forall_mem_cons] at hk'; go_split_ands); go_simp; first | done | rfl); (simp only [Act.put, List.setIfInBounds_toArray, List.set_cons_zero, List.set_cons_succ]; go_big_quiet_on))
           | (go_big_quiet_want; (apply quietC_call); (· intro w' hw'; go_simp; first | done | exact ⟨rfl, rfl⟩ | rfl); (· intro w' hw'; first | ((with_reducible refine (CC2.out _ hw'.lowV).mono ?_); rintro e w2 ⟨rfl, hb⟩; exact ⟨rfl, hw'.below hb⟩)); (simp only [Act.put, List.setIfInBounds_toArray, List.set_cons_zero, List.set_cons_succ]; go_big_quiet_on)))
          refine wpQuiet_nil ?_
          intro w8 hk8
          (have hk' := hk8; simp only [KeptC, List.forall_mem_cons] at hk'; go_split_ands); have hkB8 := hk8.1
          go_wp2
          go_ret
          exact ⟨by rw [HR.out]; rfl, hkB8⟩
         | true =>
          cases b2 with
          | false =>
           have HR : Hid (r = false) := Lib.hid (HBAD.out rfl)
           go_wp2_with (fail)
           refine wp_region_quietC_lit (KeptC w [(⟨w.heap.size, 0, none⟩, .slice (some adn) nn nc), (⟨w.heap.size, 1, none⟩, .slice ua un uc), (⟨w.heap.size, 2, none⟩, .slice da dn dc), (⟨w.heap.size, 3, none⟩, .int .i64 nx), (⟨w.heap.size, 4, none⟩, .slice la ll lc), (⟨w.heap.size, 5, none⟩, .slice sa sl sc), (⟨w.heap.size, 6, none⟩, .int .i64 lost), (Q, .int .i64 v)] []) (by kernel_rfl) (by kernel_rfl) ?_ ?_
           · refine KeptC.drewn ?_
             exact Qk1 kb3
           repeat (first
            | go_big_quiet_skip
            | (go_big_quiet_want; (apply quietC_run); (· intro w' hw'; (have hk' := hw'; simp only [KeptC, List.forall_mem_cons] at hk'; go_split_ands); go_simp; first | done | rfl); (simp only [Act.put, List.setIfInBounds_toArray, List.set_cons_zero, List.set_cons_succ]; go_big_quiet_on))
            | (go_big_quiet_want; (apply quietC_call); (· intro w' hw'; go_simp; first | done | exact ⟨rfl, rfl⟩ | rfl); (· intro w' hw'; first | ((with_reducible refine (CC2.out _ hw'.lowV).mono ?_); rintro e w2 ⟨rfl, hb⟩; exact ⟨rfl, hw'.below hb⟩) | ((with_reducible refine (CG2.out _ hw'.lowV).mono ?_); rintro e w2 ⟨rfl, hb⟩; exact ⟨rfl, hw'.below hb⟩)); (simp only [Act.put, List.setIfInBounds_toArray, List.set_cons_zero, List.set_cons_succ]; go_big_quiet_on)))
           refine wpQuiet_nil ?_
           intro w8 hk8
           (have hk' := hk8; simp only [KeptC, List.forall_mem_cons] at hk'; go_split_ands); have hkB8 := hk8.1
           go_wp2
           go_ret
           exact ⟨by rw [HR.out]; rfl, hkB8⟩
          | true =>
           go_wp2_with (fail)
           refine wp_region_quietC_lit (KeptC w [(⟨w.heap.size, 0, none⟩, .slice (some adn) nn nc), (⟨w.heap.size, 1, none⟩, .slice ua un uc), (⟨w.heap.size, 2, none⟩, .slice da dn dc), (⟨w.heap.size, 3, none⟩, .int .i64 nx), (⟨w.heap.size, 4, none⟩, .slice la ll lc), (⟨w.heap.size, 5, none⟩, .slice sa sl sc), (⟨w.heap.size, 6, none⟩, .int .i64 lost), (Q, .int .i64 v)] []) (by kernel_rfl) (by kernel_rfl) ?_ ?_
           · refine KeptC.drewn ?_
             exact Qk1 kb3
           repeat (first
            | go_big_quiet_skip
            | (go_big_quiet_want; (apply quietC_run); (· intro w' hw'; (have hk' := hw'; simp only [KeptC, List.forall_mem_cons] at hk'; go_split_ands); go_simp; first | done | rfl); (simp only [Act.put, List.setIfInBounds_toArray, List.set_cons_zero, List.set_cons_succ]; go_big_quiet_on))
            | (go_big_quiet_want; (apply quietC_call); (· intro w' hw'; go_simp; first | done | exact ⟨rfl, rfl⟩ | rfl); (· intro w' hw'; first | ((with_reducible refine (CC2.out _ hw'.lowV).mono ?_); rintro e w2 ⟨rfl, hb⟩; exact ⟨rfl, hw'.below hb⟩) | ((with_reducible refine (CG2.out _ hw'.lowV).mono ?_); rintro e w2 ⟨rfl, hb⟩; exact ⟨rfl, hw'.below hb⟩)); (simp only [Act.put, List.setIfInBounds_toArray, List.set_cons_zero, List.set_cons_succ]; go_big_quiet_on)))
           refine wpQuiet_nil ?_
           intro w8 hk8
           (have hk' := hk8; simp only [KeptC, List.forall_mem_cons] at hk'; go_split_ands); have hkB8 := hk8.1
           clear q0 kc3_0 kc3_1 kc3_2 kc3_3 kc3_4 kc3_5 kc3_6
           go_wp2
           go_roundw
           case rel => exact ⟨j + 1, by omega, by go_num, Lib.hid (HNXT.out rfl), (Qk1 hkB8)⟩
           case measure => simp [intOf]; omega
end Go.Proofs.YtkfodkbgmpbmfaaGreat
namespace Go.Proofs.YtkfodkbgmpbmfaaGreat
open Go.RowKit Go.Shelf
set_option linter.unusedVariables false
set_option linter.unusedSimpArgs false
set_option maxRecDepth 100000
theorem memI_cont (l : List Nat) (k : Nat) : (memI l).contains (k : Int) = l.contains k := by
 rw [Bool.eq_iff_iff, List.contains_iff_mem, List.contains_iff_mem]
 unfold memI
 rw [List.mem_map]
 constructor
 · rintro ⟨a, h, e⟩; obtain rfl := Int.ofNat.inj e; exact h
 · intro h; exact ⟨k, h, rfl⟩
theorem GsAt.below {w w' : World} {B n : Nat} {A : Option Addr} {gs : List Gr} (h : GsAt w B A n gs) (hb : Below B w w') : GsAt w' B A n gs := ⟨h.1.below hb, fun g hg => ⟨(h.2 g hg).1.below hb, (h.2 g hg).2⟩⟩
theorem GsAt.more {w : World} {B B' n : Nat} {A : Option Addr} {gs : List Gr} (h : GsAt w B A n gs) (hB : B ≤ B') : GsAt w B' A n gs := ⟨h.1.more hB, fun g hg => ⟨(h.2 g hg).1.more hB, (h.2 g hg).2⟩⟩
theorem OutAt.other {w w' : World} {base : Nat} {v v2 v2' : Value} {gs : List Gr} (h : OutAt w base v v2 gs) (hs : w.heap.size ≤ w'.heap.size)
    (hk : ∀ b, b < w.heap.size → v2.ownBlock ≠ some b → w'.heap[b]? = w.heap[b]? ∧ v2'.ownBlock ≠ some b) : OutAt w' base v v2' gs := by
 refine ⟨h.own.blk fun b hb hv => (hk b hb (h.far b hv)).1, fun b hv => (hk b (h.own.lt hv).2 (h.far b hv)).2, fun g hg => ?_⟩
 obtain ⟨b, e, h1, h2, h3, h4, h5, h6⟩ := h.grs g hg
 refine ⟨b, e, h1, by omega, h3, (hk b h2 h4).2, ?_, h6⟩
 rw [e] at h5 ⊢
 exact h5.blk (hk b h2 h4).1 (by omega)
end Go.Proofs.YtkfodkbgmpbmfaaGreat
namespace Go.Proofs.YtkfodkbgmpbmfaaGreat
open Go.ChangeShapes Go.WideShapes Go.ChangeAt Go.RowKit Go.Shelf Go.Deep Go.Joins Go.ChangeMaps
set_option linter.unusedVariables false
set_option linter.unusedSimpArgs false
set_option maxRecDepth 100000
section
variable {H : Type} {enc : TypeId × Value → H} {w : World} {base b0 : Nat} {spare : Nat → Bool} {held : Bool}
theorem open_set {ts : List TypeId} {ds : List (DataW H)} (hsz : (DataW.weightsEach Tryz.prog ts ds).all (· ≤ reachBytes) = true) {v : Value} {d : DataW H} {p : List MemPlace} {j : Nat} (ht : ts[j]? = some 42) (hd : ds[j]? = some d)
    (hv : Value.okWide Tryz.prog w .any b0 42 v) (h : DataW.Trod enc Tryz.prog w base spare held 42 v d p) :
    ∃ (A : Option Addr) (n c : Nat) (set : List Int), v = .slice A n c ∧ RowsE encI 1 w w.heap.size A n set ∧ n ≤ c ∧ n ≤ 70368744177664 := by
 obtain ⟨A0, n0, c0, rfl⟩ := okWide_slice Tryz.underlying42 hv
 obtain ⟨fuel, hf⟩ := h
 have hf' : DataW.trod enc Tryz.prog w base spare held fuel 42 [.slice A0 n0 c0] = some (d, p) := by simpa [Value.cells] using hf
 obtain ⟨A, n, c, rs, e, hnc, hr, hx⟩ := trod_rowsD (enc2 := encI) (k := 1) (Q := fun _ _ => True) (fun _ => rfl) (by decide) 0 Tryz.underlying42 k_int (fun _ _ _ h => by obtain ⟨y, e⟩ := wtrod_int h; exact ⟨y, e, trivial⟩) hf'
 have hz : SzOk 42 d := fun z hz => by
  have := List.all_eq_true.1 hsz _ (DataW.weights_mem_each ht hd z hz)
  simpa using this
 have h3 := (hz.len Tryz.underlying42 (b := 8) (by kernel_rfl) hx).1
 exact ⟨A, n, c, rs, e, hr, hnc, by omega⟩
end
end Go.Proofs.YtkfodkbgmpbmfaaGreat
namespace Go.Proofs.YtkfodkbgmpbmfaaGreat
open Go.RowKit Go.Shelf
set_option linter.unusedVariables false
set_option linter.unusedSimpArgs false
set_option maxRecDepth 100000
theorem grp_len (n : Nat) (H : Nat → Nat → Bool) (a : Nat) : (grp n H a).length ≤ n := by
 unfold grp
 have := List.length_filter_le (fun b => @decide (Rch n H a b) (Classical.propDecidable _)) (List.range n)
 simpa using this
end Go.Proofs.YtkfodkbgmpbmfaaGreat
