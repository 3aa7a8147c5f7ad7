/- Chapter 22, parts on the way: Wb Wc Wd Opv -/
import Derived.Shelf.SlSortCmp.WholeK
import Derived.Shelf.SlicesG.Cmp
import Derived.Test.YtkfodkbgmpbmfaaGreatProg
import Derived.WalkKit
import Derived.WalkSpells
import Derived.WalkLawsBesides
import Derived.Deep.QuietTactic
import Derived.BigQuiet
import Derived.Deep.RegionHeld
import Derived.StillTail
import Derived.RangeFuncNested
import Derived.RangeFuncCalls
import Derived.OrdersIn
import Derived.OwnWalkIn
import Derived.Test.YtkfodkbgmpbmfaaGreatRows
import Derived.Below
import Derived.Laws.OwnMore
import Derived.Deep.AppendLies
import Derived.Deep.Draws
import Derived.Maps.AppendAt
import Derived.RegionTactic
import Derived.OwnWalk
import Derived.Laws.IdiomCopy
import Derived.RowKit
import Derived.Shelf.SlSortCmp.NoneTotal
import Derived.RangeFuncBound
import Derived.RangeFuncLeaves
import Derived.RangeFuncBox
import Derived.Shelf.Abstract
import Derived.Shelf.RegionOpen
import Derived.TacticsInMore
import Derived.LoopNIn
import Derived.LoopIn
import Derived.Maps.OwnIn
import Derived.WalkMore
import Derived.Lib.Hide
import Derived.Laws.Strings
import Derived.ChangeSame
import Derived.Deep.Slices
import Derived.Deep.Fields
import Derived.SizedLaws
import Derived.Lib.SmallJoins
import Derived.OpenShut
import Derived.Lib.SliceRun
import Derived.Deep.RegionHeld3
import Derived.Laws.EntriesVeiled
import Derived.Outline
import Derived.Lib.Mul64
import Derived.Shelf.Spec.BitsCarry
import Derived.Laws.Bits64b
import Derived.Deep.Cut
import Derived.Laws.BytesString
import Derived.Deep.MidRow
import Derived.Laws.ResultCell
import Derived.Deep.RegionLaw
import Derived.Deep.OwnRows
import Derived.Deep.CutRange
import Derived.Deep.DeepAppendWide
import Derived.Laws.IdiomStrings
import Derived.ProofKit
import Derived.ChangeSlices
import Derived.Shelf.SlGeneric
import Derived.Ground.SlgmProg
import Derived.Shelf.SortM.Plain
import Derived.Sort.OwnSortedInts
import Derived.Test.YtkfodkbgmpbmfaaGreatB01
import Derived.Test.YtkfodkbgmpbmfaaGreatB02
import Derived.Test.YtkfodkbgmpbmfaaGreatB03
import Derived.Test.YtkfodkbgmpbmfaaGreatB04
import Derived.Test.YtkfodkbgmpbmfaaGreatB05
import Derived.Test.YtkfodkbgmpbmfaaGreatB06
import Derived.Test.YtkfodkbgmpbmfaaGreatB07
import Derived.Test.YtkfodkbgmpbmfaaGreatB08
import Derived.Test.YtkfodkbgmpbmfaaGreatB09
import Derived.Test.YtkfodkbgmpbmfaaGreatB10
import Derived.Test.YtkfodkbgmpbmfaaGreatB11
import Derived.Test.YtkfodkbgmpbmfaaGreatB12
import Derived.Test.YtkfodkbgmpbmfaaGreatB13
import Derived.Test.YtkfodkbgmpbmfaaGreatB14
import Derived.Test.YtkfodkbgmpbmfaaGreatB15
import Derived.Test.YtkfodkbgmpbmfaaGreatB16
import Derived.Test.YtkfodkbgmpbmfaaGreatB17
import Derived.Test.YtkfodkbgmpbmfaaGreatB18
import Derived.Test.YtkfodkbgmpbmfaaGreatB19
import Derived.Test.YtkfodkbgmpbmfaaGreatB20
import Derived.Test.YtkfodkbgmpbmfaaGreatB21
import Derived.Test.YtkfodkbgmpbmfaaGreatB22
import Derived.Test.YtkfodkbgmpbmfaaGreatB23
import Derived.Test.YtkfodkbgmpbmfaaGreatB24
import Derived.Test.YtkfodkbgmpbmfaaGreatB25
import Derived.Test.YtkfodkbgmpbmfaaGreatB26
import Derived.Test.YtkfodkbgmpbmfaaGreatB27
import Derived.Test.YtkfodkbgmpbmfaaGreatB28
import Derived.Test.YtkfodkbgmpbmfaaGreatB29
import Derived.Test.YtkfodkbgmpbmfaaGreatB30
import Derived.Test.YtkfodkbgmpbmfaaGreatB31
import Derived.Test.YtkfodkbgmpbmfaaGreatB32
import Derived.Test.YtkfodkbgmpbmfaaGreatB33
import Derived.Test.YtkfodkbgmpbmfaaGreatB34
import Derived.Test.YtkfodkbgmpbmfaaGreatB35
import Derived.Test.YtkfodkbgmpbmfaaGreatB36
import Derived.Test.YtkfodkbgmpbmfaaGreatB37
import Derived.Test.YtkfodkbgmpbmfaaGreatB38
import Derived.Test.YtkfodkbgmpbmfaaGreatB39
import Derived.Test.YtkfodkbgmpbmfaaGreatB40
import Derived.Test.YtkfodkbgmpbmfaaGreatB41
import Derived.Test.YtkfodkbgmpbmfaaGreatB42
import Derived.Test.YtkfodkbgmpbmfaaGreatE01
set_option linter.unusedVariables false
set_option linter.unusedSimpArgs false
namespace Go.Proofs.YtkfodkbgmpbmfaaGreat
open Go.RowKit
set_option linter.unusedVariables false
set_option linter.unusedSimpArgs false
set_option maxRecDepth 100000
theorem wpList_app1E {P : Program} {α : Type} {enc : α → List Value} {k bytes : Nat} (hk : ∀ x, (enc x).length = k) (h1 : ∀ x, ∀ u ∈ enc x, u.oneCell' = true) (hk0 : 0 < k) {ops : Array Oper} {rest : List Oper} {o : Oper} {a : Act} {w : World} {Q : Exit → Act → World → Prop} (hgd : o.guard = none) (s x : Operand) (t e : TypeId)
    (ho : o.op = .call { callee := .builtin .append, args := #[s, x], argTypes := #[t, t] }) (ht : P.underlying t = some (.slice e)) {z : Value} (hi : (P.info? e).map (fun i => (i.zero, i.size, i.bytes)) = some (some z, k, bytes)) (hzs : z.cells.size = k)
    (base : Nat) (OL : List α) (A2 : Option Addr) (cp2 : Nat) (hs : a.eval s = .slice A2 OL.length cp2) (hown : OwnE enc k e w base (.slice A2 OL.length cp2) OL)
    (g : Addr) (c : Nat) (hx : a.eval x = .slice (some g) 1 c) (y : α) (hr : CellsE enc w g y) (hg : g.block < w.heap.size) (h63 : OL.length + 1 ≤ maxLen) (hb : (OL.length + 1) * bytes ≤ 140737488355328) (hbase : base ≤ w.heap.size)
    (h : ∀ O3 A3 cp3 w3, O3 = OL ++ [y] → OwnE enc k e w3 base (.slice A3 O3.length cp3) O3 → Below base w w3 → wpList P ops Q rest (a.put o.dst (.slice A3 O3.length cp3)) w3) : wpList P ops Q (o :: rest) a w := by
 obtain ⟨i0, hi0, hz0, hz1, hz2⟩ := info_parts hi
 have hr2 : Reads w w.heap.size k (some g) 1 (enc y) := ⟨by rw [hk, Nat.one_mul], fun _ => ⟨g, rfl, hg, hr⟩⟩
 refine wpList_append_any w hgd s x t ho base e i0 z k bytes ht hi0 hz0 hz1 hz2 hzs hk0 _ OL.length (flatE enc OL) hs hown w.heap.size (some g) 1 c (enc y) hx hr2 (h1 y) h63 hb hbase ?_
 intro v' w' hown' hg' hat'
 obtain ⟨A3, c3, rfl⟩ := row_slice' hown'
 have hbl := (row_grown hown hg' hbase).1
 have hl : (OL ++ [y]).length = OL.length + 1 := by simp
 have := h (OL ++ [y]) A3 c3 w' rfl (by unfold OwnE; rw [flatE_snoc, hl]; exact hown') hbl
 rw [hl] at this
 exact this
set_option maxHeartbeats 4000000 in
theorem samel_any (A1 A2 : Option Addr) (n1 c1 n2 c2 : Nat) (xs ys : List (Int × Int)) (w : World) (h1 : RowsE Bg.encL 2 w w.heap.size A1 n1 xs) (h2 : RowsE Bg.encL 2 w w.heap.size A2 n2 ys) (hm : n1 ≤ 1000) (e : xs = ys) :
    Calls Tryz.prog 16 #[.slice A1 n1 c1, .slice A2 n2 c2] w fun e w' => e = .returned (.bool true) ∧ Below w.heap.size w w' := by
 subst e
 have hl1 := h1.1
 have hl2 := h2.1
 obtain rfl : n1 = n2 := by omega
 have H1 := Lib.hid h1
 have H2 := Lib.hid h2
 clear h1 h2 hl1 hl2
 go_enter Tryz.func16, Tryz.ntmps16
 go_wp2
 go_loopw [5] (fun i w' => ∃ (k : Nat), k ≤ n1 ∧ i = .int .i64 k ∧ KeptC w [] [] w') (fun i _ => n1 - (intOf i).toNat)
 case atStart => exact ⟨0, Nat.zero_le _, rfl, Qk⟩
 case round =>
  obtain ⟨k, hk, rfl, hK⟩ := hrel
  have kb0 := hK.1
  clear hK
  have hs0 := kb0.size
  by_cases hlt : k < n1
  rotate_left
  · obtain rfl : k = n1 := by omega
    go_wp2
    go_ret
    exact ⟨rfl, (Qb1 kb0)⟩
  · obtain ⟨ad, x, rfl, hab, hx, g2⟩ := H1.out.at hlt
    obtain ⟨ad2, x2, rfl, hab2, hx2, g3⟩ := H2.out.at hlt
    obtain rfl := Option.some.inj (hx.symm.trans hx2)
    obtain ⟨P, hP⟩ : ∃ P, ad.add (k * 2) = P := ⟨_, rfl⟩
    rw [hP] at g2 hab
    obtain ⟨Q, hQ⟩ : ∃ Q, ad2.add (k * 2) = Q := ⟨_, rfl⟩
    rw [hQ] at g3 hab2
    have e0 : wr.cell? P = some (.int .i64 x.1) := (kb0.cell (p := P) hab).trans (by have := g2 0 _ rfl; rwa [Bg.add_z P] at this)
    have e1 : wr.cell? ⟨P.block, P.off + 1, none⟩ = some (.int .i64 x.2) := (kb0.cell (p := ⟨P.block, P.off + 1, none⟩) hab).trans (by have := g2 1 _ rfl; rwa [add_next P 0] at this)
    have f0 : wr.cell? Q = some (.int .i64 x.1) := (kb0.cell (p := Q) hab2).trans (by have := g3 0 _ rfl; rwa [Bg.add_z Q] at this)
    have f1 : wr.cell? ⟨Q.block, Q.off + 1, none⟩ = some (.int .i64 x.2) := (kb0.cell (p := ⟨Q.block, Q.off + 1, none⟩) hab2).trans (by have := g3 1 _ rfl; rwa [add_next Q 0] at this)
    have hPw : P.block < wr.heap.size := by omega
    have hQw : Q.block < wr.heap.size := by omega
    clear g2 g3 hx hx2
    go_wp2_with (fail)
    refine wp_region_quietC_lit (KeptC w [(P, .int .i64 x.1), (⟨P.block, P.off + 1, none⟩, .int .i64 x.2), (Q, .int .i64 x.1), (⟨Q.block, Q.off + 1, none⟩, .int .i64 x.2)] []) (by kernel_rfl) (by kernel_rfl) ?_ ?_
    · refine KeptC.drewn ?_
      exact Qk1 kb0
    repeat (first
     | go_big_quiet_skip
     | (go_big_quiet_want; (apply quietC_run); (· intro w' hw'; (have hk' := hw'; simp only [KeptC, List.forall_mem_cons] at hk'; go_split_ands); go_simp; first | done | rfl); (simp only [Act.put, List.setIfInBounds_toArray, List.set_cons_zero, List.set_cons_succ]; go_big_quiet_on))
     | (go_big_quiet_want; (apply quietC_call); (· intro w' hw'; go_simp; first | done | exact ⟨rfl, rfl⟩ | rfl); (· intro w' hw'; first | ((with_reducible refine (fail).mono ?_); rintro e w2 ⟨rfl, hb⟩; exact ⟨rfl, hw'.below hb⟩)); (simp only [Act.put, List.setIfInBounds_toArray, List.set_cons_zero, List.set_cons_succ]; go_big_quiet_on)))
    refine wpQuiet_nil ?_
    intro w9 hk9
    (have hk' := hk9; simp only [KeptC, List.forall_mem_cons] at hk'; go_split_ands); have hkB9 := hk9.1
    go_wp2
    go_roundw
    case rel => exact ⟨k + 1, by omega, by go_num, (Qk1 hkB9)⟩
    case measure => simp [intOf]; omega
end Go.Proofs.YtkfodkbgmpbmfaaGreat
namespace Go.Proofs.YtkfodkbgmpbmfaaGreat
open Go.RowKit
set_option linter.unusedVariables false
set_option linter.unusedSimpArgs false
set_option maxRecDepth 100000
theorem rowE_len (p : Nat → Nat → Bool) (i b : Nat) : (rowE p i b).length ≤ b := by
 unfold rowE
 rw [List.length_map]
 have := List.length_filter_le (fun j => decide (i < j) && p i j) (List.range b)
 simpa using this
theorem allE_len (p : Nat → Nat → Bool) (n : Nat) : ∀ a, (allE p n a).length ≤ a * n
 | 0 => by simp [allE]
 | a + 1 => by
  rw [allE_next, List.length_append, Nat.add_mul]
  have := allE_len p n a
  have := rowE_len p a n
  omega
theorem KeptC.upto {w W W2 : World} {l : List (Addr × Value)} {B : Nat} (h : KeptC w l [] W) (hw : w.heap.size ≤ B) (hl : ∀ x ∈ l, x.1.block < B) (hb : Below B W W2) : KeptC w l [] W2 :=
 ⟨h.1.trans (hb.mono hw), fun x hx => (hb.cell (hl x hx)).trans (h.2.1 x hx), fun a ha => by cases ha⟩
set_option maxHeartbeats 8000000 in
theorem redges_any (x : Wd) (w : World) (hx : WdOk w x) :
    Calls Tryz.prog 18 #[WdV x] w fun e w' => ∃ A c, e = .returned (.slice A (allE (heldN x) x.nn x.nn).length c) ∧ OwnE Bg.encL 2 62 w' w.heap.size (.slice A (allE (heldN x) x.nn x.nn).length c) (allE (heldN x) x.nn x.nn) ∧ Below w.heap.size w w' := by
 have hn : x.nn ≤ 16 := by have := hx.len; have := hx.fit.n1; omega
 have C := Lib.hid (fun (i j : Nat) W (hb : Below w.heap.size w W) => rheld_any x i j W (hx.below hb))
 clear hx
 obtain ⟨p, hp⟩ : ∃ p : Nat → Nat → Bool, ∀ i j : Nat, heldB x i j = p i j := ⟨fun i j => heldB x i j, fun _ _ => rfl⟩
 have e9 : heldN x = p := by funext i j; exact hp i j
 simp only [hp] at C
 rw [e9]
 clear hp e9
 go_enter Tryz.func18, Tryz.ntmps18
 go_wp2
 go_loopw [3, 4] (fun v i w' => ∃ (k : Nat) (A2 : Option Addr) (cp2 : Nat) (OL : List (Int × Int)), k ≤ x.nn ∧ i = .int .i64 k ∧ v = .slice A2 OL.length cp2 ∧ OL.length ≤ k * x.nn ∧ Hid (OL = allE p x.nn k) ∧ Hid (OwnE Bg.encL 2 62 w' (w.heap.size + 1) (.slice A2 OL.length cp2) OL) ∧ KeptC w [(⟨w.heap.size, 0, none⟩, .slice x.na x.nn x.nc), (⟨w.heap.size, 1, none⟩, .slice x.ua x.un x.uc), (⟨w.heap.size, 2, none⟩, .slice x.da x.dn x.dc), (⟨w.heap.size, 3, none⟩, .int .i64 x.nx), (⟨w.heap.size, 4, none⟩, .slice x.la x.ll x.lc), (⟨w.heap.size, 5, none⟩, .slice x.sa x.sl x.sc), (⟨w.heap.size, 6, none⟩, .int .i64 x.lost)] [] w') (fun _ i _ => x.nn - (intOf i).toNat)
 case atStart => exact ⟨0, none, 0, [], Nat.zero_le _, rfl, rfl, by simp, Lib.hid rfl, Lib.hid (OwnE.nil _ _ _), Qk⟩
 case round =>
  obtain ⟨k, A2, cp2, OL, hk, rfl, rfl, hol, HO, HW, hK⟩ := hrel
  have HK := Lib.hid hK
  simp only [KeptC, List.forall_mem_cons] at hK; obtain ⟨kb0, ⟨kc0_0, kc0_1, kc0_2, kc0_3, kc0_4, kc0_5, kc0_6, _⟩, _⟩ := hK
  have hs0 := kb0.size
  have hz0 : w.heap.size < wr.heap.size := cell_lt kc0_0
  by_cases hlt : k < x.nn
  rotate_left
  · obtain rfl : k = x.nn := by omega
    have HE := HO
    go_wp2
    go_ret
    refine ⟨A2, cp2, by rw [← HE.out]; rfl, by rw [← HE.out]; exact OwnE.less HW.out (by omega), kb0⟩
  · obtain ⟨wo, hwo⟩ : ∃ wo, wo = wr := ⟨_, rfl⟩
    subst hwo
    have hkn : k * x.nn ≤ 16 * x.nn := Nat.mul_le_mul_right x.nn (by omega)
    go_wp2
    clear kc0_0 kc0_1 kc0_2 kc0_3 kc0_4 kc0_5 kc0_6 hz0 hs0
    go_loopw [3, 5] (fun v i w' => ∃ (b : Nat) (A2 : Option Addr) (cp2 : Nat) (OM : List (Int × Int)), k + 1 ≤ b ∧ b ≤ x.nn ∧ i = .int .i64 b ∧ v = .slice A2 OM.length cp2 ∧ OM.length ≤ k * x.nn + b ∧ Hid (OM = allE p x.nn k ++ rowE p k b) ∧ Hid (OwnE Bg.encL 2 62 w' (w.heap.size + 1) (.slice A2 OM.length cp2) OM) ∧ KeptC w [(⟨w.heap.size, 0, none⟩, .slice x.na x.nn x.nc), (⟨w.heap.size, 1, none⟩, .slice x.ua x.un x.uc), (⟨w.heap.size, 2, none⟩, .slice x.da x.dn x.dc), (⟨w.heap.size, 3, none⟩, .int .i64 x.nx), (⟨w.heap.size, 4, none⟩, .slice x.la x.ll x.lc), (⟨w.heap.size, 5, none⟩, .slice x.sa x.sl x.sc), (⟨w.heap.size, 6, none⟩, .int .i64 x.lost)] [] w') (fun _ i _ => x.nn - (intOf i).toNat)
    case atStart => exact ⟨k + 1, A2, cp2, OL, Nat.le_refl _, by omega, by go_num, rfl, by omega, Lib.hid (by rw [HO.out, rowE_start p k (k + 1) (Nat.le_refl _), List.append_nil]), HW, HK.out⟩
    case round =>
     obtain ⟨b, A3, cp3, OM, hb0, hbn, rfl, rfl, hom, HM, HV, hK⟩ := hrel
     clear kb0 HK
     have HK := Lib.hid hK
     simp only [KeptC, List.forall_mem_cons] at hK; obtain ⟨kb0, ⟨kc0_0, kc0_1, kc0_2, kc0_3, kc0_4, kc0_5, kc0_6, _⟩, _⟩ := hK
     have hs0 := kb0.size
     have hz0 : w.heap.size < wr.heap.size := cell_lt kc0_0
     by_cases hlt2 : b < x.nn
     rotate_left
     · obtain rfl : b = x.nn := by omega
       have HM2 : Hid (OM = allE p x.nn (k + 1)) := Lib.hid (by rw [HM.out, allE_next])
       have hle : OM.length ≤ (k + 1) * x.nn := by rw [Nat.add_mul]; omega
       go_wp2
       go_roundw
       case rel => exact ⟨k + 1, A3, cp3, OM, by omega, by go_num, rfl, hle, HM2, HV, HK.out⟩
       case measure => simp [intOf]; omega
     · go_wp2_with (fail)
       refine (C.out k b _ (Qb1 kb0)).mono ?_; rintro e w1 ⟨rfl, hb1⟩
       have kb1 : Below w.heap.size w w1 := (Qb2 hb1 kb0)
       have HV1 : Hid (OwnE Bg.encL 2 62 w1 (w.heap.size + 1) (.slice A3 OM.length cp3) OM) := Lib.hid (OwnE.below HV.out hb1)
       have HK1 := Lib.hid (HK.out.below hb1)
       have hs1 := kb1.size
       have hz1 : w.heap.size < w1.heap.size := Nat.lt_of_lt_of_le hz0 hb1.size
       clear hb1 kb0 kc0_0 kc0_1 kc0_2 kc0_3 kc0_4 kc0_5 kc0_6 HV hs0 hz0
       obtain ⟨q, hq⟩ : ∃ q, p k b = q := ⟨_, rfl⟩
       rw [hq]
       have HQ := Lib.hid hq
       clear hq
       cases q with
       | false =>
        have HM2 : Hid (OM = allE p x.nn k ++ rowE p k (b + 1)) := Lib.hid (by rw [rowE_next p k b (by omega), HQ.out, HM.out]; simp)
        go_wp2
        go_roundw
        case rel => exact ⟨b + 1, A3, cp3, OM, by omega, by omega, by go_num, rfl, by omega, HM2, HV1, HK1.out⟩
        case measure => simp [intOf]; omega
       | true =>
        go_wp2_with (at_builtin; refine wpList_app1E Bg.encL_len Bg.encL_one (by omega) rfl (.tmp 26) (.tmp 30) _ 62 rfl Tryz.underlying26 link_inf rfl (w.heap.size + 1) OM A3 cp3 rfl (by exact HV1.out.below ((Below.refl _ _).alloc (Nat.le_refl _) _)) ⟨w1.heap.size, 0, none⟩ 1 rfl ((k : Int), (b : Int)) (link_cells (by go_simp) (by go_simp)) (by simp) (by simp only [maxLen]; omega) (by omega) (by simp; omega) ?_; intro O3 A4 cp4 w3 hO3 hown3 hb3; have hL3 : O3.length ≤ OM.length + 1 := (by rw [hO3]; simp); have HO3 := Lib.hid hO3; have HW3 := Lib.hid hown3; have kb3 : Below w.heap.size w w3 := (Qb2 hb3 kb1); have HK3 := Lib.hid (KeptC.upto (HK1.out.below ((Below.refl _ _).alloc (Nat.le_refl _) _)) (by omega) (by simp) hb3); clear hO3 hown3 hb3)
        have HM2 : Hid (O3 = allE p x.nn k ++ rowE p k (b + 1)) := Lib.hid (by rw [rowE_next p k b (by omega), HQ.out, HO3.out, HM.out]; simp)
        go_roundw
        case rel => exact ⟨b + 1, A4, cp4, O3, by omega, by omega, by go_num, rfl, by omega, HM2, HW3, HK3.out⟩
        case measure => simp [intOf]; omega
end Go.Proofs.YtkfodkbgmpbmfaaGreat
namespace Go.Proofs.YtkfodkbgmpbmfaaGreat
open Go.RowKit
set_option linter.unusedVariables false
set_option linter.unusedSimpArgs false
set_option maxRecDepth 100000
theorem take_filter {α : Type} {L : List α} {k : Nat} {y : α} (q : α → Bool) (h : L[k]? = some y) : (L.take (k + 1)).filter q = (L.take k).filter q ++ if q y = true then [y] else [] := by
 rw [List.take_add_one, h, List.filter_append]
 congr 1
 simp only [Option.toList_some, List.filter_cons, List.filter_nil]
set_option maxHeartbeats 8000000 in
theorem ropen_any (x : Wd) (nm : ByteArray) (w : World) (hx : WdOk w x) :
    Calls Tryz.prog 20 #[WdV x, .string nm] w fun e w' => ∃ A c, e = .returned (.slice A ((allE (heldN x) x.nn x.nn).filter (openP x nm)).length c) ∧ OwnE Bg.encL 2 62 w' w.heap.size (.slice A ((allE (heldN x) x.nn x.nn).filter (openP x nm)).length c) ((allE (heldN x) x.nn x.nn).filter (openP x nm)) ∧ Below w.heap.size w w' := by
 have hn : x.nn ≤ 16 := by have := hx.len; have := hx.fit.n1; omega
 have hll : (allE (heldN x) x.nn x.nn).length ≤ 256 := by
  have h1 := allE_len (heldN x) x.nn x.nn
  have h2 : x.nn * x.nn ≤ 16 * 16 := Nat.mul_le_mul hn hn
  omega
 have CE := Lib.hid (fun W (hb : Below w.heap.size w W) => redges_any x W (hx.below hb))
 have CB := Lib.hid (fun (i j : Int) W (hb : Below w.heap.size w W) => rboth_any x i j nm W (hx.below hb))
 have CA := Lib.hid (fun (i j : Int) W (hb : Below w.heap.size w W) => ragreed_any x i j nm W (hx.below hb))
 clear hx
 generalize allE (heldN x) x.nn x.nn = L at CE hll ⊢
 go_enter Tryz.func20, Tryz.ntmps20
 go_wp2_with (fail)
 refine (CE.out _ Qb).mono ?_; rintro e w1 ⟨AL, cL, rfl, ho1, hb1⟩
 have hk1 : KeptC w [(⟨w.heap.size, 0, none⟩, .slice x.na x.nn x.nc), (⟨w.heap.size, 1, none⟩, .slice x.ua x.un x.uc), (⟨w.heap.size, 2, none⟩, .slice x.da x.dn x.dc), (⟨w.heap.size, 3, none⟩, .int .i64 x.nx), (⟨w.heap.size, 4, none⟩, .slice x.la x.ll x.lc), (⟨w.heap.size, 5, none⟩, .slice x.sa x.sl x.sc), (⟨w.heap.size, 6, none⟩, .int .i64 x.lost)] [] w1 := by
  refine KeptC.below ?_ hb1
  exact Qk
 simp only [KeptC, List.forall_mem_cons] at hk1; obtain ⟨kb1, ⟨kc1_0, kc1_1, kc1_2, kc1_3, kc1_4, kc1_5, kc1_6, _⟩, _⟩ := hk1
 have hz1 : w.heap.size < w1.heap.size := cell_lt kc1_0
 have hr1 : RowsE Bg.encL 2 w1 w1.heap.size AL L.length L := by
  obtain ⟨A9, c9, e9, h9⟩ := OwnE.at_ Bg.encL_len ho1
  obtain ⟨rfl, _, rfl⟩ := Value.slice.inj e9
  exact h9
 have HR := Lib.hid hr1
 have HK1 : Hid (KeptC w1 [(⟨w.heap.size, 0, none⟩, .slice x.na x.nn x.nc), (⟨w.heap.size, 1, none⟩, .slice x.ua x.un x.uc), (⟨w.heap.size, 2, none⟩, .slice x.da x.dn x.dc), (⟨w.heap.size, 3, none⟩, .int .i64 x.nx), (⟨w.heap.size, 4, none⟩, .slice x.la x.ll x.lc), (⟨w.heap.size, 5, none⟩, .slice x.sa x.sl x.sc), (⟨w.heap.size, 6, none⟩, .int .i64 x.lost)] [] w1) := Lib.hid Qk
 have HKB := Lib.hid kb1
 obtain ⟨n, hn9⟩ : ∃ n, L.length = n := ⟨_, rfl⟩
 rw [hn9] at HR hll
 have HN9 := Lib.hid hn9
 have CB1 := Lib.hid (fun (i j : Int) W (hb : Below w1.heap.size w1 W) => CB.out i j W (kb1.trans (hb.mono kb1.size)))
 have CA1 := Lib.hid (fun (i j : Int) W (hb : Below w1.heap.size w1 W) => CA.out i j W (kb1.trans (hb.mono kb1.size)))
 have hs9 := kb1.size
 rw [hn9]
 clear hn9 hb1 ho1 hr1 CE CB CA kc1_0 kc1_1 kc1_2 kc1_3 kc1_4 kc1_5 kc1_6 kb1
 go_wp2
 go_loopw [5, 7] (fun v i w' => ∃ (k : Nat) (A2 : Option Addr) (cp2 : Nat) (OL : List (Int × Int)), k ≤ n ∧ i = .int .i64 k ∧ v = .slice A2 OL.length cp2 ∧ OL.length ≤ k ∧ Hid (OL = (L.take k).filter (openP x nm)) ∧ Hid (OwnE Bg.encL 2 62 w' w1.heap.size (.slice A2 OL.length cp2) OL) ∧ KeptC w1 [(⟨w.heap.size, 0, none⟩, .slice x.na x.nn x.nc), (⟨w.heap.size, 1, none⟩, .slice x.ua x.un x.uc), (⟨w.heap.size, 2, none⟩, .slice x.da x.dn x.dc), (⟨w.heap.size, 3, none⟩, .int .i64 x.nx), (⟨w.heap.size, 4, none⟩, .slice x.la x.ll x.lc), (⟨w.heap.size, 5, none⟩, .slice x.sa x.sl x.sc), (⟨w.heap.size, 6, none⟩, .int .i64 x.lost)] [] w') (fun _ i _ => n - (intOf i).toNat)
 case atStart => exact ⟨0, none, 0, [], Nat.zero_le _, rfl, rfl, by simp, Lib.hid rfl, Lib.hid (OwnE.nil _ _ _), HK1.out⟩
 case round =>
  obtain ⟨k, A2, cp2, OL, hk, rfl, rfl, hol, HO, HW, hK⟩ := hrel
  have HK := Lib.hid hK
  simp only [KeptC, List.forall_mem_cons] at hK; obtain ⟨kb0, ⟨kc0_0, kc0_1, kc0_2, kc0_3, kc0_4, kc0_5, kc0_6, _⟩, _⟩ := hK
  have hs0 := kb0.size
  have hz0 : w.heap.size < wr.heap.size := cell_lt kc0_0
  by_cases hlt : k < n
  rotate_left
  · obtain rfl : k = n := by omega
    have HE : Hid (OL = L.filter (openP x nm)) := Lib.hid (by rw [HO.out, List.take_of_length_le (Nat.le_of_eq HN9.out)])
    go_wp2
    go_ret
    exact ⟨A2, cp2, by rw [← HE.out]; rfl, by rw [← HE.out]; exact OwnE.less HW.out hs9, HKB.out.trans (kb0.mono HKB.out.size)⟩
  · obtain ⟨ad, y, rfl, hab, hy, g2⟩ := HR.out.at hlt
    obtain ⟨P, hP⟩ : ∃ P, ad.add (k * 2) = P := ⟨_, rfl⟩
    rw [hP] at g2 hab
    have e0 : wr.cell? P = some (.int .i64 y.1) := (kb0.cell (p := P) hab).trans (by have := g2 0 _ rfl; rwa [Bg.add_z P] at this)
    have e1 : wr.cell? ⟨P.block, P.off + 1, none⟩ = some (.int .i64 y.2) := (kb0.cell (p := ⟨P.block, P.off + 1, none⟩) hab).trans (by have := g2 1 _ rfl; rwa [add_next P 0] at this)
    have hPw : P.block < wr.heap.size := by omega
    have HT := Lib.hid (take_filter (openP x nm) hy)
    have cb := CB1.out y.1 y.2
    have ca := CA1.out y.1 y.2
    obtain ⟨B1, hB1⟩ : ∃ B, bothB x y.1 y.2 nm = B := ⟨_, rfl⟩
    obtain ⟨B2, hB2⟩ : ∃ B, agreedB x y.1 y.2 nm = B := ⟨_, rfl⟩
    rw [hB1] at cb
    rw [hB2] at ca
    have HQ : Hid (openP x nm y = (B1 && !B2)) := Lib.hid (by unfold openP; rw [hB1, hB2])
    have CBY := Lib.hid (fun W (hb : Below wr.heap.size wr W) => cb W (kb0.trans (hb.mono kb0.size)))
    have CAY := Lib.hid (fun W (hb : Below wr.heap.size wr W) => ca W (kb0.trans (hb.mono kb0.size)))
    clear g2 hy hB1 hB2 cb ca
    cases B1 with
    | false =>
     have HO2 : Hid (OL = (L.take (k + 1)).filter (openP x nm)) := Lib.hid (by rw [HT.out, HQ.out, HO.out]; simp)
     go_wp2_with (fail)
     refine wp_region_quietC_lit (KeptC wr [(⟨w.heap.size, 0, none⟩, .slice x.na x.nn x.nc), (⟨w.heap.size, 1, none⟩, .slice x.ua x.un x.uc), (⟨w.heap.size, 2, none⟩, .slice x.da x.dn x.dc), (⟨w.heap.size, 3, none⟩, .int .i64 x.nx), (⟨w.heap.size, 4, none⟩, .slice x.la x.ll x.lc), (⟨w.heap.size, 5, none⟩, .slice x.sa x.sl x.sc), (⟨w.heap.size, 6, none⟩, .int .i64 x.lost), (P, .int .i64 y.1), (⟨P.block, P.off + 1, none⟩, .int .i64 y.2)] []) (by kernel_rfl) (by kernel_rfl) ?_ ?_
     · refine KeptC.drewn ?_
       exact Qk
     repeat (first
      | go_big_quiet_skip
      | (go_big_quiet_want; (apply quietC_run); (· intro w' hw'; (have hk' := hw'; simp only [KeptC, List.forall_mem_cons] at hk'; go_split_ands); go_simp; first | done | rfl); (simp only [Act.put, List.setIfInBounds_toArray, List.set_cons_zero, List.set_cons_succ]; go_big_quiet_on))
      | (go_big_quiet_want; (apply quietC_call); (· intro w' hw'; go_simp; first | done | exact ⟨rfl, rfl⟩ | rfl); (· intro w' hw'; first | ((with_reducible refine (CBY.out _ hw'.lowV).mono ?_); rintro e w2 ⟨rfl, hb⟩; exact ⟨rfl, hw'.below hb⟩) | ((with_reducible refine (CAY.out _ hw'.lowV).mono ?_); rintro e w2 ⟨rfl, hb⟩; exact ⟨rfl, hw'.below hb⟩)); (simp only [Act.put, List.setIfInBounds_toArray, List.set_cons_zero, List.set_cons_succ]; go_big_quiet_on)))
     refine wpQuiet_nil ?_
     intro w9 hk9
     (have hk' := hk9; simp only [KeptC, List.forall_mem_cons] at hk'; go_split_ands); have hkB9 := hk9.1
     have HV := Lib.hid (OwnE.below HW.out hkB9)
     have HKN := Lib.hid (HK.out.below hkB9)
     go_wp2
     go_roundw
     case rel => exact ⟨k + 1, A2, cp2, OL, by omega, by go_num, rfl, by omega, HO2, HV, HKN.out⟩
     case measure => simp [intOf]; omega
    | true =>
     cases B2 with
     | true =>
      have HO2 : Hid (OL = (L.take (k + 1)).filter (openP x nm)) := Lib.hid (by rw [HT.out, HQ.out, HO.out]; simp)
      go_wp2_with (fail)
      refine wp_region_quietC_lit (KeptC wr [(⟨w.heap.size, 0, none⟩, .slice x.na x.nn x.nc), (⟨w.heap.size, 1, none⟩, .slice x.ua x.un x.uc), (⟨w.heap.size, 2, none⟩, .slice x.da x.dn x.dc), (⟨w.heap.size, 3, none⟩, .int .i64 x.nx), (⟨w.heap.size, 4, none⟩, .slice x.la x.ll x.lc), (⟨w.heap.size, 5, none⟩, .slice x.sa x.sl x.sc), (⟨w.heap.size, 6, none⟩, .int .i64 x.lost), (P, .int .i64 y.1), (⟨P.block, P.off + 1, none⟩, .int .i64 y.2)] []) (by kernel_rfl) (by kernel_rfl) ?_ ?_
      · refine KeptC.drewn ?_
        exact Qk
      repeat (first
       | go_big_quiet_skip
       | (go_big_quiet_want; (apply quietC_run); (· intro w' hw'; (have hk' := hw'; simp only [KeptC, List.forall_mem_cons] at hk'; go_split_ands); go_simp; first | done | rfl); (simp only [Act.put, List.setIfInBounds_toArray, List.set_cons_zero, List.set_cons_succ]; go_big_quiet_on))
       | (go_big_quiet_want; (apply quietC_call); (· intro w' hw'; go_simp; first | done | exact ⟨rfl, rfl⟩ | rfl); (· intro w' hw'; first | ((with_reducible refine (CBY.out _ hw'.lowV).mono ?_); rintro e w2 ⟨rfl, hb⟩; exact ⟨rfl, hw'.below hb⟩) | ((with_reducible refine (CAY.out _ hw'.lowV).mono ?_); rintro e w2 ⟨rfl, hb⟩; exact ⟨rfl, hw'.below hb⟩)); (simp only [Act.put, List.setIfInBounds_toArray, List.set_cons_zero, List.set_cons_succ]; go_big_quiet_on)))
      refine wpQuiet_nil ?_
      intro w9 hk9
      (have hk' := hk9; simp only [KeptC, List.forall_mem_cons] at hk'; go_split_ands); have hkB9 := hk9.1
      have HV := Lib.hid (OwnE.below HW.out hkB9)
      have HKN := Lib.hid (HK.out.below hkB9)
      go_wp2
      go_roundw
      case rel => exact ⟨k + 1, A2, cp2, OL, by omega, by go_num, rfl, by omega, HO2, HV, HKN.out⟩
      case measure => simp [intOf]; omega
     | false =>
      go_wp2_with (fail)
      refine wp_region_quietC_lit (KeptC wr [(⟨w.heap.size, 0, none⟩, .slice x.na x.nn x.nc), (⟨w.heap.size, 1, none⟩, .slice x.ua x.un x.uc), (⟨w.heap.size, 2, none⟩, .slice x.da x.dn x.dc), (⟨w.heap.size, 3, none⟩, .int .i64 x.nx), (⟨w.heap.size, 4, none⟩, .slice x.la x.ll x.lc), (⟨w.heap.size, 5, none⟩, .slice x.sa x.sl x.sc), (⟨w.heap.size, 6, none⟩, .int .i64 x.lost), (P, .int .i64 y.1), (⟨P.block, P.off + 1, none⟩, .int .i64 y.2)] []) (by kernel_rfl) (by kernel_rfl) ?_ ?_
      · refine KeptC.drewn ?_
        exact Qk
      repeat (first
       | go_big_quiet_skip
       | (go_big_quiet_want; (apply quietC_run); (· intro w' hw'; (have hk' := hw'; simp only [KeptC, List.forall_mem_cons] at hk'; go_split_ands); go_simp; first | done | rfl); (simp only [Act.put, List.setIfInBounds_toArray, List.set_cons_zero, List.set_cons_succ]; go_big_quiet_on))
       | (go_big_quiet_want; (apply quietC_call); (· intro w' hw'; go_simp; first | done | exact ⟨rfl, rfl⟩ | rfl); (· intro w' hw'; first | ((with_reducible refine (CBY.out _ hw'.lowV).mono ?_); rintro e w2 ⟨rfl, hb⟩; exact ⟨rfl, hw'.below hb⟩) | ((with_reducible refine (CAY.out _ hw'.lowV).mono ?_); rintro e w2 ⟨rfl, hb⟩; exact ⟨rfl, hw'.below hb⟩)); (simp only [Act.put, List.setIfInBounds_toArray, List.set_cons_zero, List.set_cons_succ]; go_big_quiet_on)))
      refine wpQuiet_nil ?_
      intro w9 hk9
      (have hk' := hk9; simp only [KeptC, List.forall_mem_cons] at hk'; go_split_ands); have hkB9 := hk9.1
      have HV := Lib.hid (OwnE.below HW.out hkB9)
      have HKN := Lib.hid (HK.out.below hkB9)
      have kbn := HKN.out.1
      have hsn := kbn.size
      have hzn : w.heap.size < w9.heap.size := by have := hkB9.size; omega
      have hPn : P.block < w9.heap.size := by omega
      go_wp2_with (at_builtin; refine wpList_app1E Bg.encL_len Bg.encL_one (by omega) rfl (.tmp 45) (.tmp 50) _ 62 rfl Tryz.underlying26 link_inf rfl w1.heap.size OL A2 cp2 rfl (by exact HV.out.below ((Below.refl _ _).alloc (Nat.le_refl _) _)) ⟨w9.heap.size, 0, none⟩ 1 rfl (y.1, y.2) (link_cells (by go_simp) (by go_simp)) (by simp) (by simp only [maxLen]; omega) (by omega) (by simp; omega) ?_; intro O3 A4 cp4 w3 hO3 hown3 hb3; have hL3 : O3.length ≤ OL.length + 1 := (by rw [hO3]; simp); have HO3 := Lib.hid hO3; have HW3 := Lib.hid hown3; have HK3 := Lib.hid (KeptC.upto (HKN.out.below ((Below.refl _ _).alloc (Nat.le_refl _) _)) (Nat.le_refl _) (by simp; omega) hb3); clear hO3 hown3 hb3)
      have HO2 : Hid (O3 = (L.take (k + 1)).filter (openP x nm)) := Lib.hid (by rw [HT.out, HQ.out, HO3.out, HO.out]; simp)
      go_roundw
      case rel => exact ⟨k + 1, A4, cp4, O3, by omega, by go_num, rfl, by omega, HO2, HW3, HK3.out⟩
      case measure => simp [intOf]; omega
end Go.Proofs.YtkfodkbgmpbmfaaGreat
namespace Go.Proofs.YtkfodkbgmpbmfaaGreat
open Go.ChangeShapes Go.WideShapes Go.ChangeAt Go.RowKit Go.Shelf Go.Deep Go.Joins Go.ChangeMaps
set_option linter.unusedVariables false
set_option linter.unusedSimpArgs false
set_option maxRecDepth 100000
section
variable {H : Type} {enc : TypeId × Value → H} {w : World} {base b0 : Nat} {spare : Nat → Bool} {held : Bool}
end
theorem allE_sq (p : Nat → Nat → Bool) (n : Nat) : (allE p n n).length ≤ n * n := by
 have h : ∀ a, (allE p n a).length ≤ a * n := by
  intro a
  induction a with
  | zero => simp [allE]
  | succ a ih =>
   have e : allE p n (a + 1) = allE p n a ++ rowE p a n := by unfold allE; rw [List.range_succ, List.flatMap_append]; simp
   have h2 : (rowE p a n).length ≤ n := by
    unfold rowE
    rw [List.length_map]
    have := List.length_filter_le (fun j => decide (a < j) && p a j) (List.range n)
    simpa using this
   rw [e, List.length_append, Nat.succ_mul]
   omega
 exact h n
theorem own_lk {w : World} {base n c : Nat} {A : Option Addr} {l : List (Int × Int)} (h : OwnE Bg.encL 2 62 w base (.slice A n c) l) (hn : l.length = n) : RowsE Bg.encL 2 w w.heap.size A n l := by
 obtain ⟨A4, c4, e, h2⟩ := OwnE.at_ Bg.encL_len h
 injection e with e1 e2 e3
 rw [e1, ← hn]
 exact h2
end Go.Proofs.YtkfodkbgmpbmfaaGreat
