/- Chapter 22, parts on the way: Ye Yg Yh Yj Yk Yn Yo -/
import Derived.Test.YtkfodkbgmpbmfaaGreatRows
import Derived.WalkKit
import Derived.WalkSpells
import Derived.WalkLawsBesides
import Derived.WalkMore
import Derived.Deep.QuietTactic
import Derived.BigQuiet
import Derived.Lib.Hide
import Derived.Laws.Strings
import Derived.Below
import Derived.Laws.OwnMore
import Derived.Deep.AppendLies
import Derived.Deep.Draws
import Derived.ChangeSame
import Derived.Deep.Slices
import Derived.Deep.Fields
import Derived.SizedLaws
import Derived.Lib.SmallJoins
import Derived.OpenShut
import Derived.RangeFuncNested
import Derived.RangeFuncBound
import Derived.RangeFuncCalls
import Derived.RangeFuncLeaves
import Derived.RangeFuncBox
import Derived.Shelf.Abstract
import Derived.Shelf.RegionOpen
import Derived.OwnWalkIn
import Derived.TacticsInMore
import Derived.LoopNIn
import Derived.LoopIn
import Derived.OrdersIn
import Derived.Maps.AppendAt
import Derived.RegionTactic
import Derived.OwnWalk
import Derived.Lib.SliceRun
import Derived.Deep.RegionHeld3
import Derived.Laws.EntriesVeiled
import Derived.Outline
import Derived.Laws.IdiomCopy
import Derived.RowKit
import Derived.Deep.Cut
import Derived.Test.YtkfodkbgmpbmfaaGreatB01
import Derived.Test.YtkfodkbgmpbmfaaGreatB02
import Derived.Test.YtkfodkbgmpbmfaaGreatB03
import Derived.Test.YtkfodkbgmpbmfaaGreatB04
import Derived.Test.YtkfodkbgmpbmfaaGreatB05
import Derived.Test.YtkfodkbgmpbmfaaGreatB06
import Derived.Test.YtkfodkbgmpbmfaaGreatB07
import Derived.Test.YtkfodkbgmpbmfaaGreatB08
import Derived.Test.YtkfodkbgmpbmfaaGreatB09
import Derived.Test.YtkfodkbgmpbmfaaGreatB10
import Derived.Test.YtkfodkbgmpbmfaaGreatB11
import Derived.Test.YtkfodkbgmpbmfaaGreatB12
import Derived.Test.YtkfodkbgmpbmfaaGreatB13
import Derived.Test.YtkfodkbgmpbmfaaGreatB14
import Derived.Test.YtkfodkbgmpbmfaaGreatB15
import Derived.Test.YtkfodkbgmpbmfaaGreatB16
import Derived.Test.YtkfodkbgmpbmfaaGreatB17
import Derived.Test.YtkfodkbgmpbmfaaGreatB18
import Derived.Test.YtkfodkbgmpbmfaaGreatB19
import Derived.Test.YtkfodkbgmpbmfaaGreatB20
import Derived.Test.YtkfodkbgmpbmfaaGreatB21
import Derived.Test.YtkfodkbgmpbmfaaGreatB22
import Derived.Test.YtkfodkbgmpbmfaaGreatB23
import Derived.Test.YtkfodkbgmpbmfaaGreatB24
import Derived.Test.YtkfodkbgmpbmfaaGreatB25
import Derived.Test.YtkfodkbgmpbmfaaGreatB26
import Derived.Test.YtkfodkbgmpbmfaaGreatB27
import Derived.Test.YtkfodkbgmpbmfaaGreatB28
import Derived.Test.YtkfodkbgmpbmfaaGreatB29
import Derived.Test.YtkfodkbgmpbmfaaGreatB30
import Derived.Test.YtkfodkbgmpbmfaaGreatB31
import Derived.Test.YtkfodkbgmpbmfaaGreatB32
import Derived.Test.YtkfodkbgmpbmfaaGreatB33
import Derived.Test.YtkfodkbgmpbmfaaGreatB34
import Derived.Test.YtkfodkbgmpbmfaaGreatB35
import Derived.Test.YtkfodkbgmpbmfaaGreatB36
import Derived.Test.YtkfodkbgmpbmfaaGreatB37
import Derived.Test.YtkfodkbgmpbmfaaGreatB38
import Derived.Test.YtkfodkbgmpbmfaaGreatB39
import Derived.Test.YtkfodkbgmpbmfaaGreatB40
import Derived.Test.YtkfodkbgmpbmfaaGreatB41
import Derived.Test.YtkfodkbgmpbmfaaGreatB42
import Derived.Test.YtkfodkbgmpbmfaaGreatS01
set_option linter.unusedVariables false
set_option linter.unusedSimpArgs false
namespace Go.Proofs.YtkfodkbgmpbmfaaGreat
open Go.RowKit Go.Shelf
set_option linter.unusedVariables false
set_option linter.unusedSimpArgs false
set_option maxRecDepth 100000
theorem sumO_take {L : List (Int × Int)} {k : Nat} {x : Int × Int} (h : L[k]? = some x) : sumO (L.take (k + 1)) = sumO (L.take k) + x.2 := by
 unfold sumO
 rw [List.take_add_one, h]
 simp
theorem sumO_bd {L : List (Int × Int)} (h : ∀ x ∈ L, -2147483647 ≤ x.2 ∧ x.2 ≤ 2147483647) : ∀ k : Nat, -2147483647 * (k : Int) ≤ sumO (L.take k) ∧ sumO (L.take k) ≤ 2147483647 * (k : Int)
 | 0 => by simp [sumO]
 | k + 1 => by
  have h1 := sumO_bd h k
  cases hk : L[k]? with
  | none =>
   have e : L.take (k + 1) = L.take k := by rw [List.take_add_one, hk]; simp
   rw [e]
   omega
  | some x =>
   have h2 := h x (List.mem_of_getElem? hk)
   rw [sumO_take hk]
   omega
theorem outsN_mem {id : Int} {hs : List Hf} {nm : ByteArray} {x : Int × Int} (h : x ∈ outsN id hs nm) : (∃ y ∈ hs, x.1 = y.peer) ∧ -2147483647 ≤ x.2 ∧ x.2 ≤ 2147483647 := by
 unfold outsN at h
 obtain ⟨y, hy, h2⟩ := List.mem_flatMap.1 h
 obtain ⟨l, _, rfl⟩ := List.mem_map.1 h2
 exact ⟨⟨y, hy, rfl⟩, outL_bd id y.peer l⟩
set_option maxHeartbeats 4000000 in
theorem rtaken_any (id : Int) (A : Option Addr) (n cp : Nat) (hs : List Hf) (nm : ByteArray) (w : World) (hr : HfsAt w w.heap.size A n hs) (hn : n ≤ 16) (hl8 : ∀ h ∈ hs, h.lines.length ≤ 8) (hp : ∀ h ∈ hs, 0 ≤ h.peer) :
    Calls Tryz.prog 130 #[.int .i64 id, .slice A n cp, .string nm, .int .i64 (-1)] w fun e w' => e = .returned (.int .i64 (sumO (outsN id hs nm))) ∧ Below w.heap.size w w' := by
 have C := Lib.hid (rpage_any id A n cp hs nm w hr hn hl8)
 have HLN : Hid ((outsN id hs nm).length ≤ 128) := Lib.hid (by have h1 := outsN_len (id := id) (nm := nm) hs hl8; have h2 := hr.1.1; omega)
 have HMB : Hid (∀ x ∈ outsN id hs nm, 0 ≤ x.1 ∧ -2147483647 ≤ x.2 ∧ x.2 ≤ 2147483647) := Lib.hid (fun x hx => by
  obtain ⟨⟨y, hy, e⟩, h2⟩ := outsN_mem hx
  exact ⟨by rw [e]; exact hp y hy, h2⟩)
 clear hr hl8 hp
 generalize outsN id hs nm = L at C HLN HMB ⊢
 go_enter Tryz.func130, Tryz.ntmps130
 go_wp2_with (fail)
 refine C.out.mono ?_; rintro e w1 ⟨A2, n2, c2, rfl, hn2, hown, hb1⟩
 have HL : Hid (RowsE Bg.encL 2 w1 w1.heap.size A2 n2 L) := Lib.hid (by
  obtain ⟨A4, c4, e, h⟩ := OwnE.at_ Bg.encL_len hown
  injection e with e1 e2 e3
  rw [e1, e2]
  exact h)
 have HB := Lib.hid hb1
 have HN : Hid (n2 ≤ 128) := Lib.hid (by rw [← hn2]; exact HLN.out)
 have HN2 := Lib.hid hn2
 clear hown hb1 C hn2
 go_wp2
 go_loopw [11, 9] (fun i s w' => ∃ (k : Nat) (S : Int), k ≤ n2 ∧ i = .int .i64 k ∧ s = .int .i64 S ∧ Hid (S = sumO (L.take k)) ∧ w' = w1) (fun i _ _ => n2 - (intOf i).toNat)
 case atStart => exact ⟨0, 0, Nat.zero_le _, rfl, rfl, Lib.hid rfl, rfl⟩
 case round =>
  obtain ⟨k, S, hk, rfl, rfl, HS, rfl⟩ := hrel
  by_cases hlt : k < n2
  rotate_left
  · obtain rfl : k = n2 := by omega
    have HE : Hid (S = sumO L) := Lib.hid (by rw [HS.out, List.take_of_length_le (by have := HN2.out; omega)])
    go_wp2
    go_ret
    exact ⟨by first | rfl | (rw [HE.out]; rfl), HB.out⟩
  · obtain ⟨ad, x, rfl, hab, hx, h4⟩ := HL.out.at hlt
    obtain ⟨P, hP⟩ : ∃ P, ad.add (k * 2) = P := ⟨_, rfl⟩
    rw [hP] at h4 hab
    have c0 : wr.cell? P = some (.int .i64 x.1) := by have := h4 0 _ rfl; rwa [Bg.add_z] at this
    have c1 : wr.cell? ⟨P.block, P.off + 1, none⟩ = some (.int .i64 x.2) := by have := h4 1 _ rfl; rwa [Bg.add_next] at this
    have hm := HMB.out x (List.mem_of_getElem? hx)
    have q : (x.1 != -1) = true := by simp; omega
    obtain ⟨T, hT⟩ : ∃ T, S + x.2 = T := ⟨_, rfl⟩
    have HT : Hid (T = sumO (L.take (k + 1))) := Lib.hid (by rw [sumO_take hx, ← HS.out, hT])
    have hw : IntKind.i64.wrap (S + x.2) = T := by
     have h1 := sumO_bd (L := L) (fun x hx => (HMB.out x hx).2) (k + 1)
     have h2 := HT.out
     have h3 := HN.out
     rw [IntKind.wrap_i64, hT]
     omega
    have hwk : IntKind.i64.wrap ((k : Int) + 1) = (k : Int) + 1 := by rw [IntKind.wrap_i64]; have := HN.out; omega
    clear h4 hx hm hT
    go_wp2
    go_roundw
    case rel => exact ⟨k + 1, T, by omega, by go_num, rfl, HT, by first | rfl | trivial⟩
    case measure => simp [intOf]; omega
set_option maxHeartbeats 4000000 in
theorem rest11_any (id inp : Int) (A : Option Addr) (n cp : Nat) (hs : List Hf) (nm : ByteArray) (w : World) (hr : HfsAt w w.heap.size A n hs) (hn : n ≤ 16) (hl8 : ∀ h ∈ hs, h.lines.length ≤ 8) (hp : ∀ h ∈ hs, 0 ≤ h.peer) (hf1 : -4294967296 ≤ inp) (hf2 : inp ≤ 4294967296) :
    Calls Tryz.prog 97 #[.int .i64 id, .int .i64 inp, .slice A n cp, .string nm] w fun e w' => e = .returned (.tuple #[.int .i64 (tellN (inp - sumO (outsN id hs nm))).1, .int .i64 (tellN (inp - sumO (outsN id hs nm))).2]) ∧ Below w.heap.size w w' := by
 have C := Lib.hid (rtaken_any id A n cp hs nm w hr hn hl8 hp)
 have hbd := sumO_bd (L := outsN id hs nm) (fun x hx => (outsN_mem hx).2) (outsN id hs nm).length
 have hln := outsN_len (id := id) (nm := nm) hs hl8
 have hl := hr.1.1
 rw [List.take_length] at hbd
 generalize hL : sumO (outsN id hs nm) = L at C hbd ⊢
 obtain ⟨T, hT⟩ : ∃ T, inp - L = T := ⟨_, rfl⟩
 rw [hT]
 have hw : IntKind.i64.wrap (inp - L) = T := by rw [IntKind.wrap_i64, hT]; omega
 clear hr hl8 hp hbd hln hl hT hf1 hf2 hL
 have ct := (fun W => told_any T W)
 generalize tellN T = q at ct ⊢
 obtain ⟨qa, qb⟩ := q
 have CT := Lib.hid ct
 clear ct
 go_enter Tryz.func97, Tryz.ntmps97
 go_wp2_with (fail)
 refine C.out.mono ?_; rintro e w1 ⟨rfl, hb1⟩
 have HB := Lib.hid hb1
 clear hb1
 go_wp2_with (fail)
 refine (CT.out _).mono ?_; rintro e w2 ⟨rfl, rfl⟩
 go_wp2
 go_ret2
 exact ⟨by first | rfl | (simp; done), HB.out⟩
set_option maxHeartbeats 4000000 in
theorem rest20_any (y : Nd) (nm : ByteArray) (w : World) (hy : NdAt w w.heap.size y) (hm : y.cn ≤ 1000) (hn : y.hn ≤ 16) (hl8 : ∀ h ∈ y.halves, h.lines.length ≤ 8) (hp : ∀ h ∈ y.halves, 0 ≤ h.peer) (hf1 : -4294967296 ≤ ((findS y.chans nm).getD St0).inp) (hf2 : ((findS y.chans nm).getD St0).inp ≤ 4294967296) :
    Calls Tryz.prog 58 #[NdV y, .string nm] w fun e w' => e = .returned (.tuple #[.int .i64 (estB y nm).1, .int .i64 (estB y nm).2]) ∧ Below w.heap.size w w' := by
 have CF := Lib.hid (fun W (hb : Below w.heap.size w W) => rchan_any y nm W ((hy.2.2.2.below hb).more hb.size) hm)
 have ce := (fun W (hb : Below w.heap.size w W) => rest11_any y.id ((findS y.chans nm).getD St0).inp y.ha y.hn y.hc y.halves nm W ((hy.2.2.1.below hb).more hb.size) hn hl8 hp hf1 hf2)
 unfold estB
 generalize (findS y.chans nm).getD St0 = z at CF ce hf1 hf2 ⊢
 generalize flE y.chans nm = f0 at CF ⊢
 have e1 : tellN (z.inp - sumO (outsN y.id y.halves nm)) = estN y z nm := rfl
 have e2 : tellN (z.inp + (-1) * sumT (fun _ => true) (outsN y.id y.halves nm)) = estN y z nm := by
  rw [sumT_all]
  unfold estN
  congr 1
  omega
 first | rw [e1] at ce | rw [e2] at ce
 generalize estN y z nm = q at ce ⊢
 obtain ⟨qa, qb⟩ := q
 have CE := Lib.hid ce
 clear ce hy hm hn hl8 hp hf1 hf2 e1 e2
 obtain ⟨id, boot, ticks, wa, wn, wc, turn, sa, sn, sc, ha, hn, hc, ca, cn, cc, want, seen, halves, chans⟩ := y
 simp only [] at CF CE ⊢
 go_enter Tryz.func58, Tryz.ntmps58
 go_wp2_with (fail)
 refine (CF.out _ Qb).mono ?_; rintro e w1 ⟨rfl, hb1⟩
 have hk1 : KeptC w [(⟨w.heap.size, 0, none⟩, .int .i64 id), (⟨w.heap.size, 6, none⟩, .slice ha hn hc)] [] w1 := by
  refine KeptC.below ?_ hb1
  exact Qk
 simp only [KeptC, List.forall_mem_cons] at hk1; obtain ⟨kb1, ⟨kc1_0, kc1_1, _⟩, _⟩ := hk1
 have hz1 : w.heap.size < w1.heap.size := cell_lt kc1_0
 clear hb1 CF
 have HLb : Hid (LocE stV (w1.alloc (.cells #[.string ⟨#[]⟩, .int .i64 0, .int .i64 0, .bool false, .int .i64 0, .int .i64 0, .bool false, .int .i64 0, .bool false, .int .i64 0, .int .i64 0, .int .i64 0, .bool false, .int .i64 0, .int .i64 0, .int .i64 0] 96)) w1.heap.size) := Lib.hid (LocE.fresh (enc := stV) w1 #[.string ⟨#[]⟩, .int .i64 0, .int .i64 0, .bool false, .int .i64 0, .int .i64 0, .bool false, .int .i64 0, .bool false, .int .i64 0, .int .i64 0, .int .i64 0, .bool false, .int .i64 0, .int .i64 0, .int .i64 0] 96 St0 rfl)
 have HK2 : Hid (Below w1.heap.size w1 (w1.alloc (.cells #[.string ⟨#[]⟩, .int .i64 0, .int .i64 0, .bool false, .int .i64 0, .int .i64 0, .bool false, .int .i64 0, .bool false, .int .i64 0, .int .i64 0, .int .i64 0, .bool false, .int .i64 0, .int .i64 0, .int .i64 0] 96))) := Lib.hid ((Below.refl _ _).alloc (Nat.le_refl _) _)
 go_upto_region 2 with ((with_reducible show wpList _ _ _ (_ :: _) _ _); refine wpList_store_lay rfl 96 (.tmp 6) (.tmp 12) rfl w1.heap.size 0 (stV z).toArray rfl rfl (HLb.out.there stV_len) (by kernel_rfl) (all_oneCell_toArray (stV_one z)) (fun w' => LocX stV w' w1.heap.size z ∧ Below w1.heap.size w1 w') ⟨HLb.out.layX stV_len z rfl, Below.setCells (Nat.le_refl _) _ _ _ HK2.out⟩ ?_; rintro w2 ⟨hX2, hB2⟩; have HX2 := Lib.hid hX2; have HB2 := Lib.hid hB2; clear hX2 hB2 HLb HK2)
 have k0 := (HB2.out.cell (p := ⟨w.heap.size, 0, none⟩) hz1).trans kc1_0
 have k6 := (HB2.out.cell (p := ⟨w.heap.size, 6, none⟩) hz1).trans kc1_1
 have k7 := (HX2.out.2 7 _ rfl).1
 have kb2 : Below w.heap.size w w2 := kb1.trans (HB2.out.mono kb1.size)
 by_cases hf : f0 = 0
 · subst hf
   go_wp2_with (fail)
   refine (CE.out _ (Qb1 kb2)).mono ?_; rintro e w3 ⟨rfl, hb3⟩
   have kb3 : Below w.heap.size w w3 := kb2.trans (hb3.mono kb2.size)
   clear hb3
   go_wp2
   go_ret2
   exact ⟨by first | rfl | (simp; done), kb3⟩
 · have q1 : (f0 != 0) = true := by simpa using hf
   have HF := Lib.hid hf
   clear hf
   go_wp2
   go_ret2
   exact ⟨by first | rfl | (simp [HF.out]; done), kb2⟩
end Go.Proofs.YtkfodkbgmpbmfaaGreat
namespace Go.Proofs.YtkfodkbgmpbmfaaGreat
open Go.RowKit Go.Shelf
set_option linter.unusedVariables false
set_option linter.unusedSimpArgs false
set_option maxRecDepth 100000
set_option maxHeartbeats 8000000 in
theorem rseats_any (x : Wd) (nm : ByteArray) (w : World) (hx : WdOk w x) :
    Calls Tryz.prog 36 #[WdV x, .string nm] w fun e w' => ∃ A n c, e = .returned (.slice A n c) ∧ (seatsB x nm).length = n ∧ OwnE encSe 4 124 w' w.heap.size (.slice A n c) (seatsB x nm) ∧ Below w.heap.size w w' := by
 have CI := Lib.hid (fun (a : Int) W (hb : Below w.heap.size w W) => rinst_any x a nm W (hx.below hb))
 have HE := Lib.hid (fun (a : Int) W (hb : Below w.heap.size w W) => WdOk.est (hx.below hb) a nm)
 have HX := Lib.hid hx
 have HL := Lib.hid (show x.nds.length = x.nn ∧ x.nn ≤ 16 from ⟨hx.len.1, by have := hx.len.1; have := hx.fit.n1; omega⟩)
 have HB0 : Hid (seatsB x nm = seatsT x nm x.nn) := Lib.hid (by unfold seatsB seatsT; rw [hx.len.1])
 have HN := Lib.hid (fun k => seatsT_next x nm k)
 have HQ := Lib.hid (fun k => seatO_eq x nm k)
 have HIS := Lib.hid (fun (a : Int) => instS_eq x a nm)
 have HND := Lib.hid (fun k (hk : k < x.nn) => hx.nd hk)
 have HUP := Lib.hid (fun k (hk : k < x.nn) => hx.up hk)
 have HUA := Lib.hid (fun (k : Nat) (b : Bool) (y : Nd) (hk : k < x.nds.length) (hb : x.ups[k]? = some b) (hy : x.nds[k]? = some y) => upN_at hk hb hy)
 rw [HB0.out]
 clear hx
 generalize hT : seatsT x nm = T at HN HB0 ⊢
 have HT0 : Hid (T 0 = []) := Lib.hid (by rw [← hT]; rfl)
 clear hT
 generalize hS : seatO x nm = sO at HN HQ
 clear hS HB0 HX
 generalize hU : upN x = U at HE HQ HIS HUA
 clear hU
 obtain ⟨na, nn, nc, ua, un, uc, da, dn, dc, nx, la, ll, lc, sa, sl, sc, lost, nds, ups⟩ := x
 simp only [] at HL HND HUP HUA ⊢
 go_enter Tryz.func36, Tryz.ntmps36
 go_wp2
 go_loopw [6, 5] (fun i l w' => ∃ (k : Nat) (A : Option Addr) (n c : Nat), k ≤ nn ∧ i = .int .i64 k ∧ l = .slice A n c ∧ Hid ((T k).length = n) ∧ Hid (n ≤ k) ∧ Hid (OwnE encSe 4 124 w' (w.heap.size + 1) (.slice A n c) (T k)) ∧ KeptC w [(⟨w.heap.size, 0, none⟩, .slice na nn nc), (⟨w.heap.size, 1, none⟩, .slice ua un uc), (⟨w.heap.size, 2, none⟩, .slice da dn dc), (⟨w.heap.size, 3, none⟩, .int .i64 nx), (⟨w.heap.size, 4, none⟩, .slice la ll lc), (⟨w.heap.size, 5, none⟩, .slice sa sl sc), (⟨w.heap.size, 6, none⟩, .int .i64 lost)] [] w') (fun i _ _ => nn - (intOf i).toNat)
 case atStart => exact ⟨0, none, 0, 0, Nat.zero_le _, rfl, rfl, Lib.hid (by rw [HT0.out]; rfl), Lib.hid (Nat.le_refl _), Lib.hid (by rw [HT0.out]; exact OwnE.nil _ _ _), Qk⟩
 case round =>
  obtain ⟨k, A, n, c, hk, rfl, rfl, HLn, HNk, HO, hK⟩ := hrel
  simp only [KeptC, List.forall_mem_cons] at hK; obtain ⟨kb0, ⟨kc0_0, kc0_1, kc0_2, kc0_3, kc0_4, kc0_5, kc0_6, _⟩, _⟩ := hK
  have hs0 := kb0.size
  have hz0 : w.heap.size < wr.heap.size := cell_lt kc0_0
  by_cases hlt : k < nn
  rotate_left
  · obtain rfl : k = nn := by omega
    go_wp2
    go_ret
    exact ⟨A, n, c, rfl, HLn.out, HO.out.less (by omega), kb0⟩
  · obtain ⟨ad, u, hA, hab, hu2, h8, hnd⟩ := HND.out k hlt
    obtain ⟨adu, b, hA2, habu, hub, hcu⟩ := HUP.out k hlt
    have hup := HUA.out k b u (by rw [HL.out.1]; exact hlt) hub hu2
    subst hA
    obtain ⟨P, hP⟩ : ∃ P, ad.add (k * 8) = P := ⟨_, rfl⟩
    rw [hP] at h8 hab
    have hPw : P.block < wr.heap.size := by omega
    obtain ⟨p0, p1, p2, p3, p4, p5, p6, p7⟩ := h8.below hab kb0
    obtain ⟨w1, h⟩ : ∃ w1, w1 = wr := ⟨_, rfl⟩
    subst h
    have hwk : IntKind.i64.wrap ((k : Int) + 1) = (k : Int) + 1 := by rw [IntKind.wrap_i64]; have := HL.out.2; omega
    have ci := CI.out (k : Int)
    have he := HE.out (k : Int)
    have hn := HN.out k
    have his := HIS.out (k : Int)
    rw [HQ.out k] at hn
    rw [hup] at he hn his
    rw [his] at ci
    clear his hup hcu hub hu2 hnd h8 hA2 habu
    cases b with
    | false =>
     have HNX : Hid (T (k + 1) = T k) := Lib.hid (by
      have e : flE (Option.getD (if false = true then some u else none) Nd0).chans nm = 44 := rfl
      rw [if_neg (by rw [e]; decide)] at hn
      simpa using hn)
     have e2 : findS (Option.getD (if false = true then some u else none) Nd0).chans nm = none := rfl
     rw [e2] at ci
     simp only [Option.getD_none, Option.isSome_none] at ci
     have CI2 := Lib.hid ci
     clear ci he hn e2 p0 p1 p2 p3 p4 p5 p6 p7
     go_wp2_with (fail)
     refine (CI2.out _ (Qb1 kb0)).mono ?_; rintro e w2 ⟨rfl, hb2⟩
     have hk2 : KeptC w [(⟨w.heap.size, 0, none⟩, .slice (some ad) nn nc), (⟨w.heap.size, 1, none⟩, .slice ua un uc), (⟨w.heap.size, 2, none⟩, .slice da dn dc), (⟨w.heap.size, 3, none⟩, .int .i64 nx), (⟨w.heap.size, 4, none⟩, .slice la ll lc), (⟨w.heap.size, 5, none⟩, .slice sa sl sc), (⟨w.heap.size, 6, none⟩, .int .i64 lost)] [] w2 := by
      refine KeptC.below ?_ hb2
      exact Qk1 kb0
     simp only [KeptC, List.forall_mem_cons] at hk2; obtain ⟨kb2, ⟨kc2_0, kc2_1, kc2_2, kc2_3, kc2_4, kc2_5, kc2_6, _⟩, _⟩ := hk2
     have hz2 : w.heap.size < w2.heap.size := cell_lt kc2_0
     have HO2 := Lib.hid (HO.out.below hb2)
     clear hb2
     go_wp2
     go_roundw
     case rel => exact ⟨k + 1, A, n, c, by omega, by go_num, rfl, Lib.hid (by rw [HNX.out]; exact HLn.out), Lib.hid (by have := HNk.out; omega), Lib.hid (by rw [HNX.out]; exact HO2.out.below ((Below.refl _ _).alloc (Nat.le_refl _) _)), (Qk1 kb2)⟩
     case measure => simp [intOf]; omega
    | true =>
     have e1 : (Option.getD (if true = true then some u else none) Nd0) = u := rfl
     rw [e1] at ci he hn
     have HFL : Hid (((findS u.chans nm).isSome && flowsK ((findS u.chans nm).getD St0).ch.kd) = decide (flE u.chans nm = 0)) := Lib.hid (by
      unfold flE
      cases hf : findS u.chans nm with
      | none => rfl
      | some s => cases hk : flowsK s.ch.kd <;> simp [hk])
     have HE2 := Lib.hid he
     have cf := (fun W (hb : Below w.heap.size w W) => srfind_any u.ca u.cn u.cc u.chans nm W (HE2.out W hb).nd.2.2.2 (by have := (HE2.out W hb).cn; omega))
     have ce := (fun W (hb : Below w.heap.size w W) => rest20_any u nm W (HE2.out W hb).nd (HE2.out W hb).cn (HE2.out W hb).hn (HE2.out W hb).l8 (HE2.out W hb).pr (HE2.out W hb).f1 (HE2.out W hb).f2)
     generalize flE u.chans nm = f0 at HFL hn
     generalize (findS u.chans nm).getD St0 = z at ci cf HFL hn
     generalize (findS u.chans nm).isSome = ok2 at ci cf HFL
     generalize estB u nm = q at ce hn
     obtain ⟨qa, qb⟩ := q
     have HN3 := Lib.hid hn
     have CI2 := Lib.hid ci; have CF2 := Lib.hid cf; have CE := Lib.hid ce
     clear ci cf ce he hn e1
     go_wp2_with (fail)
     refine (CI2.out _ (Qb1 kb0)).mono ?_; rintro e w2 ⟨rfl, hb2⟩
     have hk2 : KeptC w [(⟨w.heap.size, 0, none⟩, .slice (some ad) nn nc), (⟨w.heap.size, 1, none⟩, .slice ua un uc), (⟨w.heap.size, 2, none⟩, .slice da dn dc), (⟨w.heap.size, 3, none⟩, .int .i64 nx), (⟨w.heap.size, 4, none⟩, .slice la ll lc), (⟨w.heap.size, 5, none⟩, .slice sa sl sc), (⟨w.heap.size, 6, none⟩, .int .i64 lost), (P, .int .i64 u.id), (⟨P.block, P.off + 1, none⟩, .int .i64 u.boot), (⟨P.block, P.off + 2, none⟩, .int .i64 u.ticks), (⟨P.block, P.off + 3, none⟩, .slice u.wa u.wn u.wc), (⟨P.block, P.off + 4, none⟩, .int .i64 u.turn), (⟨P.block, P.off + 5, none⟩, .slice u.sa u.sn u.sc), (⟨P.block, P.off + 6, none⟩, .slice u.ha u.hn u.hc), (⟨P.block, P.off + 7, none⟩, .slice u.ca u.cn u.cc)] [] w2 := by
      refine KeptC.below ?_ hb2
      exact Qk1 kb0
     simp only [KeptC, List.forall_mem_cons] at hk2; obtain ⟨kb2, ⟨kc2_0, kc2_1, kc2_2, kc2_3, kc2_4, kc2_5, kc2_6, kc2_7, kc2_8, kc2_9, kc2_10, kc2_11, kc2_12, kc2_13, kc2_14, _⟩, _⟩ := hk2
     have hz2 : w.heap.size < w2.heap.size := cell_lt kc2_0
     have hP2 : P.block < w2.heap.size := cell_lt kc2_7
     have HO2 := Lib.hid (HO.out.below hb2)
     clear hb2 HO kb0 hz0 hs0 CI2 p0 p1 p2 p3 p4 p5 p6 p7 kc0_0 kc0_1 kc0_2 kc0_3 kc0_4 kc0_5 kc0_6
     cases ok2 with
     | false =>
      have HNX : Hid (T (k + 1) = T k) := Lib.hid (by
       have h1 := HFL.out
       have h2 : ¬ f0 = 0 := by simpa using h1
       have h3 := HN3.out
       rw [if_neg h2] at h3
       simpa using h3)
      go_wp2
      go_roundw
      case rel => exact ⟨k + 1, A, n, c, by omega, by go_num, rfl, Lib.hid (by rw [HNX.out]; exact HLn.out), Lib.hid (by have := HNk.out; omega), Lib.hid (by rw [HNX.out]; exact HO2.out.below ((Below.refl _ _).alloc (Nat.le_refl _) _)), (Qk1 kb2)⟩
      case measure => simp [intOf]; omega
     | true =>
      have CK : Hid (∀ W, Calls Tryz.prog 29 #[.int .i64 z.ch.kd] W fun x w' => x = .returned (.bool (flowsK z.ch.kd)) ∧ Below W.heap.size W w') := Lib.hid (fun W => srflows_any z.ch.kd W)
      generalize flowsK z.ch.kd = fk at CK HFL
      go_wp2_with (fail)
      refine (CK.out _).mono ?_; rintro e w5 ⟨rfl, hb5⟩
      have hk5 : KeptC w [(⟨w.heap.size, 0, none⟩, .slice (some ad) nn nc), (⟨w.heap.size, 1, none⟩, .slice ua un uc), (⟨w.heap.size, 2, none⟩, .slice da dn dc), (⟨w.heap.size, 3, none⟩, .int .i64 nx), (⟨w.heap.size, 4, none⟩, .slice la ll lc), (⟨w.heap.size, 5, none⟩, .slice sa sl sc), (⟨w.heap.size, 6, none⟩, .int .i64 lost), (P, .int .i64 u.id), (⟨P.block, P.off + 1, none⟩, .int .i64 u.boot), (⟨P.block, P.off + 2, none⟩, .int .i64 u.ticks), (⟨P.block, P.off + 3, none⟩, .slice u.wa u.wn u.wc), (⟨P.block, P.off + 4, none⟩, .int .i64 u.turn), (⟨P.block, P.off + 5, none⟩, .slice u.sa u.sn u.sc), (⟨P.block, P.off + 6, none⟩, .slice u.ha u.hn u.hc), (⟨P.block, P.off + 7, none⟩, .slice u.ca u.cn u.cc)] [] w5 := by
       refine KeptC.below ?_ hb5
       exact Qk1 kb2
      simp only [KeptC, List.forall_mem_cons] at hk5; obtain ⟨kb5, ⟨kc5_0, kc5_1, kc5_2, kc5_3, kc5_4, kc5_5, kc5_6, kc5_7, kc5_8, kc5_9, kc5_10, kc5_11, kc5_12, kc5_13, kc5_14, _⟩, _⟩ := hk5
      have hz5 : w.heap.size < w5.heap.size := cell_lt kc5_0
      have hP5 : P.block < w5.heap.size := cell_lt kc5_7
      have HO5 := Lib.hid ((HO2.out.below ((Below.refl _ _).alloc (Nat.le_refl _) _)).below hb5)
      clear hb5 CK kb2 hz2 hP2 HO2 kc2_0 kc2_1 kc2_2 kc2_3 kc2_4 kc2_5 kc2_6 kc2_7 kc2_8 kc2_9 kc2_10 kc2_11 kc2_12 kc2_13 kc2_14
      cases fk with
      | false =>
       have HNX : Hid (T (k + 1) = T k) := Lib.hid (by
        have h1 := HFL.out
        have h2 : ¬ f0 = 0 := by simpa using h1
        have h3 := HN3.out
        rw [if_neg h2] at h3
        simpa using h3)
       go_wp2
       go_roundw
       case rel => exact ⟨k + 1, A, n, c, by omega, by go_num, rfl, Lib.hid (by rw [HNX.out]; exact HLn.out), Lib.hid (by have := HNk.out; omega), Lib.hid (by rw [HNX.out]; exact HO5.out), (Qk1 kb5)⟩
       case measure => simp [intOf]; omega
      | true =>
       have HNX : Hid (T (k + 1) = T k ++ [⟨k, z.inp, qa, qb⟩]) := Lib.hid (by
        have h1 := HFL.out
        have h2 : f0 = 0 := by simpa using h1
        have h3 := HN3.out
        rw [if_pos h2] at h3
        simpa using h3)
       go_wp2_with (fail)
       refine (CF2.out _ (Qb1 kb5)).mono ?_; rintro e w3 ⟨rfl, hb3⟩
       have hk3 : KeptC w [(⟨w.heap.size, 0, none⟩, .slice (some ad) nn nc), (⟨w.heap.size, 1, none⟩, .slice ua un uc), (⟨w.heap.size, 2, none⟩, .slice da dn dc), (⟨w.heap.size, 3, none⟩, .int .i64 nx), (⟨w.heap.size, 4, none⟩, .slice la ll lc), (⟨w.heap.size, 5, none⟩, .slice sa sl sc), (⟨w.heap.size, 6, none⟩, .int .i64 lost), (P, .int .i64 u.id), (⟨P.block, P.off + 1, none⟩, .int .i64 u.boot), (⟨P.block, P.off + 2, none⟩, .int .i64 u.ticks), (⟨P.block, P.off + 3, none⟩, .slice u.wa u.wn u.wc), (⟨P.block, P.off + 4, none⟩, .int .i64 u.turn), (⟨P.block, P.off + 5, none⟩, .slice u.sa u.sn u.sc), (⟨P.block, P.off + 6, none⟩, .slice u.ha u.hn u.hc), (⟨P.block, P.off + 7, none⟩, .slice u.ca u.cn u.cc)] [] w3 := by
        refine KeptC.below ?_ hb3
        exact Qk1 kb5
       simp only [KeptC, List.forall_mem_cons] at hk3; obtain ⟨kb3, ⟨kc3_0, kc3_1, kc3_2, kc3_3, kc3_4, kc3_5, kc3_6, kc3_7, kc3_8, kc3_9, kc3_10, kc3_11, kc3_12, kc3_13, kc3_14, _⟩, _⟩ := hk3
       have hz3 : w.heap.size < w3.heap.size := cell_lt kc3_0
       have hP3 : P.block < w3.heap.size := cell_lt kc3_7
       have HO3 := Lib.hid (HO5.out.below hb3)
       clear hb3 CF2 kb5 hz5 hP5 HO5 kc5_0 kc5_1 kc5_2 kc5_3 kc5_4 kc5_5 kc5_6 kc5_7 kc5_8 kc5_9 kc5_10 kc5_11 kc5_12 kc5_13 kc5_14
       have HLb : Hid (LocE stV (w3.alloc (.cells #[.string ⟨#[]⟩, .int .i64 0, .int .i64 0, .bool false, .int .i64 0, .int .i64 0, .bool false, .int .i64 0, .bool false, .int .i64 0, .int .i64 0, .int .i64 0, .bool false, .int .i64 0, .int .i64 0, .int .i64 0] 96)) w3.heap.size) := Lib.hid (LocE.fresh (enc := stV) w3 #[.string ⟨#[]⟩, .int .i64 0, .int .i64 0, .bool false, .int .i64 0, .int .i64 0, .bool false, .int .i64 0, .bool false, .int .i64 0, .int .i64 0, .int .i64 0, .bool false, .int .i64 0, .int .i64 0, .int .i64 0] 96 St0 rfl)
       have HK2 : Hid (Below w3.heap.size w3 (w3.alloc (.cells #[.string ⟨#[]⟩, .int .i64 0, .int .i64 0, .bool false, .int .i64 0, .int .i64 0, .bool false, .int .i64 0, .bool false, .int .i64 0, .int .i64 0, .int .i64 0, .bool false, .int .i64 0, .int .i64 0, .int .i64 0] 96))) := Lib.hid ((Below.refl _ _).alloc (Nat.le_refl _) _)
       go_upto_region 8 with ((with_reducible show wpList _ _ _ (_ :: _) _ _); refine wpList_store_lay rfl 96 (.tmp 9) (.tmp 44) rfl w3.heap.size 0 (stV z).toArray rfl rfl (HLb.out.there stV_len) (by kernel_rfl) (all_oneCell_toArray (stV_one z)) (fun w' => LocX stV w' w3.heap.size z ∧ Below w3.heap.size w3 w') ⟨HLb.out.layX stV_len z rfl, Below.setCells (Nat.le_refl _) _ _ _ HK2.out⟩ ?_; rintro w4 ⟨hX4, hB4⟩; have HX4 := Lib.hid hX4; have HB4 := Lib.hid hB4; clear hX4 HLb HK2)
       have hk4 : KeptC w [(⟨w.heap.size, 0, none⟩, .slice (some ad) nn nc), (⟨w.heap.size, 1, none⟩, .slice ua un uc), (⟨w.heap.size, 2, none⟩, .slice da dn dc), (⟨w.heap.size, 3, none⟩, .int .i64 nx), (⟨w.heap.size, 4, none⟩, .slice la ll lc), (⟨w.heap.size, 5, none⟩, .slice sa sl sc), (⟨w.heap.size, 6, none⟩, .int .i64 lost), (P, .int .i64 u.id), (⟨P.block, P.off + 1, none⟩, .int .i64 u.boot), (⟨P.block, P.off + 2, none⟩, .int .i64 u.ticks), (⟨P.block, P.off + 3, none⟩, .slice u.wa u.wn u.wc), (⟨P.block, P.off + 4, none⟩, .int .i64 u.turn), (⟨P.block, P.off + 5, none⟩, .slice u.sa u.sn u.sc), (⟨P.block, P.off + 6, none⟩, .slice u.ha u.hn u.hc), (⟨P.block, P.off + 7, none⟩, .slice u.ca u.cn u.cc)] [] w4 := by
        refine KeptC.below ?_ hB4
        exact Qk1 kb3
       simp only [KeptC, List.forall_mem_cons] at hk4; obtain ⟨kb4, ⟨kc4_0, kc4_1, kc4_2, kc4_3, kc4_4, kc4_5, kc4_6, kc4_7, kc4_8, kc4_9, kc4_10, kc4_11, kc4_12, kc4_13, kc4_14, _⟩, _⟩ := hk4
       have hz4 : w.heap.size < w4.heap.size := cell_lt kc4_0
       have hP4 : P.block < w4.heap.size := cell_lt kc4_7
       have hz4c : w3.heap.size < w4.heap.size := HX4.out.1
       have HO4 := Lib.hid (HO3.out.below HB4.out)
       have z7 := (HX4.out.2 7 _ rfl).1
       clear hB4 kb3 hz3 hP3 HO3 kc3_0 kc3_1 kc3_2 kc3_3 kc3_4 kc3_5 kc3_6 kc3_7 kc3_8 kc3_9 kc3_10 kc3_11 kc3_12 kc3_13 kc3_14
       go_wp2_with (fail)
       refine (CE.out _ (Qb1 kb4)).mono ?_; rintro e w6 ⟨rfl, hb6⟩
       have hk6 : KeptC w [(⟨w.heap.size, 0, none⟩, .slice (some ad) nn nc), (⟨w.heap.size, 1, none⟩, .slice ua un uc), (⟨w.heap.size, 2, none⟩, .slice da dn dc), (⟨w.heap.size, 3, none⟩, .int .i64 nx), (⟨w.heap.size, 4, none⟩, .slice la ll lc), (⟨w.heap.size, 5, none⟩, .slice sa sl sc), (⟨w.heap.size, 6, none⟩, .int .i64 lost), (⟨w3.heap.size, 7, none⟩, .int .i64 z.inp)] [] w6 := by
        refine KeptC.below ?_ hb6
        exact Qk1 kb4
       simp only [KeptC, List.forall_mem_cons] at hk6; obtain ⟨kb6, ⟨kc6_0, kc6_1, kc6_2, kc6_3, kc6_4, kc6_5, kc6_6, kc6_7, _⟩, _⟩ := hk6
       have hz6 : w.heap.size < w6.heap.size := cell_lt kc6_0
       have HO6 := Lib.hid (HO4.out.below hb6)
       clear hb6 CE kb4 hz4 hP4 hz4c z7 HO4 kc4_0 kc4_1 kc4_2 kc4_3 kc4_4 kc4_5 kc4_6 kc4_7 kc4_8 kc4_9 kc4_10 kc4_11 kc4_12 kc4_13 kc4_14
       have HB9 : Hid (n + 1 ≤ maxLen ∧ (n + 1) * 32 ≤ 140737488355328) := Lib.hid (by have h1 := HNk.out; have h2 := HL.out.2; simp only [maxLen]; omega)
       go_wp2_with (at_builtin; refine wpList_app1H encSe_len encSe_one (by decide) rfl (.tmp 56) (.tmp 63) 74 124 rfl Tryz.underlying74 seat_inf rfl (w.heap.size + 1) (T k) A n c HLn.out rfl (HO6.out.below ((Below.refl _ _).alloc (Nat.le_refl _) _)) w.heap.size (by simp; omega) (own_ne HO6.out (by omega)) ⟨w6.heap.size, 0, none⟩ 1 rfl ⟨k, z.inp, qa, qb⟩ (fun i u hu => by have h := ((LocX.fresh (enc := encSe) w6 #[.int .i64 k, .int .i64 z.inp, .int .i64 qa, .int .i64 qb] 124 ⟨k, z.inp, qa, qb⟩ rfl).2 i u hu).1; rw [Addr.add_lit, Nat.zero_add]; exact h) (by simp) HB9.out.1 HB9.out.2 (by simp; omega) ?_; rintro O7 A7 n7 c7 w7 hO7 hn7 hown7 hb7 _ _; have HO7 := Lib.hid hO7; have HN7 := Lib.hid hn7; have HW7 := Lib.hid hown7; have HB7 : Hid (Below (w.heap.size + 1) w6 w7) := Lib.hid ((Qb : Below (w.heap.size + 1) w6 _).trans hb7); clear hO7 hn7 hown7 hb7)
       have HT7 : Hid (T (k + 1) = O7) := Lib.hid (by rw [HNX.out, HO7.out])
       have kb7 : Below w.heap.size w w7 := kb6.trans (HB7.out.mono (by omega))
       have d0 := (HB7.out.cell (p := ⟨w.heap.size, 0, none⟩) (Nat.lt_succ_self _)).trans kc6_0
       have d1 := (HB7.out.cell (p := ⟨w.heap.size, 1, none⟩) (Nat.lt_succ_self _)).trans kc6_1
       have d2 := (HB7.out.cell (p := ⟨w.heap.size, 2, none⟩) (Nat.lt_succ_self _)).trans kc6_2
       have d3 := (HB7.out.cell (p := ⟨w.heap.size, 3, none⟩) (Nat.lt_succ_self _)).trans kc6_3
       have d4 := (HB7.out.cell (p := ⟨w.heap.size, 4, none⟩) (Nat.lt_succ_self _)).trans kc6_4
       have d5 := (HB7.out.cell (p := ⟨w.heap.size, 5, none⟩) (Nat.lt_succ_self _)).trans kc6_5
       have d6 := (HB7.out.cell (p := ⟨w.heap.size, 6, none⟩) (Nat.lt_succ_self _)).trans kc6_6
       have HN8 : Hid (n7 ≤ k + 1) := Lib.hid (by have h1 := HN7.out; rw [HO7.out] at h1; simp at h1; have h2 := HLn.out; have h3 := HNk.out; omega)
       go_wp2
       go_roundw
       case rel => exact ⟨k + 1, A7, n7, c7, by omega, by go_num, rfl, Lib.hid (by rw [HT7.out]; exact HN7.out), HN8, Lib.hid (by rw [HT7.out]; exact HW7.out), (Qk1 kb7)⟩
       case measure => simp [intOf]; omega
end Go.Proofs.YtkfodkbgmpbmfaaGreat
namespace Go.Proofs.YtkfodkbgmpbmfaaGreat
open Go.RowKit Go.Shelf
set_option linter.unusedVariables false
set_option linter.unusedSimpArgs false
set_option maxRecDepth 100000
set_option maxHeartbeats 8000000 in
theorem revery_any (x : Wd) (nm : ByteArray) (w : World) (hx : WdOk w x) :
    Calls Tryz.prog 38 #[WdV x, .string nm] w fun e w' => e = .returned (.bool (everyB x nm)) ∧ Below w.heap.size w w' := by
 have CB := Lib.hid (fun (a b : Int) W (hb : Below w.heap.size w W) => rboth_any x a b nm W (hx.below hb))
 have CU := Lib.hid (fun (a : Int) W (hb : Below w.heap.size w W) => up_any x a W (hx.below hb))
 have HL := Lib.hid (show x.nds.length = x.nn ∧ x.nn ≤ 16 from ⟨hx.len.1, by have := hx.len.1; have := hx.fit.n1; omega⟩)
 have HND := Lib.hid (fun k (hk : k < x.nn) => hx.nd hk)
 have HUP := Lib.hid (fun k (hk : k < x.nn) => hx.up hk)
 have HUN := Lib.hid hx.len.2
 have H0 := Lib.hid (evI_zero x nm)
 have HS := Lib.hid (fun (k : Nat) (F : Int) (h : EvI x nm k F) => evI_skip h)
 have HN := Lib.hid (fun (k : Nat) (F : Int) (h : EvI x nm k F) => evI_next h)
 have HF := Lib.hid (fun (k : Nat) (F : Int) (h : EvI x nm k F) => evI_fail h)
 have HE := Lib.hid (fun (F : Int) (h : EvI x nm x.nn F) => evI_end (by rw [HL.out.1]; exact h))
 have HUA := Lib.hid (fun (k : Nat) (b : Bool) (y : Nd) (hk : k < x.nds.length) (hb : x.ups[k]? = some b) (hy : x.nds[k]? = some y) => upN_at hk hb hy)
 clear hx
 generalize hv : EvI x nm = V at H0 HS HN HF HE
 clear hv
 generalize hb : bothB x = BB at CB HN HF
 clear hb
 generalize everyB x nm = R at HF HE ⊢
 generalize hu : upN x = U at CU HS HN HF HUA
 clear hu
 obtain ⟨na, nn, nc, ua, un, uc, da, dn, dc, nx, la, ll, lc, sa, sl, sc, lost, nds, ups⟩ := x
 simp only [] at CB CU HL HND HUP HE HF HUA HUN ⊢
 go_enter Tryz.func38, Tryz.ntmps38
 go_wp2
 go_loopw [6, 5] (fun i f w' => ∃ (k : Nat) (F : Int), k ≤ nn ∧ i = .int .i64 k ∧ f = .int .i64 F ∧ Hid (V k F) ∧ KeptC w [(⟨w.heap.size, 0, none⟩, .slice na nn nc), (⟨w.heap.size, 1, none⟩, .slice ua un uc), (⟨w.heap.size, 2, none⟩, .slice da dn dc), (⟨w.heap.size, 3, none⟩, .int .i64 nx), (⟨w.heap.size, 4, none⟩, .slice la ll lc), (⟨w.heap.size, 5, none⟩, .slice sa sl sc), (⟨w.heap.size, 6, none⟩, .int .i64 lost)] [] w') (fun i _ _ => nn - (intOf i).toNat)
 case atStart => exact ⟨0, -1, Nat.zero_le _, rfl, rfl, H0, Qk⟩
 case round =>
  obtain ⟨k, F, hk, rfl, rfl, HV, hK⟩ := hrel
  simp only [KeptC, List.forall_mem_cons] at hK; obtain ⟨kb0, ⟨kc0_0, kc0_1, kc0_2, kc0_3, kc0_4, kc0_5, kc0_6, _⟩, _⟩ := hK
  have hs0 := kb0.size
  have hz0 : w.heap.size < wr.heap.size := cell_lt kc0_0
  by_cases hlt : k < nn
  rotate_left
  · obtain rfl : k = nn := by omega
    have HR : Hid (R = decide (0 ≤ F)) := Lib.hid (HE.out F HV.out)
    go_wp2
    go_ret
    exact ⟨by rw [HR.out]; rfl, kb0⟩
  · obtain ⟨w1, h⟩ : ∃ w1, w1 = wr := ⟨_, rfl⟩
    subst h
    have hwk : IntKind.i64.wrap ((k : Int) + 1) = (k : Int) + 1 := by rw [IntKind.wrap_i64]; have := HL.out.2; omega
    obtain ⟨adn, u, -, -, hu2, -, -⟩ := HND.out k hlt
    obtain ⟨adu, b, hA2, habu, hub, hcu⟩ := HUP.out k hlt
    have hup := HUA.out k b u (by rw [HL.out.1]; exact hlt) hub hu2
    subst hA2
    obtain ⟨P, hP⟩ : ∃ P, adu.add k = P := ⟨_, rfl⟩
    rw [hP] at hcu habu
    have hPw : P.block < w1.heap.size := by omega
    have pc : w1.cell? P = some (.bool b) := (kb0.cell habu).trans hcu
    have hku : k < un := by have := HUN.out; omega
    clear hu2 hub hcu habu
    cases b with
    | false =>
     have HV2 := Lib.hid (HS.out k F HV.out (by rw [hup]; rfl))
     clear hup
     go_wp2
     go_roundw
     case rel => exact ⟨k + 1, F, by omega, by go_num, rfl, HV2, (Qk1 kb0)⟩
     case measure => simp [intOf]; omega
    | true =>
     have hus : (U (k : Int)).isSome = true := by rw [hup]; rfl
     clear hup
     obtain ⟨F2, hF2⟩ : ∃ F2, (if F < 0 then (k : Int) else F) = F2 := ⟨_, rfl⟩
     have cb := CB.out F2 (k : Int)
     have HN2 := Lib.hid (HN.out k F HV.out hus)
     have HF2 := Lib.hid (HF.out k F HV.out (by rw [HL.out.1]; exact hlt) hus)
     rw [hF2] at HN2 HF2
     obtain ⟨b3, hb3'⟩ : ∃ b, BB F2 (k : Int) nm = b := ⟨_, rfl⟩
     rw [hb3'] at cb HN2 HF2
     have CB2 := Lib.hid cb
     clear cb hus hb3'
     by_cases hneg : F < 0
     · rw [if_pos hneg] at hF2
       subst hF2
       go_wp2_with (fail)
       refine (CB2.out _ (Qb1 kb0)).mono ?_; rintro e w3 ⟨rfl, hb3⟩
       have hk3 : KeptC w [(⟨w.heap.size, 0, none⟩, .slice na nn nc), (⟨w.heap.size, 1, none⟩, .slice (some adu) un uc), (⟨w.heap.size, 2, none⟩, .slice da dn dc), (⟨w.heap.size, 3, none⟩, .int .i64 nx), (⟨w.heap.size, 4, none⟩, .slice la ll lc), (⟨w.heap.size, 5, none⟩, .slice sa sl sc), (⟨w.heap.size, 6, none⟩, .int .i64 lost)] [] w3 := by
        refine KeptC.below ?_ hb3
        exact Qk1 kb0
       simp only [KeptC, List.forall_mem_cons] at hk3; obtain ⟨kb3, ⟨kc3_0, kc3_1, kc3_2, kc3_3, kc3_4, kc3_5, kc3_6, _⟩, _⟩ := hk3
       clear hb3
       cases b3 with
       | false =>
        have HR : Hid (R = false) := Lib.hid (HF2.out rfl)
        go_wp2
        go_ret
        exact ⟨by rw [HR.out]; rfl, kb3⟩
       | true =>
        have HV2 := Lib.hid (HN2.out rfl)
        go_wp2
        go_roundw
        case rel => exact ⟨k + 1, _, by omega, by go_num, rfl, HV2, (Qk1 kb3)⟩
        case measure => simp [intOf]; omega
     · rw [if_neg hneg] at hF2
       subst hF2
       go_wp2_with (fail)
       refine (CB2.out _ (Qb1 kb0)).mono ?_; rintro e w3 ⟨rfl, hb3⟩
       have hk3 : KeptC w [(⟨w.heap.size, 0, none⟩, .slice na nn nc), (⟨w.heap.size, 1, none⟩, .slice (some adu) un uc), (⟨w.heap.size, 2, none⟩, .slice da dn dc), (⟨w.heap.size, 3, none⟩, .int .i64 nx), (⟨w.heap.size, 4, none⟩, .slice la ll lc), (⟨w.heap.size, 5, none⟩, .slice sa sl sc), (⟨w.heap.size, 6, none⟩, .int .i64 lost)] [] w3 := by
        refine KeptC.below ?_ hb3
        exact Qk1 kb0
       simp only [KeptC, List.forall_mem_cons] at hk3; obtain ⟨kb3, ⟨kc3_0, kc3_1, kc3_2, kc3_3, kc3_4, kc3_5, kc3_6, _⟩, _⟩ := hk3
       clear hb3
       cases b3 with
       | false =>
        have HR : Hid (R = false) := Lib.hid (HF2.out rfl)
        go_wp2
        go_ret
        exact ⟨by rw [HR.out]; rfl, kb3⟩
       | true =>
        have HV2 := Lib.hid (HN2.out rfl)
        go_wp2
        go_roundw
        case rel => exact ⟨k + 1, _, by omega, by go_num, rfl, HV2, (Qk1 kb3)⟩
        case measure => simp [intOf]; omega
end Go.Proofs.YtkfodkbgmpbmfaaGreat
namespace Go.Proofs.YtkfodkbgmpbmfaaGreat
open Go.RowKit Go.Shelf
set_option linter.unusedVariables false
set_option linter.unusedSimpArgs false
set_option maxRecDepth 100000
set_option maxHeartbeats 8000000 in
theorem rvalues_any (x : Wd) (nm : ByteArray) (w : World) (hx : WdOk w x) :
    Calls Tryz.prog 66 #[WdV x, .string nm] w fun e w' => ∃ A n c, e = .returned (.tuple #[.slice A n c, .int .i64 (valE (seatsB x nm))]) ∧ (valL (seatsB x nm)).length = n ∧ OwnE encI 1 2 w' w.heap.size (.slice A n c) (valL (seatsB x nm)) ∧ Below w.heap.size w w' := by
 have CS := Lib.hid (fun W (hb : Below w.heap.size w W) => rseats_any x nm W (hx.below hb))
 have HER := Lib.hid (fun s (h : s ∈ seatsB x nm) => seats_err h)
 have HLN := Lib.hid (show (seatsB x nm).length ≤ 16 from by have := seats_len x nm; have := hx.fit.n1; omega)
 clear hx
 generalize seatsB x nm = L at CS HER HLN ⊢
 obtain ⟨na, nn, nc, ua, un, uc, da, dn, dc, nx, la, ll, lc, sa, sl, sc, lost, nds, ups⟩ := x
 try simp only [] at CS ⊢
 go_enter Tryz.func66, Tryz.ntmps66
 go_wp2_with (fail)
 refine (CS.out _ Qb).mono ?_; rintro e w1 ⟨A0, n0, c0, rfl, hn0, hown, hb1⟩
 have HR : Hid (RowsE encSe 4 w1 w1.heap.size A0 n0 L) := Lib.hid (by
  obtain ⟨A4, c4, e, h⟩ := OwnE.at_ encSe_len hown
  injection e with e1 e2 e3
  rw [e1, e2]
  exact h)
 have kb1 : Below w.heap.size w w1 := (Qb1 hb1)
 have HK1 := Lib.hid kb1
 have HN0 := Lib.hid hn0
 have hn16 : n0 ≤ 16 := by rw [← hn0]; exact HLN.out
 clear hown hb1 hn0
 by_cases hz : n0 = 0
 · have HL0 : Hid (L = []) := Lib.hid (List.length_eq_zero_iff.1 (by rw [HN0.out]; omega))
   subst hz
   go_wp2
   go_ret2
   exact ⟨none, 0, 0, by rw [HL0.out]; rfl, by rw [HL0.out]; rfl, by rw [HL0.out]; exact OwnE.nil _ _ _, kb1⟩
 have HNZ : Hid (¬ L = []) := Lib.hid (fun h => hz (by have h1 := HN0.out; rw [h] at h1; simp at h1; omega))
 have qz : ((n0 : Int) == 0) = false := by simpa using hz
 clear hz
 go_wp2
 go_loopw [8, 7] (fun i l w' => ∃ (k : Nat) (A : Option Addr) (n c : Nat), k ≤ n0 ∧ i = .int .i64 k ∧ l = .slice A n c ∧ Hid (((L.take k).map Seat.est).length = n) ∧ Hid (OwnE encI 1 2 w' w1.heap.size (.slice A n c) ((L.take k).map Seat.est)) ∧ Hid (∀ (t : Nat) s, t < k → L[t]? = some s → s.err = 0) ∧ Hid (Below w1.heap.size w1 w')) (fun i _ _ => n0 - (intOf i).toNat)
 case atStart => exact ⟨0, none, 0, 0, Nat.zero_le _, rfl, rfl, Lib.hid rfl, Lib.hid (OwnE.nil _ _ _), Lib.hid (fun t s h => absurd h (by omega)), Lib.hid (Below.refl _ _)⟩
 case round =>
  obtain ⟨k, A, n, c, hk, rfl, rfl, HLn, HO, HG, HB⟩ := hrel
  have hsr := HB.out.size
  by_cases hlt : k < n0
  rotate_left
  · obtain rfl : k = n0 := by omega
    have hbad : badS L = false := bad_none (fun t s ht => HG.out t s (by rw [← HN0.out]; exact ht))
    have htk : L.take k = L := List.take_of_length_le (by rw [HN0.out]; exact Nat.le_refl _)
    have HVL : Hid (valL L = L.map Seat.est) := Lib.hid (by unfold valL; rw [hbad]; rfl)
    have HVE : Hid (valE L = if L = [] then 50 else 0) := Lib.hid (by unfold valE; rw [hbad]; rfl)
    have HKB : Hid (Below w.heap.size w wr) := Lib.hid (HK1.out.trans (HB.out.mono HK1.out.size))
    rw [htk] at HLn HO
    have hnk : n = k := by have h1 := HLn.out; rw [List.length_map, HN0.out] at h1; exact h1.symm
    clear hbad htk
    clear hnk
    go_wp2
    go_ret2
    exact ⟨A, n, c, by rw [HVE.out, if_neg HNZ.out]; rfl, by rw [HVL.out]; exact HLn.out, by rw [HVL.out]; exact HO.out.less HK1.out.size, HKB.out⟩
  · obtain ⟨ad, s, rfl, hab, hs, h4⟩ := HR.out.at hlt
    obtain ⟨P, hP⟩ : ∃ P, ad.add (k * 4) = P := ⟨_, rfl⟩
    rw [hP] at h4 hab
    have hPw : P.block < wr.heap.size := by omega
    have p0 : wr.cell? P = some (.int .i64 s.node) := by have := h4 0 _ rfl; rw [Bg.add_z] at this; exact (HB.out.cell hab).trans this
    have p1 : wr.cell? ⟨P.block, P.off + 1, none⟩ = some (.int .i64 s.inp) := by have := h4 1 _ rfl; rw [Bg.add_next] at this; exact (HB.out.cell (p := ⟨P.block, P.off + 1, none⟩) hab).trans this
    have p2 : wr.cell? ⟨P.block, P.off + 2, none⟩ = some (.int .i64 s.est) := by have := h4 2 _ rfl; rw [Bg.add_next] at this; exact (HB.out.cell (p := ⟨P.block, P.off + 2, none⟩) hab).trans this
    have p3 : wr.cell? ⟨P.block, P.off + 3, none⟩ = some (.int .i64 s.err) := by have := h4 3 _ rfl; rw [Bg.add_next] at this; exact (HB.out.cell (p := ⟨P.block, P.off + 3, none⟩) hab).trans this
    have HS := Lib.hid hs
    have hwk : IntKind.i64.wrap ((k : Int) + 1) = (k : Int) + 1 := by rw [IntKind.wrap_i64]; omega
    have HKB : Hid (Below w.heap.size w wr) := Lib.hid (HK1.out.trans (HB.out.mono HK1.out.size))
    clear h4 hs
    obtain ⟨node, inp, est, err⟩ := s
    simp only [] at p0 p1 p2 p3
    by_cases he : err = 0
    · subst he
      have HB9 : Hid (n + 1 ≤ maxLen ∧ (n + 1) * 8 ≤ 140737488355328) := Lib.hid (by have h1 := HLn.out; rw [List.length_map, List.length_take] at h1; simp only [maxLen]; omega)
      have HT : Hid ((L.take (k + 1)).map Seat.est = (L.take k).map Seat.est ++ [est]) := Lib.hid (by rw [List.take_add_one, HS.out]; simp)
      have HG2 : Hid (∀ (t : Nat) s, t < k + 1 → L[t]? = some s → s.err = 0) := Lib.hid (by
       intro t s ht hs
       rcases Nat.lt_or_eq_of_le (Nat.lt_succ_iff.1 ht) with h1 | h1
       · exact HG.out t s h1 hs
       · subst h1
         rw [HS.out] at hs
         obtain rfl := Option.some.inj hs
         rfl)
      go_wp2_with (at_builtin; refine wpList_app1H encI_len encI_one (by decide) rfl (.tmp 27) (.tmp 33) 116 2 rfl Tryz.underlying116 i64_inf rfl w1.heap.size ((L.take k).map Seat.est) A n c HLn.out rfl (HO.out.below ((Below.refl _ _).alloc (Nat.le_refl _) _)) P.block (by simp; omega) (own_ne HO.out hab) ⟨wr.heap.size, 0, none⟩ 1 rfl est (fun i u hu => by have h := ((LocX.fresh (enc := encI) wr #[.int .i64 est] 2 est rfl).2 i u hu).1; rw [Addr.add_lit, Nat.zero_add]; exact h) (by simp) HB9.out.1 HB9.out.2 (by simp; omega) ?_; rintro O7 A7 n7 c7 w7 hO7 hn7 hown7 hb7 _ _; have HO7 := Lib.hid hO7; have HN7 := Lib.hid hn7; have HW7 := Lib.hid hown7; have HB7 : Hid (Below w1.heap.size wr w7) := Lib.hid ((Qb : Below w1.heap.size wr _).trans hb7); clear hO7 hn7 hown7 hb7)
      have HT7 : Hid ((L.take (k + 1)).map Seat.est = O7) := Lib.hid (by rw [HT.out, HO7.out])
      go_roundw
      case rel => exact ⟨k + 1, A7, n7, c7, by omega, by go_num, rfl, Lib.hid (by rw [HT7.out]; exact HN7.out), Lib.hid (by rw [HT7.out]; exact HW7.out), HG2, Lib.hid (HB.out.trans HB7.out)⟩
      case measure => simp [intOf]; omega
    · obtain rfl : err = 10 := by
        have := HER.out _ (List.mem_of_getElem? HS.out)
        simp only [] at this
        omega
      have HBD : Hid (badS L = true) := Lib.hid (bad_at HS.out (by simp))
      clear he
      have HB9 := HKB
      go_wp2
      go_ret2
      exact ⟨none, 0, 0, by unfold valE; rw [HBD.out]; rfl, by unfold valL; rw [HBD.out]; rfl, by unfold valL; rw [HBD.out]; exact OwnE.nil _ _ _, HB9.out⟩
end Go.Proofs.YtkfodkbgmpbmfaaGreat
namespace Go.Proofs.YtkfodkbgmpbmfaaGreat
open Go.Proofs.YtkfodkbgmpbmfaaGreat.Rg
open Go.RowKit Go.Shelf
set_option linter.unusedVariables false
set_option linter.unusedSimpArgs false
set_option maxRecDepth 100000
set_option maxHeartbeats 4000000 in
theorem rsquares22_any (x : Wd) (nm : ByteArray) (w : World) (hx : WdOk w x) :
    Calls Tryz.prog 33 #[WdV x, .string nm] w fun e w' => e = .returned (.tuple #[.agg #[.int .u64 (Rg.sqL (valL (seatsB x nm))).hi, .int .u64 (Rg.sqL (valL (seatsB x nm))).lo], .int .i64 (valE (seatsB x nm))]) ∧ Below w.heap.size w w' := by
 have CE := Lib.hid (fun W (hb : Below w.heap.size w W) => rvalues_any x nm W (hx.below hb))
 have HBD := Lib.hid (fun v (h : v ∈ valL (seatsB x nm)) => val_bd h)
 have HLN := Lib.hid (show (valL (seatsB x nm)).length ≤ 16 from by have := val_len x nm; have := hx.fit.n1; omega)
 have HZ : Hid (valE (seatsB x nm) ≠ 0 → Rg.sqL (valL (seatsB x nm)) = ⟨0, 0⟩) := Lib.hid (fun h => by
  have e : valL (seatsB x nm) = [] := by
   unfold valL
   unfold valE at h
   split at h
   · rename_i h1; rw [if_pos h1]
   · split at h
     · rename_i h1 h2; rw [h2] at *; rfl
     · exact absurd rfl h
  rw [e]
  rfl)
 clear hx
 generalize valL (seatsB x nm) = V at CE HBD HLN HZ ⊢
 generalize valE (seatsB x nm) = er at CE HZ ⊢
 have CQ := Lib.hid (fun (A : Option Addr) (n c : Nat) W (hn : V.length = n) (hr : RowsE encI 1 W W.heap.size A n V) => Rg.rsquares_any A n c V W hn (vals_reads hr) (fun v hv => by have := HBD.out v hv; omega) (by have := HLN.out; simp only [maxLen]; omega))
 generalize Rg.sqL V = q at CQ HZ ⊢
 obtain ⟨qh, ql⟩ := q
 obtain ⟨na, nn, nc, ua, un, uc, da, dn, dc, nx, la, ll, lc, sa, sl, sc, lost, nds, ups⟩ := x
 try simp only [] at CE CQ ⊢
 go_enter Tryz.func33, Tryz.ntmps33
 go_wp2_with (fail)
 refine (CE.out _ Qb).mono ?_; rintro e w1 ⟨A, n, c, rfl, hn, hown, hb1⟩
 have hk1 : KeptC w [(⟨w.heap.size + 1, 0, none⟩, .int .u64 0), (⟨w.heap.size + 1, 1, none⟩, .int .u64 0)] [⟨w.heap.size + 1, 0, none⟩, ⟨w.heap.size + 1, 1, none⟩] w1 := by
  refine KeptC.below ?_ hb1
  exact Qk
 simp only [KeptC, List.forall_mem_cons] at hk1; obtain ⟨kb1, ⟨kc1_0, kc1_1, _⟩, ⟨kz1_0, kg1_0⟩, ⟨kz1_1, kg1_1⟩, _⟩ := hk1
 have hz1 : w.heap.size + 1 < w1.heap.size := cell_lt kc1_0
 have HR : Hid (RowsE encI 1 w1 w1.heap.size A n V) := Lib.hid (by
  obtain ⟨A4, c4, e, h⟩ := OwnE.at_ encI_len hown
  injection e with e1 e2 e3
  rw [e1, e2]
  exact h)
 have HN := Lib.hid hn
 clear hb1 CE hown hn
 by_cases he : er = 0
 · subst he
   go_wp2_with (fail)
   refine (CQ.out A n c _ HN.out HR.out).mono ?_; rintro e w2 ⟨rfl, hb2⟩
   have hk2 : KeptC w [(⟨w.heap.size + 1, 0, none⟩, .int .u64 0), (⟨w.heap.size + 1, 1, none⟩, .int .u64 0)] [⟨w.heap.size + 1, 0, none⟩, ⟨w.heap.size + 1, 1, none⟩] w2 := by
    refine KeptC.below ?_ hb2
    exact Qk1 kb1
   simp only [KeptC, List.forall_mem_cons] at hk2; obtain ⟨kb2, ⟨kc2_0, kc2_1, _⟩, ⟨kz2_0, kg2_0⟩, ⟨kz2_1, kg2_1⟩, _⟩ := hk2
   clear hb2
   go_wp2
   refine bodyPost_ret (v := .tuple #[.agg #[.int .u64 qh, .int .u64 ql], .int .i64 0]) (by simp [results, Tryz.results33, go_sem, *]) rfl ⟨rfl, (Qb1 kb2)⟩
 · have q1 : (er != 0) = true := by simpa using he
   have hq := HZ.out he
   injection hq with hq1 hq2
   subst hq1 hq2
   clear he HZ
   go_wp2
   refine bodyPost_ret (v := .tuple #[.agg #[.int .u64 0, .int .u64 0], .int .i64 er]) (by simp [results, Tryz.results33, go_sem, *]) rfl ⟨rfl, (Qb1 kb1)⟩
end Go.Proofs.YtkfodkbgmpbmfaaGreat
namespace Go.Proofs.YtkfodkbgmpbmfaaGreat
open Go.RowKit Go.Shelf
set_option linter.unusedVariables false
set_option linter.unusedSimpArgs false
set_option maxRecDepth 100000
def lowL (V : List Int) : Int := V.foldl min (V.headD 0)
def highL (V : List Int) : Int := V.foldl max (V.headD 0)
theorem fold_next {f : Int → Int → Int} {V : List Int} {k : Nat} {v d : Int} (h : V[k]? = some v) : (V.take (k + 1)).foldl f d = f ((V.take k).foldl f d) v := by
 rw [List.take_add_one, h]
 simp
set_option maxHeartbeats 4000000 in
theorem rspread_any (x : Wd) (nm : ByteArray) (w : World) (hx : WdOk w x) :
    Calls Tryz.prog 31 #[WdV x, .string nm] w fun e w' => e = .returned (.tuple #[.int .i64 (if valE (seatsB x nm) = 0 then lowL (valL (seatsB x nm)) else 0), .int .i64 (if valE (seatsB x nm) = 0 then highL (valL (seatsB x nm)) else 0), .int .i64 (valE (seatsB x nm))]) ∧ Below w.heap.size w w' := by
 have CE := Lib.hid (fun W (hb : Below w.heap.size w W) => rvalues_any x nm W (hx.below hb))
 have HLN := Lib.hid (show (valL (seatsB x nm)).length ≤ 16 from by have := val_len x nm; have := hx.fit.n1; omega)
 have HZ : Hid (valE (seatsB x nm) = 0 → 0 < (valL (seatsB x nm)).length) := Lib.hid (fun h => by
  unfold valE at h
  unfold valL
  split at h
  · cases h
  · rename_i h1
    rw [if_neg h1, List.length_map]
    split at h
    · cases h
    · rename_i h2
      exact List.length_pos_iff.2 h2)
 clear hx
 generalize valL (seatsB x nm) = V at CE HLN HZ ⊢
 generalize valE (seatsB x nm) = er at CE HZ ⊢
 obtain ⟨na, nn, nc, ua, un, uc, da, dn, dc, nx, la, ll, lc, sa, sl, sc, lost, nds, ups⟩ := x
 try simp only [] at CE ⊢
 go_enter Tryz.func31, Tryz.ntmps31
 go_wp2_with (fail)
 refine (CE.out _ Qb).mono ?_; rintro e w1 ⟨A, n, c, rfl, hn, hown, hb1⟩
 have HB : Hid (Below w.heap.size w w1) := Lib.hid (Qb1 hb1)
 have HR : Hid (RowsE encI 1 w1 w1.heap.size A n V) := Lib.hid (by
  obtain ⟨A4, c4, e, h⟩ := OwnE.at_ encI_len hown
  injection e with e1 e2 e3
  rw [e1, e2]
  exact h)
 have HN := Lib.hid hn
 clear hb1 CE hown hn
 by_cases he : er = 0
 rotate_left
 · have q1 : (er != 0) = true := by simpa using he
   have HE := Lib.hid he
   clear he
   go_wp2
   go_ret3
   exact ⟨by first | rfl | (simp [HE.out]; done), HB.out⟩
 subst he
 have hn0 : 0 < n := by have := HZ.out rfl; rw [HN.out] at this; exact this
 have hn16 : n ≤ 16 := by rw [← HN.out]; exact HLN.out
 obtain ⟨ad, v0, rfl, hab, hv0, h4⟩ := HR.out.at hn0
 rw [Nat.zero_mul, Bg.add_z] at h4 hab
 have e0 : w1.cell? ad = some (.int .i64 v0) := by have := h4 0 _ rfl; rwa [Bg.add_z] at this
 have HV0 : Hid (V.headD 0 = v0) := Lib.hid (by cases V with
  | nil => cases hv0
  | cons a rest => exact Option.some.inj hv0)
 clear h4 hv0
 go_wp2
 go_loopw [11, 9, 10] (fun i a b w' => ∃ (k : Nat) (p q : Int), k ≤ n ∧ i = .int .i64 k ∧ a = .int .i64 p ∧ b = .int .i64 q ∧ Hid (p = (V.take k).foldl min v0) ∧ Hid (q = (V.take k).foldl max v0) ∧ w' = w1) (fun i _ _ _ => n - (intOf i).toNat)
 case atStart => exact ⟨0, v0, v0, Nat.zero_le _, rfl, rfl, rfl, Lib.hid rfl, Lib.hid rfl, rfl⟩
 case round =>
  obtain ⟨k, p, q, hk, rfl, rfl, rfl, HP, HQ, rfl⟩ := hrel
  by_cases hlt : k < n
  rotate_left
  · obtain rfl : k = n := by omega
    have ht : V.take k = V := List.take_of_length_le (Nat.le_of_eq HN.out)
    have HP2 : Hid (p = lowL V) := Lib.hid (by unfold lowL; rw [HV0.out, HP.out, ht])
    have HQ2 : Hid (q = highL V) := Lib.hid (by unfold highL; rw [HV0.out, HQ.out, ht])
    clear ht
    go_wp2
    go_ret3
    exact ⟨by first | (rw [if_pos rfl, if_pos rfl, ← HP2.out, ← HQ2.out]; rfl) | (simp [HP2.out, HQ2.out]; done), HB.out⟩
  · obtain ⟨ad2, v, hA2, hab2, hv, h5⟩ := HR.out.at hlt
    obtain rfl := Option.some.inj hA2
    rw [Nat.mul_one] at h5 hab2
    have c0 : wr.cell? (ad.add k) = some (.int .i64 v) := by have := h5 0 _ rfl; rwa [Bg.add_z] at this
    have HV := Lib.hid hv
    have hwk : IntKind.i64.wrap ((k : Int) + 1) = (k : Int) + 1 := by rw [IntKind.wrap_i64]; omega
    clear h5 hv hA2
    go_wp2
    go_roundw
    case rel => exact ⟨k + 1, _, _, by omega, by go_num, rfl, rfl, Lib.hid (by rw [fold_next HV.out, ← HP.out]), Lib.hid (by rw [fold_next HV.out, ← HQ.out]), by first | rfl | trivial⟩
    case measure => simp [intOf]; omega
end Go.Proofs.YtkfodkbgmpbmfaaGreat
namespace Go.Proofs.YtkfodkbgmpbmfaaGreat
open Go.RowKit Go.Shelf
set_option linter.unusedVariables false
set_option linter.unusedSimpArgs false
set_option maxRecDepth 100000
set_option maxHeartbeats 2000000 in
theorem smin_any (A : Option Addr) (n cp : Nat) (V : List Int) (w : World) (hr : RowsE encI 1 w w.heap.size A n V) (h0 : 0 < n) (hm : n ≤ 70368744177664) :
    Calls Tryz.prog 64 #[.slice A n cp] w fun e w' => e = .returned (.int .i64 (V.foldl min (V.headD 0))) ∧ w = w' := by
 have HR := Lib.hid hr
 clear hr
 obtain ⟨ad, v0, rfl, hab, hv0, h4⟩ := HR.out.at h0
 rw [Nat.zero_mul, Bg.add_z] at h4 hab
 have e0 : w.cell? ad = some (.int .i64 v0) := by have := h4 0 _ rfl; rwa [Bg.add_z] at this
 have HV0 : Hid (V.headD 0 = v0) := Lib.hid (by cases V with
  | nil => cases hv0
  | cons a rest => exact Option.some.inj hv0)
 have HW0 : Hid (min v0 v0 = v0) := Lib.hid (by omega)
 have HT0 : Hid ((V.take 1).foldl min v0 = v0) := Lib.hid (by cases V with
  | nil => cases hv0
  | cons a rest => obtain rfl := Option.some.inj hv0; exact HW0.out)
 have HN : Hid (V.length = n) := Lib.hid HR.out.1
 clear h4 hv0
 go_enter Tryz.func64, Tryz.ntmps64
 go_wp2
 go_loopw [4, 3] (fun i a w' => ∃ (k : Nat) (p : Int), 1 ≤ k ∧ k ≤ n ∧ i = .int .i64 k ∧ a = .int .i64 p ∧ Hid (p = (V.take k).foldl min v0) ∧ w' = w) (fun i _ _ => n - (intOf i).toNat)
 case atStart => exact ⟨1, v0, Nat.le_refl _, h0, rfl, rfl, Lib.hid HT0.out.symm, rfl⟩
 case round =>
  obtain ⟨k, p, hk1, hk, rfl, rfl, HP, rfl⟩ := hrel
  by_cases hlt : k < n
  rotate_left
  · obtain rfl : k = n := by omega
    have HP2 : Hid (p = V.foldl min (V.headD 0)) := Lib.hid (by rw [HV0.out, HP.out, List.take_of_length_le (Nat.le_of_eq HN.out)])
    go_wp2
    go_ret
    exact ⟨by first | (rw [HP2.out]; done) | (rw [← HP2.out]; done) | (simp [HP2.out]; done), rfl⟩
  · obtain ⟨ad2, v, hA2, hab2, hv, h5⟩ := HR.out.at hlt
    obtain rfl := Option.some.inj hA2
    rw [Nat.mul_one] at h5 hab2
    have c0 : wr.cell? (ad.add k) = some (.int .i64 v) := by have := h5 0 _ rfl; rwa [Bg.add_z] at this
    have HV := Lib.hid hv
    have hwk : IntKind.i64.wrap ((k : Int) + 1) = (k : Int) + 1 := by rw [IntKind.wrap_i64]; omega
    clear h5 hv hA2
    go_wp2
    go_roundw
    case rel => exact ⟨k + 1, _, by omega, by omega, by go_num, rfl, Lib.hid (by rw [fold_next HV.out, ← HP.out]), by first | rfl | trivial⟩
    case measure => simp [intOf]; omega
set_option maxHeartbeats 2000000 in
theorem smax_any (A : Option Addr) (n cp : Nat) (V : List Int) (w : World) (hr : RowsE encI 1 w w.heap.size A n V) (h0 : 0 < n) (hm : n ≤ 70368744177664) :
    Calls Tryz.prog 65 #[.slice A n cp] w fun e w' => e = .returned (.int .i64 (V.foldl max (V.headD 0))) ∧ w = w' := by
 have HR := Lib.hid hr
 clear hr
 obtain ⟨ad, v0, rfl, hab, hv0, h4⟩ := HR.out.at h0
 rw [Nat.zero_mul, Bg.add_z] at h4 hab
 have e0 : w.cell? ad = some (.int .i64 v0) := by have := h4 0 _ rfl; rwa [Bg.add_z] at this
 have HV0 : Hid (V.headD 0 = v0) := Lib.hid (by cases V with
  | nil => cases hv0
  | cons a rest => exact Option.some.inj hv0)
 have HW0 : Hid (max v0 v0 = v0) := Lib.hid (by omega)
 have HT0 : Hid ((V.take 1).foldl max v0 = v0) := Lib.hid (by cases V with
  | nil => cases hv0
  | cons a rest => obtain rfl := Option.some.inj hv0; exact HW0.out)
 have HN : Hid (V.length = n) := Lib.hid HR.out.1
 clear h4 hv0
 go_enter Tryz.func65, Tryz.ntmps65
 go_wp2
 go_loopw [4, 3] (fun i a w' => ∃ (k : Nat) (p : Int), 1 ≤ k ∧ k ≤ n ∧ i = .int .i64 k ∧ a = .int .i64 p ∧ Hid (p = (V.take k).foldl max v0) ∧ w' = w) (fun i _ _ => n - (intOf i).toNat)
 case atStart => exact ⟨1, v0, Nat.le_refl _, h0, rfl, rfl, Lib.hid HT0.out.symm, rfl⟩
 case round =>
  obtain ⟨k, p, hk1, hk, rfl, rfl, HP, rfl⟩ := hrel
  by_cases hlt : k < n
  rotate_left
  · obtain rfl : k = n := by omega
    have HP2 : Hid (p = V.foldl max (V.headD 0)) := Lib.hid (by rw [HV0.out, HP.out, List.take_of_length_le (Nat.le_of_eq HN.out)])
    go_wp2
    go_ret
    exact ⟨by first | (rw [HP2.out]; done) | (rw [← HP2.out]; done) | (simp [HP2.out]; done), rfl⟩
  · obtain ⟨ad2, v, hA2, hab2, hv, h5⟩ := HR.out.at hlt
    obtain rfl := Option.some.inj hA2
    rw [Nat.mul_one] at h5 hab2
    have c0 : wr.cell? (ad.add k) = some (.int .i64 v) := by have := h5 0 _ rfl; rwa [Bg.add_z] at this
    have HV := Lib.hid hv
    have hwk : IntKind.i64.wrap ((k : Int) + 1) = (k : Int) + 1 := by rw [IntKind.wrap_i64]; omega
    clear h5 hv hA2
    go_wp2
    go_roundw
    case rel => exact ⟨k + 1, _, by omega, by omega, by go_num, rfl, Lib.hid (by rw [fold_next HV.out, ← HP.out]), by first | rfl | trivial⟩
    case measure => simp [intOf]; omega
end Go.Proofs.YtkfodkbgmpbmfaaGreat
