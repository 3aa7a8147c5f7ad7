/- Chapter 22, parts on the way: Yd Ye Yf Yh -/
import Derived.Test.YtkfodkbgmpbmfaaGreatB01
import Derived.Test.YtkfodkbgmpbmfaaGreatB13
import Derived.Test.YtkfodkbgmpbmfaaGreatB20
import Derived.Test.YtkfodkbgmpbmfaaGreatB35
set_option linter.unusedVariables false
set_option linter.unusedSimpArgs false
namespace Go.Proofs.YtkfodkbgmpbmfaaGreat
open Go.RowKit Go.Shelf
set_option linter.unusedVariables false
set_option linter.unusedSimpArgs false
set_option maxRecDepth 100000
theorem wpList_app1H {P : Program} {α : Type} {enc : α → List Value} {k bytes : Nat} (hk : ∀ x, (enc x).length = k) (h1 : ∀ x, ∀ u ∈ enc x, u.oneCell' = true) (hk0 : 0 < k) {ops : Array Oper} {rest : List Oper} {o : Oper} {a : Act} {w : World} {Q : Exit → Act → World → Prop} (hgd : o.guard = none) (s x : Operand) (t e : TypeId)
    (ho : o.op = .call { callee := .builtin .append, args := #[s, x], argTypes := #[t, t] }) (ht : P.underlying t = some (.slice e)) {z : Value} (hi : (P.info? e).map (fun i => (i.zero, i.size, i.bytes)) = some (some z, k, bytes)) (hzs : z.cells.size = k)
    (base : Nat) (OL : List α) (A2 : Option Addr) (n2 cp2 : Nat) (hn2 : OL.length = n2) (hs : a.eval s = .slice A2 n2 cp2) (hown : OwnE enc k e w base (.slice A2 n2 cp2) OL)
    (bx : Nat) (hbx : bx < w.heap.size) (hne : (Value.slice A2 n2 cp2).ownBlock ≠ some bx)
    (g : Addr) (c : Nat) (hx : a.eval x = .slice (some g) 1 c) (y : α) (hr : CellsE enc w g y) (hg : g.block < w.heap.size) (h63 : n2 + 1 ≤ maxLen) (hb : (n2 + 1) * bytes ≤ 140737488355328) (hbase : base ≤ w.heap.size)
    (h : ∀ O3 A3 n3 cp3 w3, O3 = OL ++ [y] → O3.length = n3 → OwnE enc k e w3 base (.slice A3 n3 cp3) O3 → Below base w w3 → w3.heap[bx]? = w.heap[bx]? → (Value.slice A3 n3 cp3).ownBlock ≠ some bx → wpList P ops Q rest (a.put o.dst (.slice A3 n3 cp3)) w3) : wpList P ops Q (o :: rest) a w := by
 obtain ⟨i0, hi0, hz0, hz1, hz2⟩ := info_parts hi
 subst hn2
 have hr2 : Reads w w.heap.size k (some g) 1 (enc y) := ⟨by rw [hk, Nat.one_mul], fun _ => ⟨g, rfl, hg, hr⟩⟩
 refine wpList_append_any w hgd s x t ho base e i0 z k bytes ht hi0 hz0 hz1 hz2 hzs hk0 _ OL.length (flatE enc OL) hs hown w.heap.size (some g) 1 c (enc y) hx hr2 (h1 y) h63 hb hbase ?_
 intro v' w' hown' hg' hat'
 obtain ⟨A3, c3, rfl⟩ := row_slice' hown'
 have hbl := (row_grown hown hg' hbase).1
 have hl : (OL ++ [y]).length = OL.length + 1 := by simp
 refine h (OL ++ [y]) A3 _ c3 w' rfl hl (by unfold OwnE; rw [flatE_snoc, hl]; exact hown') hbl (hg'.block bx hbx (Ne.symm hne)) ?_
 rcases hat' with e2 | e2
 · rw [e2]; exact hne
 · rw [e2]
   intro e3
   have := Option.some.inj e3
   omega
end Go.Proofs.YtkfodkbgmpbmfaaGreat
namespace Go.Proofs.YtkfodkbgmpbmfaaGreat
open Go.RowKit Go.Shelf
set_option linter.unusedVariables false
set_option linter.unusedSimpArgs false
set_option maxRecDepth 100000
set_option maxHeartbeats 4000000 in
theorem nest_any (y : Nd) (nm : ByteArray) (w : World) (hy : NdAt w w.heap.size y) (hm : y.cn ≤ 1000) (hn : y.hn ≤ 16) (hl8 : ∀ h ∈ y.halves, h.lines.length ≤ 8) (hp : ∀ h ∈ y.halves, 0 ≤ h.peer) (hf1 : -4294967296 ≤ ((findS y.chans nm).getD St0).inp) (hf2 : ((findS y.chans nm).getD St0).inp ≤ 4294967296) :
    Calls Tryz.prog 57 #[NdV y, .string nm] w fun e w' => e = .returned (.tuple #[.int .i64 (estB y nm).1, .int .i64 (estB y nm).2]) ∧ Below w.heap.size w w' := by
 have CF := Lib.hid (fun W (hb : Below w.heap.size w W) => nflows_any y nm W ((hy.2.2.2.below hb).more hb.size) hm)
 have ce := (fun W (hb : Below w.heap.size w W) => estimate_any y.id ((findS y.chans nm).getD St0).inp y.ha y.hn y.hc y.halves nm W ((hy.2.2.1.below hb).more hb.size) hn hl8 hf1 hf2)
 unfold estB
 generalize (findS y.chans nm).getD St0 = z at CF ce hf1 hf2 ⊢
 generalize flE y.chans nm = f0 at CF ⊢
 have e1 : tellN (z.inp - sumO (outsN y.id y.halves nm)) = estN y z nm := rfl
 have e2 : tellN (z.inp + (-1) * sumT (fun _ => true) (outsN y.id y.halves nm)) = estN y z nm := by
  rw [sumT_all]
  unfold estN
  congr 1
  omega
 first | rw [e1] at ce | rw [e2] at ce
 generalize estN y z nm = q at ce ⊢
 obtain ⟨qa, qb⟩ := q
 have CE := Lib.hid ce
 clear ce hy hm hn hl8 hp hf1 hf2 e1 e2
 obtain ⟨id, boot, ticks, wa, wn, wc, turn, sa, sn, sc, ha, hn, hc, ca, cn, cc, want, seen, halves, chans⟩ := y
 simp only [] at CF CE ⊢
 go_enter Tryz.func57, Tryz.ntmps57
 go_wp2_with (fail)
 refine (CF.out _ Qb).mono ?_; rintro e w1 ⟨rfl, hb1⟩
 have hk1 : KeptC w [(⟨w.heap.size, 0, none⟩, .int .i64 id), (⟨w.heap.size, 6, none⟩, .slice ha hn hc)] [] w1 := by
  refine KeptC.below ?_ hb1
  exact Qk
 simp only [KeptC, List.forall_mem_cons] at hk1; obtain ⟨kb1, ⟨kc1_0, kc1_1, _⟩, _⟩ := hk1
 have hz1 : w.heap.size < w1.heap.size := cell_lt kc1_0
 clear hb1 CF
 have HLb : Hid (LocE stV (w1.alloc (.cells #[.string ⟨#[]⟩, .int .i64 0, .int .i64 0, .bool false, .int .i64 0, .int .i64 0, .bool false, .int .i64 0, .bool false, .int .i64 0, .int .i64 0, .int .i64 0, .bool false, .int .i64 0, .int .i64 0, .int .i64 0] 96)) w1.heap.size) := Lib.hid (LocE.fresh (enc := stV) w1 #[.string ⟨#[]⟩, .int .i64 0, .int .i64 0, .bool false, .int .i64 0, .int .i64 0, .bool false, .int .i64 0, .bool false, .int .i64 0, .int .i64 0, .int .i64 0, .bool false, .int .i64 0, .int .i64 0, .int .i64 0] 96 St0 rfl)
 have HK2 : Hid (Below w1.heap.size w1 (w1.alloc (.cells #[.string ⟨#[]⟩, .int .i64 0, .int .i64 0, .bool false, .int .i64 0, .int .i64 0, .bool false, .int .i64 0, .bool false, .int .i64 0, .int .i64 0, .int .i64 0, .bool false, .int .i64 0, .int .i64 0, .int .i64 0] 96))) := Lib.hid ((Below.refl _ _).alloc (Nat.le_refl _) _)
 go_upto_region 2 with ((with_reducible show wpList _ _ _ (_ :: _) _ _); refine wpList_store_lay rfl 96 (.tmp 6) (.tmp 12) rfl w1.heap.size 0 (stV z).toArray rfl rfl (HLb.out.there stV_len) (by kernel_rfl) (all_oneCell_toArray (stV_one z)) (fun w' => LocX stV w' w1.heap.size z ∧ Below w1.heap.size w1 w') ⟨HLb.out.layX stV_len z rfl, Below.setCells (Nat.le_refl _) _ _ _ HK2.out⟩ ?_; rintro w2 ⟨hX2, hB2⟩; have HX2 := Lib.hid hX2; have HB2 := Lib.hid hB2; clear hX2 hB2 HLb HK2)
 have k0 := (HB2.out.cell (p := ⟨w.heap.size, 0, none⟩) hz1).trans kc1_0
 have k6 := (HB2.out.cell (p := ⟨w.heap.size, 6, none⟩) hz1).trans kc1_1
 have k7 := (HX2.out.2 7 _ rfl).1
 have kb2 : Below w.heap.size w w2 := kb1.trans (HB2.out.mono kb1.size)
 by_cases hf : f0 = 0
 · subst hf
   go_wp2_with (fail)
   refine (CE.out _ (Qb1 kb2)).mono ?_; rintro e w3 ⟨rfl, hb3⟩
   have kb3 : Below w.heap.size w w3 := kb2.trans (hb3.mono kb2.size)
   clear hb3
   go_wp2
   go_ret2
   exact ⟨by first | rfl | (simp; done), kb3⟩
 · have q1 : (f0 != 0) = true := by simpa using hf
   have HF := Lib.hid hf
   clear hf
   go_wp2
   go_ret2
   exact ⟨by first | rfl | (simp [HF.out]; done), kb2⟩
end Go.Proofs.YtkfodkbgmpbmfaaGreat
namespace Go.Proofs.YtkfodkbgmpbmfaaGreat
open Go.RowKit Go.Shelf
set_option linter.unusedVariables false
set_option linter.unusedSimpArgs false
set_option maxRecDepth 100000
structure EstOk (w : World) (u : Nd) (nm : ByteArray) : Prop where
 nd : NdAt w w.heap.size u
 cn : u.cn ≤ 1000
 hn : u.hn ≤ 16
 l8 : ∀ h ∈ u.halves, h.lines.length ≤ 8
 pr : ∀ h ∈ u.halves, 0 ≤ h.peer
 f1 : -4294967296 ≤ ((findS u.chans nm).getD St0).inp
 f2 : ((findS u.chans nm).getD St0).inp ≤ 4294967296
theorem stOk_inp {s : St} (h : stOk s = true) : -2147483647 ≤ s.inp ∧ s.inp ≤ 2147483647 := by
 unfold stOk stOkB at h
 simp only [Bool.not_eq_true', Bool.or_eq_false_iff, Bool.not_eq_false'] at h
 have := h.2.2.1
 simpa [Rg.flowsB] using this
theorem EstOk.of {w : World} {u : Nd} {k : Nat} (nu : NdAt w w.heap.size u) (fu : FitNd k u) (hc : u.cn ≤ 1000) (nm : ByteArray) : EstOk w u nm := by
 have hb : -2147483647 ≤ ((findS u.chans nm).getD St0).inp ∧ ((findS u.chans nm).getD St0).inp ≤ 2147483647 := by
  cases hf : findS u.chans nm with
  | none => exact ⟨by decide, by decide⟩
  | some s =>
   have h1 := fu.ch
   unfold stsB at h1
   simp only [Bool.and_eq_true, decide_eq_true_eq] at h1
   exact stOk_inp (List.all_eq_true.1 h1.2.2.2 s (List.mem_of_find?_eq_some hf))
 exact ⟨nu, hc, by have h1 := fu.hs.len; have h2 := nu.2.2.1.1.1; omega, fun h hh => (fu.hs.2 h hh).2.1, fun h hh => (fu.hs.2 h hh).1.1, by omega, by omega⟩
theorem estOk_zero (w : World) (nm : ByteArray) : EstOk w Nd0 nm :=
 ⟨⟨rowsE_nil _ _ _, rowsE_nil _ _ _, hfs_nil _ _ _, sts_nil _ _ _⟩, by decide, by decide, fun h hh => (by cases hh), fun h hh => (by cases hh), by show (-4294967296 : Int) ≤ 0; decide, by show (0 : Int) ≤ 4294967296; decide⟩
theorem WdOk.est {w : World} {x : Wd} (h : WdOk w x) (a : Int) (nm : ByteArray) : EstOk w ((upN x a).getD Nd0) nm := by
 have hc := (h.chs a).2
 cases hu : upN x a with
 | none => exact estOk_zero w nm
 | some u =>
  rw [hu] at hc
  obtain ⟨k, _, _, nu, fu⟩ := h.at_ hu
  exact EstOk.of nu fu hc nm
theorem own_ne {α : Type} {enc : α → List Value} {k : Nat} {e : TypeId} {w : World} {base : Nat} {v : Value} {rs : List α} (h : OwnE enc k e w base v rs) {b : Nat} (hb : b < base) : v.ownBlock ≠ some b := by
 intro e2
 rcases h.2 with ⟨rfl, _⟩ | ⟨g, cap, cur, rfl, hg, _⟩
 · simp [Value.ownBlock] at e2
 · have h1 : g = b := by simpa [Value.ownBlock] using e2
   omega
def encSe (x : Seat) : List Value := [.int .i64 x.node, .int .i64 x.inp, .int .i64 x.est, .int .i64 x.err]
theorem encSe_len (x : Seat) : (encSe x).length = 4 := rfl
theorem encSe_one (x : Seat) : ∀ u ∈ encSe x, u.oneCell' = true := by
 intro u hu
 simp only [encSe, List.mem_cons, List.not_mem_nil, or_false] at hu
 rcases hu with rfl | rfl | rfl | rfl <;> rfl
theorem seat_inf : (Tryz.prog.info? 124).map (fun i => (i.zero, i.size, i.bytes)) = some (some (.agg #[.int .i64 0, .int .i64 0, .int .i64 0, .int .i64 0]), 4, 32) := by kernel_rfl
def seatsT (W : Wd) (nm : ByteArray) (k : Nat) : List Seat := (List.range k).filterMap (seatO W nm)
theorem seatsT_next (W : Wd) (nm : ByteArray) (k : Nat) : seatsT W nm (k + 1) = seatsT W nm k ++ (seatO W nm k).toList := by
 unfold seatsT
 rw [List.range_succ, List.filterMap_append]
 cases h : seatO W nm k <;> simp [h]
theorem seatO_eq (W : Wd) (nm : ByteArray) (k : Nat) : seatO W nm k = if flE ((upN W k).getD Nd0).chans nm = 0 then some ⟨k, ((findS ((upN W k).getD Nd0).chans nm).getD St0).inp, (estB ((upN W k).getD Nd0) nm).1, (estB ((upN W k).getD Nd0) nm).2⟩ else none := by
 unfold seatO
 cases hu : upN W k with
 | none =>
  have e : flE (Option.getD (none : Option Nd) Nd0).chans nm = 44 := rfl
  exact (if_neg (by rw [e]; decide)).symm
 | some u =>
  simp only [Option.getD_some]
  unfold estB flE
  cases hf : findS u.chans nm with
  | none => rfl
  | some s =>
   simp only [Option.getD_some]
   cases hk : flowsK s.ch.kd with
   | true => simp
   | false => simp
set_option maxHeartbeats 8000000 in
theorem vseats_any (x : Wd) (nm : ByteArray) (w : World) (hx : WdOk w x) :
    Calls Tryz.prog 35 #[WdV x, .string nm] w fun e w' => ∃ A n c, e = .returned (.slice A n c) ∧ (seatsB x nm).length = n ∧ OwnE encSe 4 124 w' w.heap.size (.slice A n c) (seatsB x nm) ∧ Below w.heap.size w w' := by
 have CU := Lib.hid (fun (a : Int) W (hb : Below w.heap.size w W) => up_any x a W (hx.below hb))
 have HE := Lib.hid (fun (a : Int) W (hb : Below w.heap.size w W) => WdOk.est (hx.below hb) a nm)
 have HL := Lib.hid (show x.nds.length = x.nn ∧ x.nn ≤ 16 from ⟨hx.len.1, by have := hx.len.1; have := hx.fit.n1; omega⟩)
 have HB0 : Hid (seatsB x nm = seatsT x nm x.nn) := Lib.hid (by unfold seatsB seatsT; rw [hx.len.1])
 have HN := Lib.hid (fun k => seatsT_next x nm k)
 have HQ := Lib.hid (fun k => seatO_eq x nm k)
 rw [HB0.out]
 clear hx
 generalize hT : seatsT x nm = T at HN HB0 ⊢
 have HT0 : Hid (T 0 = []) := Lib.hid (by rw [← hT]; rfl)
 clear hT
 generalize hS : seatO x nm = sO at HN HQ
 clear hS HB0
 generalize hU : upN x = U at CU HE HQ
 clear hU
 obtain ⟨na, nn, nc, ua, un, uc, da, dn, dc, nx, la, ll, lc, sa, sl, sc, lost, nds, ups⟩ := x
 simp only [] at CU HL ⊢
 go_enter Tryz.func35, Tryz.ntmps35
 go_wp2
 go_loopw [16, 5] (fun i l w' => ∃ (k : Nat) (A : Option Addr) (n c : Nat), k ≤ nn ∧ i = .int .i64 k ∧ l = .slice A n c ∧ Hid ((T k).length = n) ∧ Hid (n ≤ k) ∧ Hid (OwnE encSe 4 124 w' (w.heap.size + 1) (.slice A n c) (T k)) ∧ KeptC w [(⟨w.heap.size, 0, none⟩, .slice na nn nc), (⟨w.heap.size, 1, none⟩, .slice ua un uc), (⟨w.heap.size, 2, none⟩, .slice da dn dc), (⟨w.heap.size, 3, none⟩, .int .i64 nx), (⟨w.heap.size, 4, none⟩, .slice la ll lc), (⟨w.heap.size, 5, none⟩, .slice sa sl sc), (⟨w.heap.size, 6, none⟩, .int .i64 lost)] [] w') (fun i _ _ => nn - (intOf i).toNat)
 case atStart => exact ⟨0, none, 0, 0, Nat.zero_le _, rfl, rfl, Lib.hid (by rw [HT0.out]; rfl), Lib.hid (Nat.le_refl _), Lib.hid (by rw [HT0.out]; exact OwnE.nil _ _ _), Qk⟩
 case round =>
  obtain ⟨k, A, n, c, hk, rfl, rfl, HLn, HNk, HO, hK⟩ := hrel
  simp only [KeptC, List.forall_mem_cons] at hK; obtain ⟨kb0, ⟨kc0_0, kc0_1, kc0_2, kc0_3, kc0_4, kc0_5, kc0_6, _⟩, _⟩ := hK
  have hs0 := kb0.size
  have hz0 : w.heap.size < wr.heap.size := cell_lt kc0_0
  by_cases hlt : k < nn
  rotate_left
  · obtain rfl : k = nn := by omega
    go_wp2
    go_ret
    exact ⟨A, n, c, rfl, HLn.out, HO.out.less (by omega), kb0⟩
  · obtain ⟨w1, h⟩ : ∃ w1, w1 = wr := ⟨_, rfl⟩
    subst h
    have hwk : IntKind.i64.wrap ((k : Int) + 1) = (k : Int) + 1 := by rw [IntKind.wrap_i64]; have := HL.out.2; omega
    have cu := CU.out (k : Int)
    have he := HE.out (k : Int)
    have hn := HN.out k
    rw [HQ.out k] at hn
    generalize (U (k : Int)).isSome = ok at cu
    generalize (U (k : Int)).getD Nd0 = u at cu he hn
    have CU2 := Lib.hid cu
    have HE2 := Lib.hid he
    have HN2 := Lib.hid hn
    clear cu he hn
    go_wp2_with (fail)
    refine (CU2.out _ (Qb1 kb0)).mono ?_; rintro e w2 ⟨rfl, hb2⟩
    have hk2 : KeptC w [(⟨w.heap.size, 0, none⟩, .slice na nn nc), (⟨w.heap.size, 1, none⟩, .slice ua un uc), (⟨w.heap.size, 2, none⟩, .slice da dn dc), (⟨w.heap.size, 3, none⟩, .int .i64 nx), (⟨w.heap.size, 4, none⟩, .slice la ll lc), (⟨w.heap.size, 5, none⟩, .slice sa sl sc), (⟨w.heap.size, 6, none⟩, .int .i64 lost)] [] w2 := by
     refine KeptC.below ?_ hb2
     exact Qk1 kb0
    simp only [KeptC, List.forall_mem_cons] at hk2; obtain ⟨kb2, ⟨kc2_0, kc2_1, kc2_2, kc2_3, kc2_4, kc2_5, kc2_6, _⟩, _⟩ := hk2
    have hz2 : w.heap.size < w2.heap.size := cell_lt kc2_0
    have HO2 := Lib.hid (HO.out.below hb2)
    have CF := Lib.hid (fun W (hb : Below w.heap.size w W) => sfind_any u.ca u.cn u.cc u.chans nm W (HE2.out W hb).nd.2.2.2 (by have := (HE2.out W hb).cn; omega))
    have CE := Lib.hid (fun W (hb : Below w.heap.size w W) => nest_any u nm W (HE2.out W hb).nd (HE2.out W hb).cn (HE2.out W hb).hn (HE2.out W hb).l8 (HE2.out W hb).pr (HE2.out W hb).f1 (HE2.out W hb).f2)
    clear hb2 HO kb0 hz0 hs0 kc0_0 kc0_1 kc0_2 kc0_3 kc0_4 kc0_5 kc0_6
    go_wp2_with (fail)
    have HFL : Hid (((findS u.chans nm).isSome && flowsK ((findS u.chans nm).getD St0).ch.kd) = decide (flE u.chans nm = 0)) := Lib.hid (by
     unfold flE
     cases hf : findS u.chans nm with
     | none => rfl
     | some s => cases hk : flowsK s.ch.kd <;> simp [hk])
    have cf := CF.out
    have hn := HN2.out
    generalize flE u.chans nm = f0 at HFL hn
    generalize (findS u.chans nm).getD St0 = z at cf HFL hn
    generalize (findS u.chans nm).isSome = ok2 at cf HFL
    generalize hq : estB u nm = q at CE hn
    clear hq
    obtain ⟨qa, qb⟩ := q
    have HN3 := Lib.hid hn
    have CF2 := Lib.hid cf
    clear cf CF hn HN2
    refine (CF2.out _ (Qb1 kb2)).mono ?_; rintro e w3 ⟨rfl, hb3⟩
    have hk3 : KeptC w [(⟨w.heap.size, 0, none⟩, .slice na nn nc), (⟨w.heap.size, 1, none⟩, .slice ua un uc), (⟨w.heap.size, 2, none⟩, .slice da dn dc), (⟨w.heap.size, 3, none⟩, .int .i64 nx), (⟨w.heap.size, 4, none⟩, .slice la ll lc), (⟨w.heap.size, 5, none⟩, .slice sa sl sc), (⟨w.heap.size, 6, none⟩, .int .i64 lost), (⟨w2.heap.size, 0, none⟩, .int .i64 u.id), (⟨w2.heap.size, 1, none⟩, .int .i64 u.boot), (⟨w2.heap.size, 2, none⟩, .int .i64 u.ticks), (⟨w2.heap.size, 3, none⟩, .slice u.wa u.wn u.wc), (⟨w2.heap.size, 4, none⟩, .int .i64 u.turn), (⟨w2.heap.size, 5, none⟩, .slice u.sa u.sn u.sc), (⟨w2.heap.size, 6, none⟩, .slice u.ha u.hn u.hc), (⟨w2.heap.size, 7, none⟩, .slice u.ca u.cn u.cc)] [] w3 := by
     refine KeptC.below ?_ hb3
     exact Qk1 kb2
    simp only [KeptC, List.forall_mem_cons] at hk3; obtain ⟨kb3, ⟨kc3_0, kc3_1, kc3_2, kc3_3, kc3_4, kc3_5, kc3_6, kc3_7, kc3_8, kc3_9, kc3_10, kc3_11, kc3_12, kc3_13, kc3_14, _⟩, _⟩ := hk3
    have hz3 : w.heap.size < w3.heap.size := cell_lt kc3_0
    have hz3b : w2.heap.size < w3.heap.size := cell_lt kc3_7
    have HO3 := Lib.hid ((HO2.out.below ((Below.refl _ _).alloc (Nat.le_refl _) _)).below hb3)
    clear hb3 HO2 CF2 kb2 hz2 kc2_0 kc2_1 kc2_2 kc2_3 kc2_4 kc2_5 kc2_6
    have HLb : Hid (LocE stV (w3.alloc (.cells #[.string ⟨#[]⟩, .int .i64 0, .int .i64 0, .bool false, .int .i64 0, .int .i64 0, .bool false, .int .i64 0, .bool false, .int .i64 0, .int .i64 0, .int .i64 0, .bool false, .int .i64 0, .int .i64 0, .int .i64 0] 96)) w3.heap.size) := Lib.hid (LocE.fresh (enc := stV) w3 #[.string ⟨#[]⟩, .int .i64 0, .int .i64 0, .bool false, .int .i64 0, .int .i64 0, .bool false, .int .i64 0, .bool false, .int .i64 0, .int .i64 0, .int .i64 0, .bool false, .int .i64 0, .int .i64 0, .int .i64 0] 96 St0 rfl)
    have HK2 : Hid (Below w3.heap.size w3 (w3.alloc (.cells #[.string ⟨#[]⟩, .int .i64 0, .int .i64 0, .bool false, .int .i64 0, .int .i64 0, .bool false, .int .i64 0, .bool false, .int .i64 0, .int .i64 0, .int .i64 0, .bool false, .int .i64 0, .int .i64 0, .int .i64 0] 96))) := Lib.hid ((Below.refl _ _).alloc (Nat.le_refl _) _)
    go_upto_region 7 with ((with_reducible show wpList _ _ _ (_ :: _) _ _); refine wpList_store_lay rfl 96 (.tmp 9) (.tmp 30) rfl w3.heap.size 0 (stV z).toArray rfl rfl (HLb.out.there stV_len) (by kernel_rfl) (all_oneCell_toArray (stV_one z)) (fun w' => LocX stV w' w3.heap.size z ∧ Below w3.heap.size w3 w') ⟨HLb.out.layX stV_len z rfl, Below.setCells (Nat.le_refl _) _ _ _ HK2.out⟩ ?_; rintro w4 ⟨hX4, hB4⟩; have HX4 := Lib.hid hX4; have HB4 := Lib.hid hB4; clear hX4 HLb HK2)
    have hk4 : KeptC w [(⟨w.heap.size, 0, none⟩, .slice na nn nc), (⟨w.heap.size, 1, none⟩, .slice ua un uc), (⟨w.heap.size, 2, none⟩, .slice da dn dc), (⟨w.heap.size, 3, none⟩, .int .i64 nx), (⟨w.heap.size, 4, none⟩, .slice la ll lc), (⟨w.heap.size, 5, none⟩, .slice sa sl sc), (⟨w.heap.size, 6, none⟩, .int .i64 lost), (⟨w2.heap.size, 0, none⟩, .int .i64 u.id), (⟨w2.heap.size, 1, none⟩, .int .i64 u.boot), (⟨w2.heap.size, 2, none⟩, .int .i64 u.ticks), (⟨w2.heap.size, 3, none⟩, .slice u.wa u.wn u.wc), (⟨w2.heap.size, 4, none⟩, .int .i64 u.turn), (⟨w2.heap.size, 5, none⟩, .slice u.sa u.sn u.sc), (⟨w2.heap.size, 6, none⟩, .slice u.ha u.hn u.hc), (⟨w2.heap.size, 7, none⟩, .slice u.ca u.cn u.cc)] [] w4 := by
     refine KeptC.below ?_ hB4
     exact Qk1 kb3
    simp only [KeptC, List.forall_mem_cons] at hk4; obtain ⟨kb4, ⟨kc4_0, kc4_1, kc4_2, kc4_3, kc4_4, kc4_5, kc4_6, kc4_7, kc4_8, kc4_9, kc4_10, kc4_11, kc4_12, kc4_13, kc4_14, _⟩, _⟩ := hk4
    have hz4 : w.heap.size < w4.heap.size := cell_lt kc4_0
    have hz4b : w2.heap.size < w4.heap.size := cell_lt kc4_7
    have hz4c : w3.heap.size < w4.heap.size := HX4.out.1
    have HO4 := Lib.hid (HO3.out.below HB4.out)
    clear hB4 kb3 hz3 hz3b HO3 kc3_0 kc3_1 kc3_2 kc3_3 kc3_4 kc3_5 kc3_6 kc3_7 kc3_8 kc3_9 kc3_10 kc3_11 kc3_12 kc3_13 kc3_14
    cases ok2 with
    | false =>
     have HNX : Hid (T (k + 1) = T k) := Lib.hid (by
      have h1 := HFL.out
      have h2 : ¬ f0 = 0 := by simpa using h1
      have h3 := HN3.out
      rw [if_neg h2] at h3
      simpa using h3)
     go_wp2
     go_roundw
     case rel => exact ⟨k + 1, A, n, c, by omega, by go_num, rfl, Lib.hid (by rw [HNX.out]; exact HLn.out), Lib.hid (by have := HNk.out; omega), Lib.hid (by rw [HNX.out]; exact HO4.out), (Qk1 kb4)⟩
     case measure => simp [intOf]; omega
    | true =>
     have z4 := (HX4.out.2 4 _ rfl).1
     have z7 := (HX4.out.2 7 _ rfl).1
     have CK : Hid (∀ W, Calls Tryz.prog 69 #[.int .i64 z.ch.kd] W fun x w' => x = .returned (.bool (flowsK z.ch.kd)) ∧ Below W.heap.size W w') := Lib.hid (fun W => sflows_any z.ch.kd W)
     generalize flowsK z.ch.kd = fk at CK HFL
     go_wp2_with (fail)
     refine (CK.out _).mono ?_; rintro e w5 ⟨rfl, hb5⟩
     have hk5 : KeptC w [(⟨w.heap.size, 0, none⟩, .slice na nn nc), (⟨w.heap.size, 1, none⟩, .slice ua un uc), (⟨w.heap.size, 2, none⟩, .slice da dn dc), (⟨w.heap.size, 3, none⟩, .int .i64 nx), (⟨w.heap.size, 4, none⟩, .slice la ll lc), (⟨w.heap.size, 5, none⟩, .slice sa sl sc), (⟨w.heap.size, 6, none⟩, .int .i64 lost), (⟨w2.heap.size, 0, none⟩, .int .i64 u.id), (⟨w2.heap.size, 1, none⟩, .int .i64 u.boot), (⟨w2.heap.size, 2, none⟩, .int .i64 u.ticks), (⟨w2.heap.size, 3, none⟩, .slice u.wa u.wn u.wc), (⟨w2.heap.size, 4, none⟩, .int .i64 u.turn), (⟨w2.heap.size, 5, none⟩, .slice u.sa u.sn u.sc), (⟨w2.heap.size, 6, none⟩, .slice u.ha u.hn u.hc), (⟨w2.heap.size, 7, none⟩, .slice u.ca u.cn u.cc), (⟨w3.heap.size, 7, none⟩, .int .i64 z.inp)] [] w5 := by
      refine KeptC.below ?_ hb5
      exact Qk1 kb4
     simp only [KeptC, List.forall_mem_cons] at hk5; obtain ⟨kb5, ⟨kc5_0, kc5_1, kc5_2, kc5_3, kc5_4, kc5_5, kc5_6, kc5_7, kc5_8, kc5_9, kc5_10, kc5_11, kc5_12, kc5_13, kc5_14, kc5_15, _⟩, _⟩ := hk5
     have hz5 : w.heap.size < w5.heap.size := cell_lt kc5_0
     have hz5b : w2.heap.size < w5.heap.size := cell_lt kc5_7
     have hz5c : w3.heap.size < w5.heap.size := cell_lt kc5_15
     have HO5 := Lib.hid (HO4.out.below hb5)
     clear hb5 CK z4 z7 kb4 hz4 hz4b hz4c HO4 kc4_0 kc4_1 kc4_2 kc4_3 kc4_4 kc4_5 kc4_6 kc4_7 kc4_8 kc4_9 kc4_10 kc4_11 kc4_12 kc4_13 kc4_14
     cases fk with
     | false =>
      have HNX : Hid (T (k + 1) = T k) := Lib.hid (by
       have h1 := HFL.out
       have h2 : ¬ f0 = 0 := by simpa using h1
       have h3 := HN3.out
       rw [if_neg h2] at h3
       simpa using h3)
      have HO4 := HO5
      go_wp2
      go_roundw
      case rel => exact ⟨k + 1, A, n, c, by omega, by go_num, rfl, Lib.hid (by rw [HNX.out]; exact HLn.out), Lib.hid (by have := HNk.out; omega), Lib.hid (by rw [HNX.out]; exact HO4.out), (Qk1 kb5)⟩
      case measure => simp [intOf]; omega
     | true =>
      have HNX : Hid (T (k + 1) = T k ++ [⟨k, z.inp, qa, qb⟩]) := Lib.hid (by
       have h1 := HFL.out
       have h2 : f0 = 0 := by simpa using h1
       have h3 := HN3.out
       rw [if_pos h2] at h3
       simpa using h3)
      go_wp2_with (fail)
      refine (CE.out _ (Qb1 kb5)).mono ?_; rintro e w6 ⟨rfl, hb6⟩
      have hk6 : KeptC w [(⟨w.heap.size, 0, none⟩, .slice na nn nc), (⟨w.heap.size, 1, none⟩, .slice ua un uc), (⟨w.heap.size, 2, none⟩, .slice da dn dc), (⟨w.heap.size, 3, none⟩, .int .i64 nx), (⟨w.heap.size, 4, none⟩, .slice la ll lc), (⟨w.heap.size, 5, none⟩, .slice sa sl sc), (⟨w.heap.size, 6, none⟩, .int .i64 lost), (⟨w3.heap.size, 7, none⟩, .int .i64 z.inp)] [] w6 := by
       refine KeptC.below ?_ hb6
       exact Qk1 kb5
      simp only [KeptC, List.forall_mem_cons] at hk6; obtain ⟨kb6, ⟨kc6_0, kc6_1, kc6_2, kc6_3, kc6_4, kc6_5, kc6_6, kc6_7, _⟩, _⟩ := hk6
      have hz6 : w.heap.size < w6.heap.size := cell_lt kc6_0
      have HO6 := Lib.hid (HO5.out.below hb6)
      clear hb6 CE kb5 hz5 hz5b hz5c HO5 kc5_0 kc5_1 kc5_2 kc5_3 kc5_4 kc5_5 kc5_6 kc5_7 kc5_8 kc5_9 kc5_10 kc5_11 kc5_12 kc5_13 kc5_14 kc5_15
      have HB9 : Hid (n + 1 ≤ maxLen ∧ (n + 1) * 32 ≤ 140737488355328) := Lib.hid (by have h1 := HNk.out; have h2 := HL.out.2; simp only [maxLen]; omega)
      go_wp2_with (at_builtin; refine wpList_app1H encSe_len encSe_one (by decide) rfl (.tmp 47) (.tmp 54) 74 124 rfl Tryz.underlying74 seat_inf rfl (w.heap.size + 1) (T k) A n c HLn.out rfl (HO6.out.below ((Below.refl _ _).alloc (Nat.le_refl _) _)) w.heap.size (by simp; omega) (own_ne HO6.out (by omega)) ⟨w6.heap.size, 0, none⟩ 1 rfl ⟨k, z.inp, qa, qb⟩ (fun i u hu => by have h := ((LocX.fresh (enc := encSe) w6 #[.int .i64 k, .int .i64 z.inp, .int .i64 qa, .int .i64 qb] 124 ⟨k, z.inp, qa, qb⟩ rfl).2 i u hu).1; rw [Addr.add_lit, Nat.zero_add]; exact h) (by simp) HB9.out.1 HB9.out.2 (by simp; omega) ?_; rintro O7 A7 n7 c7 w7 hO7 hn7 hown7 hb7 _ _; have HO7 := Lib.hid hO7; have HN7 := Lib.hid hn7; have HW7 := Lib.hid hown7; have HB7 : Hid (Below (w.heap.size + 1) w6 w7) := Lib.hid ((Qb : Below (w.heap.size + 1) w6 _).trans hb7); clear hO7 hn7 hown7 hb7)
      have HT7 : Hid (T (k + 1) = O7) := Lib.hid (by rw [HNX.out, HO7.out])
      have kb7 : Below w.heap.size w w7 := kb6.trans (HB7.out.mono (by omega))
      have d0 := (HB7.out.cell (p := ⟨w.heap.size, 0, none⟩) (Nat.lt_succ_self _)).trans kc6_0
      have d1 := (HB7.out.cell (p := ⟨w.heap.size, 1, none⟩) (Nat.lt_succ_self _)).trans kc6_1
      have d2 := (HB7.out.cell (p := ⟨w.heap.size, 2, none⟩) (Nat.lt_succ_self _)).trans kc6_2
      have d3 := (HB7.out.cell (p := ⟨w.heap.size, 3, none⟩) (Nat.lt_succ_self _)).trans kc6_3
      have d4 := (HB7.out.cell (p := ⟨w.heap.size, 4, none⟩) (Nat.lt_succ_self _)).trans kc6_4
      have d5 := (HB7.out.cell (p := ⟨w.heap.size, 5, none⟩) (Nat.lt_succ_self _)).trans kc6_5
      have d6 := (HB7.out.cell (p := ⟨w.heap.size, 6, none⟩) (Nat.lt_succ_self _)).trans kc6_6
      have HN8 : Hid (n7 ≤ k + 1) := Lib.hid (by have h1 := HN7.out; rw [HO7.out] at h1; simp at h1; have h2 := HLn.out; have h3 := HNk.out; omega)
      go_roundw
      case rel => exact ⟨k + 1, A7, n7, c7, by omega, by go_num, rfl, Lib.hid (by rw [HT7.out]; exact HN7.out), HN8, Lib.hid (by rw [HT7.out]; exact HW7.out), (Qk1 kb7)⟩
      case measure => simp [intOf]; omega
end Go.Proofs.YtkfodkbgmpbmfaaGreat
namespace Go.Proofs.YtkfodkbgmpbmfaaGreat
open Go.RowKit Go.Shelf
set_option linter.unusedVariables false
set_option linter.unusedSimpArgs false
set_option maxRecDepth 100000
def EvI (x : Wd) (nm : ByteArray) (k : Nat) (F : Int) : Prop :=
 (F = -1 ∧ ∀ t : Nat, t < k → (upN x t).isSome = false) ∨ ∃ f : Nat, F = f ∧ f < k ∧ (upN x f).isSome = true ∧ (∀ t : Nat, t < f → (upN x t).isSome = false) ∧ ∀ t : Nat, t < k → (upN x t).isSome = true → bothB x f t nm = true
theorem evI_zero (x : Wd) (nm : ByteArray) : EvI x nm 0 (-1) := .inl ⟨rfl, fun t h => absurd h (by omega)⟩
theorem evI_skip {x : Wd} {nm : ByteArray} {k : Nat} {F : Int} (h : EvI x nm k F) (hu : (upN x k).isSome = false) : EvI x nm (k + 1) F := by
 rcases h with ⟨h1, h2⟩ | ⟨f, h1, h2, h3, h4, h5⟩
 · exact .inl ⟨h1, fun t ht => by rcases Nat.lt_or_eq_of_le (Nat.lt_succ_iff.1 ht) with h | h; exact h2 t h; subst h; exact hu⟩
 · exact .inr ⟨f, h1, by omega, h3, h4, fun t ht hs => by rcases Nat.lt_or_eq_of_le (Nat.lt_succ_iff.1 ht) with h | h; exact h5 t h hs; subst h; rw [hu] at hs; cases hs⟩
theorem evI_next {x : Wd} {nm : ByteArray} {k : Nat} {F : Int} (h : EvI x nm k F) (hu : (upN x k).isSome = true) (hb : bothB x (if F < 0 then k else F) k nm = true) : EvI x nm (k + 1) (if F < 0 then k else F) := by
 rcases h with ⟨h1, h2⟩ | ⟨f, h1, h2, h3, h4, h5⟩
 · rw [if_pos (by omega)] at hb ⊢
   exact .inr ⟨k, rfl, by omega, hu, h2, fun t ht hs => by rcases Nat.lt_or_eq_of_le (Nat.lt_succ_iff.1 ht) with h | h; rw [h2 t h] at hs; cases hs; subst h; exact hb⟩
 · rw [if_neg (by omega)] at hb ⊢
   subst h1
   exact .inr ⟨f, rfl, by omega, h3, h4, fun t ht hs => by rcases Nat.lt_or_eq_of_le (Nat.lt_succ_iff.1 ht) with h | h; exact h5 t h hs; subst h; exact hb⟩
theorem evI_end {x : Wd} {nm : ByteArray} {F : Int} (h : EvI x nm x.nds.length F) : everyB x nm = decide (0 ≤ F) := by
 unfold everyB firstUp
 rcases h with ⟨h1, h2⟩ | ⟨f, h1, h2, h3, h4, h5⟩
 · have e : (List.range x.nds.length).find? (fun a : Nat => (upN x a).isSome) = none := by
     rw [List.find?_eq_none]
     intro t ht
     rw [h2 t (List.mem_range.1 ht)]
     decide
   rw [e, decide_eq_false (by omega)]
 · have e : (List.range x.nds.length).find? (fun a : Nat => (upN x a).isSome) = some f := by
     rw [List.find?_range_eq_some]
     exact ⟨h3, List.mem_range.2 h2, fun t ht => by simp [h4 t ht]⟩
   rw [e, decide_eq_true (by omega)]
   simp only [List.all_eq_true, List.mem_range]
   intro t ht
   cases hs : (upN x t).isSome with
   | false => rfl
   | true => simp [h5 t ht hs]
theorem evI_fail {x : Wd} {nm : ByteArray} {k : Nat} {F : Int} (h : EvI x nm k F) (hk : k < x.nds.length) (hu : (upN x k).isSome = true) (hb : bothB x (if F < 0 then k else F) k nm = false) : everyB x nm = false := by
 unfold everyB firstUp
 rcases h with ⟨h1, h2⟩ | ⟨f, h1, h2, h3, h4, h5⟩
 · rw [if_pos (by omega)] at hb
   have e : (List.range x.nds.length).find? (fun a : Nat => (upN x a).isSome) = some k := by
    rw [List.find?_range_eq_some]
    exact ⟨hu, List.mem_range.2 hk, fun t ht => by simp [h2 t ht]⟩
   rw [e]
   simp only [List.all_eq_false, List.mem_range]
   exact ⟨k, hk, by simp [hu, hb]⟩
 · rw [if_neg (by omega)] at hb
   subst h1
   have e : (List.range x.nds.length).find? (fun a : Nat => (upN x a).isSome) = some f := by
    rw [List.find?_range_eq_some]
    exact ⟨h3, List.mem_range.2 (by omega), fun t ht => by simp [h4 t ht]⟩
   rw [e]
   simp only [List.all_eq_false, List.mem_range]
   exact ⟨k, hk, by simp [hu, hb]⟩
set_option maxHeartbeats 8000000 in
theorem vevery_any (x : Wd) (nm : ByteArray) (w : World) (hx : WdOk w x) :
    Calls Tryz.prog 37 #[WdV x, .string nm] w fun e w' => e = .returned (.bool (everyB x nm)) ∧ Below w.heap.size w w' := by
 have CB := Lib.hid (fun (a b : Int) W (hb : Below w.heap.size w W) => both_any x a b nm W (hx.below hb))
 have CU := Lib.hid (fun (a : Int) W (hb : Below w.heap.size w W) => up_any x a W (hx.below hb))
 have HL := Lib.hid (show x.nds.length = x.nn ∧ x.nn ≤ 16 from ⟨hx.len.1, by have := hx.len.1; have := hx.fit.n1; omega⟩)
 have HND := Lib.hid (fun k (hk : k < x.nn) => hx.nd hk)
 have HUP := Lib.hid (fun k (hk : k < x.nn) => hx.up hk)
 have HUN := Lib.hid hx.len.2
 have H0 := Lib.hid (evI_zero x nm)
 have HS := Lib.hid (fun (k : Nat) (F : Int) (h : EvI x nm k F) => evI_skip h)
 have HN := Lib.hid (fun (k : Nat) (F : Int) (h : EvI x nm k F) => evI_next h)
 have HF := Lib.hid (fun (k : Nat) (F : Int) (h : EvI x nm k F) => evI_fail h)
 have HE := Lib.hid (fun (F : Int) (h : EvI x nm x.nn F) => evI_end (by rw [HL.out.1]; exact h))
 have HUA := Lib.hid (fun (k : Nat) (b : Bool) (y : Nd) (hk : k < x.nds.length) (hb : x.ups[k]? = some b) (hy : x.nds[k]? = some y) => upN_at hk hb hy)
 clear hx
 generalize hv : EvI x nm = V at H0 HS HN HF HE
 clear hv
 generalize hb : bothB x = BB at CB HN HF
 clear hb
 generalize everyB x nm = R at HF HE ⊢
 generalize hu : upN x = U at CU HS HN HF HUA
 clear hu
 obtain ⟨na, nn, nc, ua, un, uc, da, dn, dc, nx, la, ll, lc, sa, sl, sc, lost, nds, ups⟩ := x
 simp only [] at CB CU HL HND HUP HE HF HUA HUN ⊢
 go_enter Tryz.func37, Tryz.ntmps37
 go_wp2
 go_loopw [12, 5] (fun i f w' => ∃ (k : Nat) (F : Int), k ≤ nn ∧ i = .int .i64 k ∧ f = .int .i64 F ∧ Hid (V k F) ∧ KeptC w [(⟨w.heap.size, 0, none⟩, .slice na nn nc), (⟨w.heap.size, 1, none⟩, .slice ua un uc), (⟨w.heap.size, 2, none⟩, .slice da dn dc), (⟨w.heap.size, 3, none⟩, .int .i64 nx), (⟨w.heap.size, 4, none⟩, .slice la ll lc), (⟨w.heap.size, 5, none⟩, .slice sa sl sc), (⟨w.heap.size, 6, none⟩, .int .i64 lost)] [] w') (fun i _ _ => nn - (intOf i).toNat)
 case atStart => exact ⟨0, -1, Nat.zero_le _, rfl, rfl, H0, Qk⟩
 case round =>
  obtain ⟨k, F, hk, rfl, rfl, HV, hK⟩ := hrel
  simp only [KeptC, List.forall_mem_cons] at hK; obtain ⟨kb0, ⟨kc0_0, kc0_1, kc0_2, kc0_3, kc0_4, kc0_5, kc0_6, _⟩, _⟩ := hK
  have hs0 := kb0.size
  have hz0 : w.heap.size < wr.heap.size := cell_lt kc0_0
  by_cases hlt : k < nn
  rotate_left
  · obtain rfl : k = nn := by omega
    have HR : Hid (R = decide (0 ≤ F)) := Lib.hid (HE.out F HV.out)
    go_wp2
    go_ret
    exact ⟨by rw [HR.out]; rfl, kb0⟩
  · obtain ⟨w1, h⟩ : ∃ w1, w1 = wr := ⟨_, rfl⟩
    subst h
    have hwk : IntKind.i64.wrap ((k : Int) + 1) = (k : Int) + 1 := by rw [IntKind.wrap_i64]; have := HL.out.2; omega
    have cu := CU.out (k : Int)
    obtain ⟨ok, hus⟩ : ∃ b, (U (k : Int)).isSome = b := ⟨_, rfl⟩
    rw [hus] at cu
    generalize (U (k : Int)).getD Nd0 = u at cu
    have CU2 := Lib.hid cu
    clear cu
    go_wp2_with (fail)
    refine (CU2.out _ (Qb1 kb0)).mono ?_; rintro e w2 ⟨rfl, hb2⟩
    have hk2 : KeptC w [(⟨w.heap.size, 0, none⟩, .slice na nn nc), (⟨w.heap.size, 1, none⟩, .slice ua un uc), (⟨w.heap.size, 2, none⟩, .slice da dn dc), (⟨w.heap.size, 3, none⟩, .int .i64 nx), (⟨w.heap.size, 4, none⟩, .slice la ll lc), (⟨w.heap.size, 5, none⟩, .slice sa sl sc), (⟨w.heap.size, 6, none⟩, .int .i64 lost)] [] w2 := by
     refine KeptC.below ?_ hb2
     exact Qk1 kb0
    simp only [KeptC, List.forall_mem_cons] at hk2; obtain ⟨kb2, ⟨kc2_0, kc2_1, kc2_2, kc2_3, kc2_4, kc2_5, kc2_6, _⟩, _⟩ := hk2
    have hz2 : w.heap.size < w2.heap.size := cell_lt kc2_0
    clear hb2 kb0 hz0 hs0 kc0_0 kc0_1 kc0_2 kc0_3 kc0_4 kc0_5 kc0_6
    cases ok with
    | false =>
     have HV2 := Lib.hid (HS.out k F HV.out hus)
     clear hus
     go_wp2
     go_roundw
     case rel => exact ⟨k + 1, F, by omega, by go_num, rfl, HV2, (Qk1 kb2)⟩
     case measure => simp [intOf]; omega
    | true =>
     obtain ⟨F2, hF2⟩ : ∃ F2, (if F < 0 then (k : Int) else F) = F2 := ⟨_, rfl⟩
     have cb := CB.out F2 (k : Int)
     have HN2 := Lib.hid (HN.out k F HV.out hus)
     have HF2 := Lib.hid (HF.out k F HV.out (by rw [HL.out.1]; exact hlt) hus)
     rw [hF2] at HN2 HF2
     obtain ⟨b3, hb3'⟩ : ∃ b, BB F2 (k : Int) nm = b := ⟨_, rfl⟩
     rw [hb3'] at cb HN2 HF2
     have CB2 := Lib.hid cb
     clear cb hus hb3'
     by_cases hneg : F < 0
     · rw [if_pos hneg] at hF2
       subst hF2
       go_wp2_with (fail)
       refine (CB2.out _ (Qb1 kb2)).mono ?_; rintro e w3 ⟨rfl, hb3⟩
       have hk3 : KeptC w [(⟨w.heap.size, 0, none⟩, .slice na nn nc), (⟨w.heap.size, 1, none⟩, .slice ua un uc), (⟨w.heap.size, 2, none⟩, .slice da dn dc), (⟨w.heap.size, 3, none⟩, .int .i64 nx), (⟨w.heap.size, 4, none⟩, .slice la ll lc), (⟨w.heap.size, 5, none⟩, .slice sa sl sc), (⟨w.heap.size, 6, none⟩, .int .i64 lost)] [] w3 := by
        refine KeptC.below ?_ hb3
        exact Qk1 kb2
       simp only [KeptC, List.forall_mem_cons] at hk3; obtain ⟨kb3, ⟨kc3_0, kc3_1, kc3_2, kc3_3, kc3_4, kc3_5, kc3_6, _⟩, _⟩ := hk3
       clear hb3
       cases b3 with
       | false =>
        have HR : Hid (R = false) := Lib.hid (HF2.out rfl)
        go_wp2
        go_ret
        exact ⟨by rw [HR.out]; rfl, kb3⟩
       | true =>
        have HV2 := Lib.hid (HN2.out rfl)
        go_wp2
        go_roundw
        case rel => exact ⟨k + 1, _, by omega, by go_num, rfl, HV2, (Qk1 kb3)⟩
        case measure => simp [intOf]; omega
     · rw [if_neg hneg] at hF2
       subst hF2
       go_wp2_with (fail)
       refine (CB2.out _ (Qb1 kb2)).mono ?_; rintro e w3 ⟨rfl, hb3⟩
       have hk3 : KeptC w [(⟨w.heap.size, 0, none⟩, .slice na nn nc), (⟨w.heap.size, 1, none⟩, .slice ua un uc), (⟨w.heap.size, 2, none⟩, .slice da dn dc), (⟨w.heap.size, 3, none⟩, .int .i64 nx), (⟨w.heap.size, 4, none⟩, .slice la ll lc), (⟨w.heap.size, 5, none⟩, .slice sa sl sc), (⟨w.heap.size, 6, none⟩, .int .i64 lost)] [] w3 := by
        refine KeptC.below ?_ hb3
        exact Qk1 kb2
       simp only [KeptC, List.forall_mem_cons] at hk3; obtain ⟨kb3, ⟨kc3_0, kc3_1, kc3_2, kc3_3, kc3_4, kc3_5, kc3_6, _⟩, _⟩ := hk3
       clear hb3
       cases b3 with
       | false =>
        have HR : Hid (R = false) := Lib.hid (HF2.out rfl)
        go_wp2
        go_ret
        exact ⟨by rw [HR.out]; rfl, kb3⟩
       | true =>
        have HV2 := Lib.hid (HN2.out rfl)
        go_wp2
        go_roundw
        case rel => exact ⟨k + 1, _, by omega, by go_num, rfl, HV2, (Qk1 kb3)⟩
        case measure => simp [intOf]; omega
end Go.Proofs.YtkfodkbgmpbmfaaGreat
