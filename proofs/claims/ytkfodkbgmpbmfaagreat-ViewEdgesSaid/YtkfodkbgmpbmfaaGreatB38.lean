/- Chapter 22, parts on the way: Yp Srw Yt Opv -/
import Derived.Shelf.SlGeneric
import Derived.Ground.SlgmProg
import Derived.Shelf.SortM.Plain
import Derived.Test.YtkfodkbgmpbmfaaGreatProg
import Derived.Deep.OwnRows
import Derived.Sort.OwnSortedInts
import Derived.Test.YtkfodkbgmpbmfaaGreatB01
import Derived.Test.YtkfodkbgmpbmfaaGreatB20
import Derived.Test.YtkfodkbgmpbmfaaGreatB34
import Derived.Test.YtkfodkbgmpbmfaaGreatB37
set_option linter.unusedVariables false
set_option linter.unusedSimpArgs false
namespace Go.Proofs.YtkfodkbgmpbmfaaGreat
open Go.RowKit Go.Shelf
set_option linter.unusedVariables false
set_option linter.unusedSimpArgs false
set_option maxRecDepth 100000
theorem closed_no {x : Wd} {set : List Int} {nm : ByteArray} {k : Nat} (hk : k < set.length) (h : closeB x nm set k = false) : closedB x set nm = false := by
 unfold closedB
 rw [List.all_eq_false]
 exact ⟨k, List.mem_range.2 hk, by rw [h]; decide⟩
theorem closed_yes {x : Wd} {set : List Int} {nm : ByteArray} (h : ∀ t, t < set.length → closeB x nm set t = true) : closedB x set nm = true := by
 unfold closedB
 rw [List.all_eq_true]
 exact fun t ht => h t (List.mem_range.1 ht)
theorem closeB_at {x : Wd} {set : List Int} {nm : ByteArray} {k : Nat} {a : Int} (h : set[k]? = some a) : closeB x nm set k = (!(set.take k).contains a && (bothB x (set.headD 0) a nm && ((upN x a).getD Nd0).halves.all fun h => set.contains h.peer && agreedB x a h.peer nm)) := by
 unfold closeB
 rw [h]
theorem WdOk.both_at {w : World} {x : Wd} (h : WdOk w x) {a b : Int} {nm : ByteArray} (e : bothB x a b nm = true) : ∃ (i : Nat) (ad : Addr) (y : Nd), b = i ∧ i < x.nn ∧ x.na = some ad ∧ (ad.add (i * 8)).block < w.heap.size ∧ nd8 w (ad.add (i * 8)) y ∧ HfsAt w w.heap.size y.ha y.hn y.halves ∧ y.hn ≤ 16 ∧ upN x b = some y := by
 cases hu : upN x b with
 | none =>
  unfold bothB instS at e
  rw [hu] at e
  simp only [Option.bind_none] at e
  split at e
  · rename_i h1 h2; cases h2
  · cases e
 | some y =>
  obtain ⟨i, hb, hi, hy, _⟩ := upN_some hu
  have hin : i < x.nn := by have := h.len.1; omega
  obtain ⟨ad, y2, hA, hab, hy2, h8, hnd⟩ := h.nd hin
  obtain rfl := Option.some.inj (hy.symm.trans hy2)
  have fu := h.fit.nd i y hy
  exact ⟨i, ad, y, hb, hin, hA, hab, h8, hnd.2.2.1, by have h1 := fu.hs.len; have h2 := hnd.2.2.1.1.1; omega, rfl⟩
theorem headD_at {l : List Int} {v : Int} (h : l[0]? = some v) : l.headD 0 = v := by
 cases l with
 | nil => cases h
 | cons a l => exact Option.some.inj h
set_option maxHeartbeats 8000000 in
theorem vclosed_any (x : Wd) (nm : ByteArray) (A : Option Addr) (n c : Nat) (set : List Int) (w : World) (hx : WdOk w x) (hs : RowsE encI 1 w w.heap.size A n set) (hnc : n ≤ c) (hm : n ≤ 70368744177664) :
    Calls Tryz.prog 23 #[WdV x, .slice A n c, .string nm] w fun e w' => e = .returned (.bool (closedB x set nm)) ∧ Below w.heap.size w w' := by
 have CB := Lib.hid (fun (a b : Int) W (hb : Below w.heap.size w W) => both_any x a b nm W (hx.below hb))
 have CG := Lib.hid (fun (a b : Int) W (hb : Below w.heap.size w W) => agreed_any x a b nm W (hx.below hb))
 have CC := Lib.hid (fun (v : Int) W (hb : Below w.heap.size w W) => scont_anyB A n c set v W ((hs.below hb).more hb.size) hm)
 have CK := Lib.hid (fun (k : Nat) (hk : k ≤ n) (v : Int) W (hb : Below w.heap.size w W) => scont_anyB A k c (set.take k) v W (((hs.take hk).below hb).more hb.size) (by omega))
 have HBU := Lib.hid (fun (a b : Int) (e : bothB x a b nm = true) => hx.both_at e)
 have HS := Lib.hid hs
 have HLS : Hid (set.length = n) := Lib.hid hs.1
 have HNO := Lib.hid (fun k (hk : k < set.length) (h : closeB x nm set k = false) => closed_no hk h)
 have HYES := Lib.hid (fun (h : ∀ t, t < set.length → closeB x nm set t = true) => closed_yes h)
 have HCL := Lib.hid (fun k a (h : set[k]? = some a) => closeB_at (x := x) (nm := nm) h)
 clear hx hs
 generalize closedB x set nm = r at HNO HYES ⊢
 generalize closeB x nm set = cl at HNO HYES HCL
 generalize bothB x = bo at CB HBU HCL
 generalize agreedB x = ag at CG HCL
 generalize upN x = U at HBU HCL
 obtain ⟨na, nn, nc, ua, un, uc, da, dn, dc, nx, la, ll, lc, sa, sl, sc, lost, nds, ups⟩ := x
 simp only [] at HBU ⊢
 go_enter Tryz.func23, Tryz.ntmps23
 go_wp2
 go_loopw [13] (fun i w' => ∃ (k : Nat), k ≤ n ∧ i = .int .i64 k ∧ Hid (∀ t, t < k → cl t = true) ∧ KeptC w [(⟨w.heap.size, 0, none⟩, .slice na nn nc), (⟨w.heap.size, 1, none⟩, .slice ua un uc), (⟨w.heap.size, 2, none⟩, .slice da dn dc), (⟨w.heap.size, 3, none⟩, .int .i64 nx), (⟨w.heap.size, 4, none⟩, .slice la ll lc), (⟨w.heap.size, 5, none⟩, .slice sa sl sc), (⟨w.heap.size, 6, none⟩, .int .i64 lost)] [] w') (fun i _ => n - (intOf i).toNat)
 case atStart => exact ⟨0, Nat.zero_le _, rfl, Lib.hid (fun t h => absurd h (by omega)), Qk⟩
 case round =>
  obtain ⟨k, hk, rfl, HA, hK⟩ := hrel
  simp only [KeptC, List.forall_mem_cons] at hK; obtain ⟨kb0, ⟨kc0_0, kc0_1, kc0_2, kc0_3, kc0_4, kc0_5, kc0_6, _⟩, _⟩ := hK
  have hs0 := kb0.size
  have hz0 : w.heap.size < wr.heap.size := cell_lt kc0_0
  by_cases hlt : k < n
  rotate_left
  · obtain rfl : k = n := by omega
    have HC : Hid (r = true) := Lib.hid (HYES.out (by rw [HLS.out]; exact HA.out))
    go_wp2
    go_ret
    exact ⟨by rw [HC.out]; rfl, kb0⟩
  · obtain ⟨ad, a, rfl, hab, ha, h4⟩ := HS.out.at hlt
    rw [Nat.mul_one] at h4 hab
    have c0 : wr.cell? (ad.add k) = some (.int .i64 a) := by have := h4 0 _ rfl; rw [Bg.add_z] at this; exact (kb0.cell hab).trans this
    obtain ⟨ad1, s0, hA1, hab1, hs1, h5⟩ := HS.out.at (show 0 < n by omega)
    obtain rfl := Option.some.inj hA1
    rw [Nat.zero_mul, Bg.add_z] at h5 hab1
    have d0 : wr.cell? ad = some (.int .i64 s0) := by have := h5 0 _ rfl; rw [Bg.add_z] at this; exact (kb0.cell hab1).trans this
    have hcl := HCL.out k a ha
    rw [headD_at hs1] at hcl
    have HKL : Hid (k < set.length) := Lib.hid (by rw [HLS.out]; exact hlt)
    have hwk : IntKind.i64.wrap ((k : Int) + 1) = (k : Int) + 1 := by rw [IntKind.wrap_i64]; omega
    have hkc : (k : Int) ≤ c := by omega
    have hkn : (k : Int) ≤ n := by omega
    have h0n : 0 < n := by omega
    have HCL2 := Lib.hid hcl
    have CK2 := Lib.hid (CK.out k hk a)
    have CB2 := Lib.hid (CB.out s0 a)
    have HBU2 := Lib.hid (HBU.out s0 a)
    clear h4 h5 hA1 hs1 ha hcl
    obtain ⟨w1, h⟩ : ∃ w1, w1 = wr := ⟨_, rfl⟩
    subst h
    cases hp : (set.take k).contains a with
    | true =>
     have ck := CK2.out
     rw [hp] at ck
     have CK3 := Lib.hid ck
     have HR : Hid (r = false) := Lib.hid (HNO.out k HKL.out (by rw [HCL2.out, hp]; rfl))
     clear ck hp CK2 CB2 HBU2
     go_wp2_with (fail)
     refine wp_region_quietC_lit (KeptC w [(⟨w.heap.size, 0, none⟩, .slice na nn nc), (⟨w.heap.size, 1, none⟩, .slice ua un uc), (⟨w.heap.size, 2, none⟩, .slice da dn dc), (⟨w.heap.size, 3, none⟩, .int .i64 nx), (⟨w.heap.size, 4, none⟩, .slice la ll lc), (⟨w.heap.size, 5, none⟩, .slice sa sl sc), (⟨w.heap.size, 6, none⟩, .int .i64 lost), (ad, .int .i64 s0), (ad.add k, .int .i64 a)] []) (by kernel_rfl) (by kernel_rfl) ?_ ?_
     · refine KeptC.drewn ?_
       exact Qk1 kb0
     repeat (first
      | go_big_quiet_skip
      | (go_big_quiet_want; (apply quietC_run); (· intro w' hw'; (have hk' := hw'; simp only [KeptC, List.forall_mem_cons] at hk'; go_split_ands); go_simp; first | done | rfl); (simp only [Act.put, List.setIfInBounds_toArray, List.set_cons_zero, List.set_cons_succ]; go_big_quiet_on))
      | (go_big_quiet_want; (apply quietC_call); (· intro w' hw'; go_simp; first | done | exact ⟨rfl, rfl⟩ | rfl); (· intro w' hw'; first | ((with_reducible refine (CK3.out _ hw'.lowV).mono ?_); rintro e w2 ⟨rfl, hb⟩; exact ⟨rfl, hw'.below hb⟩)); (simp only [Act.put, List.setIfInBounds_toArray, List.set_cons_zero, List.set_cons_succ]; go_big_quiet_on)))
     refine wpQuiet_nil ?_
     intro w9 hk9
     (have hk' := hk9; simp only [KeptC, List.forall_mem_cons] at hk'; go_split_ands); have hkB9 := hk9.1
     go_wp2
     go_ret
     exact ⟨by rw [HR.out]; rfl, hkB9⟩
    | false =>
     have ck := CK2.out
     rw [hp] at ck
     have CK3 := Lib.hid ck
     cases hb : bo s0 a nm with
     | false =>
      have cb := CB2.out
      rw [hb] at cb
      have CB3 := Lib.hid cb
      have HR : Hid (r = false) := Lib.hid (HNO.out k HKL.out (by rw [HCL2.out, hp, hb]; rfl))
      clear ck cb hp hb CK2 CB2 HBU2
      go_wp2_with (fail)
      refine wp_region_quietC_lit (KeptC w [(⟨w.heap.size, 0, none⟩, .slice na nn nc), (⟨w.heap.size, 1, none⟩, .slice ua un uc), (⟨w.heap.size, 2, none⟩, .slice da dn dc), (⟨w.heap.size, 3, none⟩, .int .i64 nx), (⟨w.heap.size, 4, none⟩, .slice la ll lc), (⟨w.heap.size, 5, none⟩, .slice sa sl sc), (⟨w.heap.size, 6, none⟩, .int .i64 lost), (ad, .int .i64 s0), (ad.add k, .int .i64 a)] []) (by kernel_rfl) (by kernel_rfl) ?_ ?_
      · refine KeptC.drewn ?_
        exact Qk1 kb0
      repeat (first
       | go_big_quiet_skip
       | (go_big_quiet_want; (apply quietC_run); (· intro w' hw'; (have hk' := hw'; simp only [KeptC, List.forall_mem_cons] at hk'; go_split_ands); go_simp; first | done | rfl); (simp only [Act.put, List.setIfInBounds_toArray, List.set_cons_zero, List.set_cons_succ]; go_big_quiet_on))
       | (go_big_quiet_want; (apply quietC_call); (· intro w' hw'; go_simp; first | done | exact ⟨rfl, rfl⟩ | rfl); (· intro w' hw'; first | ((with_reducible refine (CK3.out _ hw'.lowV).mono ?_); rintro e w2 ⟨rfl, hb⟩; exact ⟨rfl, hw'.below hb⟩) | ((with_reducible refine (CB3.out _ hw'.lowV).mono ?_); rintro e w2 ⟨rfl, hb⟩; exact ⟨rfl, hw'.below hb⟩)); (simp only [Act.put, List.setIfInBounds_toArray, List.set_cons_zero, List.set_cons_succ]; go_big_quiet_on)))
      refine wpQuiet_nil ?_
      intro w9 hk9
      (have hk' := hk9; simp only [KeptC, List.forall_mem_cons] at hk'; go_split_ands); have hkB9 := hk9.1
      go_wp2
      go_ret
      exact ⟨by rw [HR.out]; rfl, hkB9⟩
     | true =>
      have cb := CB2.out
      rw [hb] at cb
      have CB3 := Lib.hid cb
      obtain ⟨i, adn, u, rfl, hin, hna, habn, h8, hhf, h16, hU⟩ := HBU2.out hb
      subst hna
      have HALL : Hid (cl k = (u.halves.all fun h => set.contains h.peer && ag (i : Int) h.peer nm)) := Lib.hid (by rw [HCL2.out, hp, hb, hU]; rfl)
      obtain ⟨P, hP⟩ : ∃ P, adn.add (i * 8) = P := ⟨_, rfl⟩
      rw [hP] at h8 habn
      obtain ⟨p0, p1, p2, p3, p4, p5, p6, p7⟩ := h8.below habn kb0
      have hPw : P.block < w1.heap.size := by omega
      have CP := Lib.hid (fun W (hb : Below w.heap.size w W) => peers_any u.ha u.hn u.hc u.halves W ((hhf.below hb).more hb.size) h16)
      have HH16 := Lib.hid h16
      have HLU : Hid (u.halves.length = u.hn) := Lib.hid hhf.1.1
      have HLH : Hid ((u.halves.map Hf.peer).length = u.halves.length) := Lib.hid (List.length_map ..)
      clear ck cb hp hb CK2 CB2 HBU2 hU hhf h8 h16 p0 p1 p2 p3 p4 p5 p7
      go_wp2_with (fail)
      refine wp_region_quietC_lit (KeptC w [(⟨w.heap.size, 0, none⟩, .slice (some adn) nn nc), (⟨w.heap.size, 1, none⟩, .slice ua un uc), (⟨w.heap.size, 2, none⟩, .slice da dn dc), (⟨w.heap.size, 3, none⟩, .int .i64 nx), (⟨w.heap.size, 4, none⟩, .slice la ll lc), (⟨w.heap.size, 5, none⟩, .slice sa sl sc), (⟨w.heap.size, 6, none⟩, .int .i64 lost), (ad, .int .i64 s0), (ad.add k, .int .i64 i), (⟨P.block, P.off + 6, none⟩, .slice u.ha u.hn u.hc)] []) (by kernel_rfl) (by kernel_rfl) ?_ ?_
      · refine KeptC.drewn ?_
        exact Qk1 kb0
      repeat (first
       | go_big_quiet_skip
       | (go_big_quiet_want; (apply quietC_run); (· intro w' hw'; (have hk' := hw'; simp only [KeptC, List.forall_mem_cons] at hk'; go_split_ands); go_simp; first | done | rfl); (simp only [Act.put, List.setIfInBounds_toArray, List.set_cons_zero, List.set_cons_succ]; go_big_quiet_on))
       | (go_big_quiet_want; (apply quietC_call); (· intro w' hw'; go_simp; first | done | exact ⟨rfl, rfl⟩ | rfl); (· intro w' hw'; first | ((with_reducible refine (CK3.out _ hw'.lowV).mono ?_); rintro e w2 ⟨rfl, hb⟩; exact ⟨rfl, hw'.below hb⟩) | ((with_reducible refine (CB3.out _ hw'.lowV).mono ?_); rintro e w2 ⟨rfl, hb⟩; exact ⟨rfl, hw'.below hb⟩)); (simp only [Act.put, List.setIfInBounds_toArray, List.set_cons_zero, List.set_cons_succ]; go_big_quiet_on)))
      refine wpQuiet_nil ?_
      intro w9 hk9
      (have hk' := hk9; simp only [KeptC, List.forall_mem_cons] at hk'; go_split_ands); have hkB9 := hk9.1
      clear CK3 CB3 p6 c0 d0 kc0_0 kc0_1 kc0_2 kc0_3 kc0_4 kc0_5 kc0_6
      have hP9 : P.block < w9.heap.size := by have := hkB9.size; omega
      go_wp2_with (fail)
      refine (CP.out _ (Qb1 hkB9)).mono ?_; rintro e w2 ⟨PA, pn, pc, rfl, hpn, hown, hb2⟩
      have hk2 : KeptC w [(⟨w.heap.size, 0, none⟩, .slice (some adn) nn nc), (⟨w.heap.size, 1, none⟩, .slice ua un uc), (⟨w.heap.size, 2, none⟩, .slice da dn dc), (⟨w.heap.size, 3, none⟩, .int .i64 nx), (⟨w.heap.size, 4, none⟩, .slice la ll lc), (⟨w.heap.size, 5, none⟩, .slice sa sl sc), (⟨w.heap.size, 6, none⟩, .int .i64 lost)] [] w2 := by
       refine KeptC.below ?_ hb2
       exact Qk1 hkB9
      simp only [KeptC, List.forall_mem_cons] at hk2; obtain ⟨kb2, ⟨kc2_0, kc2_1, kc2_2, kc2_3, kc2_4, kc2_5, kc2_6, _⟩, _⟩ := hk2
      have hz2 : w.heap.size < w2.heap.size := cell_lt kc2_0
      have HRP : Hid (RowsE encI 1 w2 w2.heap.size PA pn (u.halves.map Hf.peer)) := Lib.hid (by
       obtain ⟨A4, c4, e, h⟩ := OwnE.at_ encI_len hown
       injection e with e1 e2 e3
       rw [e1, e2]
       exact h)
      have HPN := Lib.hid hpn
      have hpn16 : pn ≤ 1000 := by have h1 := HLH.out; have h2 := HH16.out; have h3 := HLU.out; omega
      clear hb2 hown hpn CP hk9
      go_wp2
      go_loopw [41] (fun i' w' => ∃ (j : Nat), j ≤ pn ∧ i' = .int .i64 j ∧ Hid (∀ (t : Nat) h, t < j → u.halves[t]? = some h → (set.contains h.peer && ag (i : Int) h.peer nm) = true) ∧ KeptC w [(⟨w.heap.size, 0, none⟩, .slice (some adn) nn nc), (⟨w.heap.size, 1, none⟩, .slice ua un uc), (⟨w.heap.size, 2, none⟩, .slice da dn dc), (⟨w.heap.size, 3, none⟩, .int .i64 nx), (⟨w.heap.size, 4, none⟩, .slice la ll lc), (⟨w.heap.size, 5, none⟩, .slice sa sl sc), (⟨w.heap.size, 6, none⟩, .int .i64 lost)] [] w' ∧ Hid (Below w2.heap.size w2 w')) (fun i' _ => pn - (intOf i').toNat)
      case atStart => exact ⟨0, Nat.zero_le _, rfl, Lib.hid (fun t h ht => absurd ht (by omega)), (Qk1 kb2), Lib.hid Qb⟩
      case round =>
       obtain ⟨j, hj, rfl, HT, hK, HB2⟩ := hrel
       clear kc2_0 kc2_1 kc2_2 kc2_3 kc2_4 kc2_5 kc2_6 kb0 hz0 hs0
       simp only [KeptC, List.forall_mem_cons] at hK; obtain ⟨kb3, ⟨kc3_0, kc3_1, kc3_2, kc3_3, kc3_4, kc3_5, kc3_6, _⟩, _⟩ := hK
       have hs3 := kb3.size
       have hz3 : w.heap.size < wr.heap.size := cell_lt kc3_0
       by_cases hlj : j < pn
       rotate_left
       · obtain rfl : j = pn := by omega
         have HCK : Hid (∀ t, t < k + 1 → cl t = true) := Lib.hid (by
          intro t ht
          rcases Nat.lt_or_eq_of_le (Nat.lt_succ_iff.1 ht) with h1 | h1
          · exact HA.out t h1
          · subst h1
            rw [HALL.out, List.all_eq_true]
            intro h hh
            obtain ⟨q, hq, rfl⟩ := List.getElem_of_mem hh
            exact HT.out q _ (by rw [← HPN.out, HLH.out]; exact hq) (List.getElem?_eq_getElem hq))
         go_wp2
         go_roundw
         case rel => exact ⟨k + 1, by omega, by go_num, HCK, (Qk1 kb3)⟩
         case measure => simp [intOf]; omega
       · obtain ⟨adp, v, rfl, habp, hv, h6⟩ := HRP.out.at hlj
         rw [Nat.mul_one] at h6 habp
         have e0 : wr.cell? (adp.add j) = some (.int .i64 v) := by have := h6 0 _ rfl; rw [Bg.add_z] at this; exact (HB2.out.cell habp).trans this
         obtain ⟨g, hg, hgv⟩ : ∃ g, u.halves[j]? = some g ∧ g.peer = v := by
          rw [List.getElem?_map] at hv
          cases hq : u.halves[j]? with
          | none => rw [hq] at hv; cases hv
          | some g => rw [hq] at hv; exact ⟨g, rfl, Option.some.inj hv⟩
         subst hgv
         have HG := Lib.hid hg
         have hwj : IntKind.i64.wrap ((j : Int) + 1) = (j : Int) + 1 := by rw [IntKind.wrap_i64]; omega
         have CC2 := Lib.hid (CC.out g.peer)
         have CG2 := Lib.hid (CG.out (i : Int) g.peer)
         have HBAD : Hid ((set.contains g.peer && ag (i : Int) g.peer nm) = false → r = false) := Lib.hid (fun h => HNO.out k HKL.out (by
          rw [HALL.out, List.all_eq_false]
          exact ⟨g, List.mem_of_getElem? HG.out, by rw [h]; decide⟩))
         have HNXT : Hid ((set.contains g.peer && ag (i : Int) g.peer nm) = true → ∀ (t : Nat) h, t < j + 1 → u.halves[t]? = some h → (set.contains h.peer && ag (i : Int) h.peer nm) = true) := Lib.hid (by
          intro h0 t h ht hh
          rcases Nat.lt_or_eq_of_le (Nat.lt_succ_iff.1 ht) with h1 | h1
          · exact HT.out t h h1 hh
          · subst h1
            obtain rfl := Option.some.inj (HG.out.symm.trans hh)
            exact h0)
         clear h6 hv hg
         generalize g.peer = v at e0 CC2 CG2 HBAD HNXT
         generalize ag (i : Int) v nm = b2 at CG2 HBAD HNXT
         generalize set.contains v = b1 at CC2 HBAD HNXT
         cases b1 with
         | false =>
          have HR : Hid (r = false) := Lib.hid (HBAD.out rfl)
          go_wp2_with (fail)
          refine (CC2.out _ (Qb1 kb3)).mono ?_; rintro e w4 ⟨rfl, hb4⟩
          go_wp2
          go_ret
          exact ⟨by rw [HR.out]; rfl, (Qb2 hb4 kb3)⟩
         | true =>
          go_wp2_with (fail)
          refine (CC2.out _ (Qb1 kb3)).mono ?_; rintro e w4 ⟨rfl, hb4⟩
          have hk4 : KeptC w [(⟨w.heap.size, 0, none⟩, .slice (some adn) nn nc), (⟨w.heap.size, 1, none⟩, .slice ua un uc), (⟨w.heap.size, 2, none⟩, .slice da dn dc), (⟨w.heap.size, 3, none⟩, .int .i64 nx), (⟨w.heap.size, 4, none⟩, .slice la ll lc), (⟨w.heap.size, 5, none⟩, .slice sa sl sc), (⟨w.heap.size, 6, none⟩, .int .i64 lost)] [] w4 := by
           refine KeptC.below ?_ hb4
           exact Qk1 kb3
          simp only [KeptC, List.forall_mem_cons] at hk4; obtain ⟨kb4, ⟨kc4_0, kc4_1, kc4_2, kc4_3, kc4_4, kc4_5, kc4_6, _⟩, _⟩ := hk4
          have HB4 : Hid (Below w2.heap.size w2 w4) := Lib.hid (HB2.out.trans (hb4.mono HB2.out.size))
          have hz4 : w.heap.size < w4.heap.size := cell_lt kc4_0
          clear hb4 kc3_0 kc3_1 kc3_2 kc3_3 kc3_4 kc3_5 kc3_6 e0 CC2
          go_wp2_with (fail)
          refine (CG2.out _ (Qb1 kb4)).mono ?_; rintro e w5 ⟨rfl, hb5⟩
          have hk5 : KeptC w [(⟨w.heap.size, 0, none⟩, .slice (some adn) nn nc), (⟨w.heap.size, 1, none⟩, .slice ua un uc), (⟨w.heap.size, 2, none⟩, .slice da dn dc), (⟨w.heap.size, 3, none⟩, .int .i64 nx), (⟨w.heap.size, 4, none⟩, .slice la ll lc), (⟨w.heap.size, 5, none⟩, .slice sa sl sc), (⟨w.heap.size, 6, none⟩, .int .i64 lost)] [] w5 := by
           refine KeptC.below ?_ hb5
           exact Qk1 kb4
          simp only [KeptC, List.forall_mem_cons] at hk5; obtain ⟨kb5, ⟨kc5_0, kc5_1, kc5_2, kc5_3, kc5_4, kc5_5, kc5_6, _⟩, _⟩ := hk5
          have HB5 : Hid (Below w2.heap.size w2 w5) := Lib.hid (HB4.out.trans (hb5.mono HB4.out.size))
          clear hb5
          cases b2 with
          | false =>
           have HR : Hid (r = false) := Lib.hid (HBAD.out rfl)
           go_wp2
           go_ret
           exact ⟨by rw [HR.out]; rfl, kb5⟩
          | true =>
           go_wp2
           go_roundw
           case rel => exact ⟨j + 1, by omega, by go_num, Lib.hid (HNXT.out rfl), (Qk1 kb5), Lib.hid (HB5.out.trans Qb)⟩
           case measure => simp [intOf]; omega
end Go.Proofs.YtkfodkbgmpbmfaaGreat
namespace Go.Proofs.YtkfodkbgmpbmfaaGreat
open Go.Shelf
def sortI_ren : Go.Shelf.Ren := ⟨fun | 5 => 62 | 8 => 100 | 7 => 99 | 19 => 140 | 20 => 141 | 10 => 131 | 11 => 132 | 12 => 133 | 13 => 134 | 14 => 135 | 15 => 136 | 16 => 137 | 17 => 138 | 18 => 139 | 30 => 171 | 31 => 172 | 32 => 173 | 33 => 174 | 34 => 175 | 35 => 176 | 40 => 194 | n => n, fun | 23 => 42 | 25 => 3 | 3 => 3 | 32 => 160 | 22 => 42 | 0 => 0 | 44 => 175 | 46 => 66 | 4 => 4 | 36 => 196 | 35 => 195 | 41 => 138 | 5 => 5 | 9 => 9 | 53 => 233 | 57 => 236 | 63 => 250 | 64 => 251 | n => n, fun | n => n⟩
theorem sortI : Go.Proofs.SlLaysM.n5 Tryz.prog sortI_ren := {
 mixed := by kernel_rfl
 f5 := ⟨Tryz.f62.name, by decide, Tryz.func62.trans (congrArg some (by kernel_rfl))⟩
 f7 := ⟨Tryz.f99.name, by decide, Tryz.func99.trans (congrArg some (by kernel_rfl))⟩
 f8 := Tryz.func100.trans (congrArg some (by kernel_rfl))
 f10 := ⟨Tryz.f131.name, by decide, Tryz.func131.trans (congrArg some (by kernel_rfl))⟩
 f11 := ⟨Tryz.f132.name, by decide, Tryz.func132.trans (congrArg some (by kernel_rfl))⟩
 f12 := ⟨Tryz.f133.name, by decide, Tryz.func133.trans (congrArg some (by kernel_rfl))⟩
 f13 := ⟨Tryz.f134.name, by decide, Tryz.func134.trans (congrArg some (by kernel_rfl))⟩
 f14 := ⟨Tryz.f135.name, by decide, Tryz.func135.trans (congrArg some (by kernel_rfl))⟩
 f15 := ⟨Tryz.f136.name, by decide, Tryz.func136.trans (congrArg some (by kernel_rfl))⟩
 f16 := ⟨Tryz.f137.name, by decide, Tryz.func137.trans (congrArg some (by kernel_rfl))⟩
 f17 := ⟨Tryz.f138.name, by decide, Tryz.func138.trans (congrArg some (by kernel_rfl))⟩
 f18 := ⟨Tryz.f139.name, by decide, Tryz.func139.trans (congrArg some (by kernel_rfl))⟩
 f19 := Tryz.func140.trans (congrArg some (by kernel_rfl))
 f20 := Tryz.func141.trans (congrArg some (by kernel_rfl))
 f30 := ⟨Tryz.f171.name, by decide, Tryz.func171.trans (congrArg some (by kernel_rfl))⟩
 f31 := Tryz.func172.trans (congrArg some (by kernel_rfl))
 f32 := Tryz.func173.trans (congrArg some (by kernel_rfl))
 f33 := ⟨Tryz.f174.name, by decide, Tryz.func174.trans (congrArg some (by kernel_rfl))⟩
 f34 := ⟨Tryz.f175.name, by decide, Tryz.func175.trans (congrArg some (by kernel_rfl))⟩
 f35 := ⟨Tryz.f176.name, by decide, Tryz.func176.trans (congrArg some (by kernel_rfl))⟩
 f40 := ⟨Tryz.f194.name, by decide, Tryz.func194.trans (congrArg some (by kernel_rfl))⟩
 t0 := Tryz.underlying0
 a0 := Tryz.isAgg0
 z0 := Tryz.sizeOf0
 v0 := Tryz.zeroValue0
 t3 := Tryz.underlying3
 a3 := Tryz.isAgg3
 z3 := Tryz.sizeOf3
 v3 := Tryz.zeroValue3
 t4 := Tryz.underlying4
 a4 := Tryz.isAgg4
 z4 := Tryz.sizeOf4
 v4 := Tryz.zeroValue4
 t5 := Tryz.underlying5
 a5 := Tryz.isAgg5
 z5 := Tryz.sizeOf5
 v5 := Tryz.zeroValue5
 t9 := Tryz.underlying9
 a9 := Tryz.isAgg9
 z9 := Tryz.sizeOf9
 v9 := Tryz.zeroValue9
 t22 := Tryz.underlying42
 a22 := Tryz.isAgg42
 z22 := Tryz.sizeOf42
 v22 := Tryz.zeroValue42
 t23 := Tryz.underlying42
 a23 := Tryz.isAgg42
 z23 := Tryz.sizeOf42
 v23 := Tryz.zeroValue42
 t25 := Tryz.underlying3
 a25 := Tryz.isAgg3
 z25 := Tryz.sizeOf3
 v25 := Tryz.zeroValue3
 t32 := Tryz.underlying160
 a32 := Tryz.isAgg160
 z32 := Tryz.sizeOf160
 v32 := Tryz.zeroValue160
 t35 := Tryz.underlying195
 a35 := Tryz.isAgg195
 z35 := Tryz.sizeOf195
 v35 := Tryz.zeroValue195
 t36 := Tryz.underlying196
 a36 := Tryz.isAgg196
 z36 := Tryz.sizeOf196
 v36 := Tryz.zeroValue196
 t41 := Tryz.underlying138
 a41 := Tryz.isAgg138
 z41 := Tryz.sizeOf138
 v41 := Tryz.zeroValue138
 t44 := Tryz.underlying175
 a44 := Tryz.isAgg175
 z44 := Tryz.sizeOf175
 v44 := Tryz.zeroValue175
 t46 := Tryz.underlying66
 a46 := Tryz.isAgg66
 z46 := Tryz.sizeOf66
 v46 := Tryz.zeroValue66
 t53 := Tryz.underlying233
 a53 := Tryz.isAgg233
 z53 := Tryz.sizeOf233
 v53 := Tryz.zeroValue233
 t57 := Tryz.underlying236
 a57 := Tryz.isAgg236
 z57 := Tryz.sizeOf236
 v57 := Tryz.zeroValue236
 t63 := Tryz.underlying250
 a63 := Tryz.isAgg250
 z63 := Tryz.sizeOf250
 v63 := Tryz.zeroValue250
 t64 := Tryz.underlying251
 a64 := Tryz.isAgg251
 z64 := Tryz.sizeOf251
 v64 := Tryz.zeroValue251 }
end Go.Proofs.YtkfodkbgmpbmfaaGreat
namespace Go.Proofs.YtkfodkbgmpbmfaaGreat
open Go.RowKit Go.Shelf
set_option linter.unusedVariables false
set_option linter.unusedSimpArgs false
set_option maxRecDepth 100000
theorem wpList_app1K {P : Program} {α : Type} {enc : α → List Value} {k bytes : Nat} (hk : ∀ x, (enc x).length = k) (h1 : ∀ x, ∀ u ∈ enc x, u.oneCell' = true) (hk0 : 0 < k) {ops : Array Oper} {rest : List Oper} {o : Oper} {a : Act} {w : World} {Q : Exit → Act → World → Prop} (hgd : o.guard = none) (s x : Operand) (t e : TypeId)
    (ho : o.op = .call { callee := .builtin .append, args := #[s, x], argTypes := #[t, t] }) (ht : P.underlying t = some (.slice e)) {z : Value} (hi : (P.info? e).map (fun i => (i.zero, i.size, i.bytes)) = some (some z, k, bytes)) (hzs : z.cells.size = k)
    (base : Nat) (OL : List α) (A2 : Option Addr) (n2 cp2 : Nat) (hn2 : OL.length = n2) (hs : a.eval s = .slice A2 n2 cp2) (hown : OwnE enc k e w base (.slice A2 n2 cp2) OL)
    (A : Option Addr) (m c : Nat) (hx : a.eval x = .slice A m c) (NL : List α) (hr : RowsE enc k w w.heap.size A m NL) (h63 : n2 + m ≤ maxLen) (hb : (n2 + m) * bytes ≤ 140737488355328) (hbase : base ≤ w.heap.size)
    (h : ∀ O3 A3 n3 cp3 w3, O3 = OL ++ NL → O3.length = n3 → OwnE enc k e w3 base (.slice A3 n3 cp3) O3 → Below base w w3 → (∀ b, b < w.heap.size → (Value.slice A2 n2 cp2).ownBlock ≠ some b → w3.heap[b]? = w.heap[b]? ∧ (Value.slice A3 n3 cp3).ownBlock ≠ some b) → wpList P ops Q rest (a.put o.dst (.slice A3 n3 cp3)) w3) : wpList P ops Q (o :: rest) a w := by
 obtain ⟨i0, hi0, hz0, hz1, hz2⟩ := info_parts hi
 subst hn2
 refine wpList_append_any w hgd s x t ho base e i0 z k bytes ht hi0 hz0 hz1 hz2 hzs hk0 _ OL.length (flatE enc OL) hs hown w.heap.size A m c (flatE enc NL) hx (hr.reads hk) (flatE_one h1 NL) h63 hb hbase ?_
 intro v' w' hown' hg' hat'
 obtain ⟨A3, c3, rfl⟩ := row_slice' hown'
 have hbl := (row_grown hown hg' hbase).1
 have hl : (OL ++ NL).length = OL.length + m := by simp [hr.1]
 refine h (OL ++ NL) A3 _ c3 w' rfl hl (by unfold OwnE; rw [show flatE enc (OL ++ NL) = flatE enc OL ++ flatE enc NL by unfold flatE; simp, hl]; exact hown') hbl (fun b hb hne => ⟨hg'.block b hb (Ne.symm hne), ?_⟩)
 rcases hat' with e2 | e2
 · rw [e2]; exact hne
 · rw [e2]
   intro e3
   have := Option.some.inj e3
   omega
theorem rows_one {α : Type} {enc : α → List Value} {k : Nat} {w : World} {B : Nat} {g : Addr} {y : α} (hr : CellsE enc w g y) (hg : g.block < B) : RowsE enc k w B (some g) 1 [y] := by
 refine ⟨rfl, fun _ => ⟨g, rfl, hg, fun j x hx => ?_⟩⟩
 have hj : j = 0 := by have := (List.getElem?_eq_some_iff.1 hx).1; simpa using this
 subst hj
 obtain rfl := Option.some.inj hx
 rw [Nat.zero_mul, Bg.add_z]
 exact hr
theorem RowsE.blk {α : Type} {enc : α → List Value} {k : Nat} {w w' : World} {B B' n b o : Nat} {rs : List α} (h : RowsE enc k w B (some ⟨b, o, none⟩) n rs) (hk : w'.heap[b]? = w.heap[b]?) (hB : b < B') : RowsE enc k w' B' (some ⟨b, o, none⟩) n rs := by
 refine ⟨h.1, fun hn => ?_⟩
 obtain ⟨ad, e, hb, hc⟩ := h.2 hn
 obtain rfl := Option.some.inj e
 refine ⟨_, rfl, hB, fun j x hx i u hu => ?_⟩
 have := hc j x hx i u hu
 exact (World.cell?_of_block (w := w) (w' := w') (a := ((⟨b, o, none⟩ : Addr).add (j * k)).add i) (by rw [block_of_add, block_of_add]; exact hk)).trans this
def memI (l : List Nat) : List Int := l.map fun (k : Nat) => (k : Int)
theorem memI_len (l : List Nat) : (memI l).length = l.length := List.length_map ..
theorem memI_app (l : List Nat) (k : Nat) : memI (l ++ [k]) = memI l ++ [(k : Int)] := by unfold memI; simp
theorem memI_get {l : List Nat} {i : Nat} {v : Int} (h : (memI l)[i]? = some v) : ∃ k, l[i]? = some k ∧ v = k := by
 unfold memI at h
 rw [List.getElem?_map] at h
 cases hq : l[i]? with
 | none => rw [hq] at h; cases h
 | some g => rw [hq] at h; exact ⟨g, rfl, (Option.some.inj h).symm⟩
structure Gr where
 a : Option Addr
 n : Nat
 c : Nat
 mem : List Nat
def encG (g : Gr) : List Value := [.slice g.a g.n g.c]
theorem encG_len (x : Gr) : (encG x).length = 1 := rfl
theorem encG_one (x : Gr) : ∀ u ∈ encG x, u.oneCell' = true := by
 intro u hu
 simp only [encG, List.mem_cons, List.not_mem_nil, or_false] at hu
 subst hu
 rfl
theorem slint_inf : (Tryz.prog.info? 42).map (fun i => (i.zero, i.size, i.bytes)) = some (some (.slice none 0 0), 1, 24) := by kernel_rfl
def GrAt (w : World) (base : Nat) (v v2 : Value) (g : Gr) : Prop := ∃ b, g.a = some ⟨b, 0, none⟩ ∧ base ≤ b ∧ b < w.heap.size ∧ v.ownBlock ≠ some b ∧ v2.ownBlock ≠ some b ∧ RowsE encI 1 w w.heap.size g.a g.n (memI g.mem) ∧ g.n ≤ g.c
def GsAt (w : World) (B : Nat) (A : Option Addr) (n : Nat) (gs : List Gr) : Prop := RowsE encG 1 w B A n gs ∧ ∀ g ∈ gs, RowsE encI 1 w B g.a g.n (memI g.mem) ∧ g.n ≤ g.c
structure OutAt (w : World) (base : Nat) (v v2 : Value) (gs : List Gr) : Prop where
 own : OwnE encG 1 42 w base v gs
 far : ∀ b, v.ownBlock = some b → v2.ownBlock ≠ some b
 grs : ∀ g ∈ gs, GrAt w base v v2 g
theorem OutAt.nil (w : World) (base : Nat) : OutAt w base (.slice none 0 0) (.slice none 0 0) [] := ⟨OwnE.nil _ _ _, fun b h => by simp [Value.ownBlock] at h, fun g h => by cases h⟩
theorem OwnE.blk {α : Type} {enc : α → List Value} {k : Nat} {e : TypeId} {w w' : World} {base : Nat} {v : Value} {rs : List α} (h : OwnE enc k e w base v rs) (hk : ∀ b, b < w.heap.size → v.ownBlock = some b → w'.heap[b]? = w.heap[b]?) : OwnE enc k e w' base v rs := by
 refine ⟨h.1, ?_⟩
 rcases h.2 with hn | ⟨g, cap, cur, rfl, hg, hc, rest⟩
 · exact .inl hn
 · exact .inr ⟨g, cap, cur, rfl, hg, (hk g (Array.getElem?_eq_some_iff.1 hc).1 rfl).trans hc, rest⟩
theorem OwnE.lt {α : Type} {enc : α → List Value} {k : Nat} {e : TypeId} {w : World} {base : Nat} {v : Value} {rs : List α} (h : OwnE enc k e w base v rs) {b : Nat} (hb : v.ownBlock = some b) : base ≤ b ∧ b < w.heap.size := by
 rcases h.2 with ⟨rfl, _⟩ | ⟨g, cap, cur, rfl, hg, hc, _⟩
 · simp [Value.ownBlock] at hb
 · obtain rfl : g = b := by simpa [Value.ownBlock] using hb
   exact ⟨hg, (Array.getElem?_eq_some_iff.1 hc).1⟩
theorem OutAt.keep {w w' : World} {base : Nat} {v v2 : Value} {gs : List Gr} (h : OutAt w base v v2 gs) (hs : w.heap.size ≤ w'.heap.size) (hk : ∀ b, base ≤ b → b < w.heap.size → w'.heap[b]? = w.heap[b]?) : OutAt w' base v v2 gs := by
 refine ⟨h.own.blk fun b hb hv => hk b (h.own.lt hv).1 hb, h.far, fun g hg => ?_⟩
 obtain ⟨b, e, h1, h2, h3, h4, h5, h6⟩ := h.grs g hg
 refine ⟨b, e, h1, by omega, h3, h4, ?_, h6⟩
 rw [e] at h5 ⊢
 exact h5.blk (hk b h1 h2) (by omega)
theorem OutAt.below {w w' : World} {base : Nat} {v v2 : Value} {gs : List Gr} (h : OutAt w base v v2 gs) (hb : Below w.heap.size w w') : OutAt w' base v v2 gs :=
 h.keep hb.size fun b _ hlt => hb.block b hlt
theorem OutAt.away {b0 : Nat} {w w' : World} {base : Nat} {v v2 : Value} {gs : List Gr} (h : OutAt w base v v2 gs) (hA : Away b0 w w') (hb : b0 < base) : OutAt w' base v v2 gs :=
 h.keep hA.low.size fun b h1 hlt => hA.blk b hlt (by omega)
theorem OutAt.gs {w : World} {base : Nat} {A : Option Addr} {n c : Nat} {v2 : Value} {gs : List Gr} (h : OutAt w base (.slice A n c) v2 gs) : GsAt w w.heap.size A n gs := by
 obtain ⟨A4, c4, e, h2⟩ := OwnE.at_ encG_len h.own
 injection e with e1 e2 e3
 subst e1 e2
 exact ⟨h2, fun g hg => by obtain ⟨b, _, _, _, _, _, h5, h6⟩ := h.grs g hg; exact ⟨h5, h6⟩⟩
theorem OwnE.gr {w : World} {M : Nat} {A : Option Addr} {n c : Nat} {l : List Nat} (h : OwnE encI 1 3 w M (.slice A n c) (memI l)) (h0 : 0 < n) (hl : l.length = n) : ∃ b, A = some ⟨b, 0, none⟩ ∧ M ≤ b ∧ b < w.heap.size ∧ RowsE encI 1 w w.heap.size A n (memI l) ∧ n ≤ c := by
 obtain ⟨A4, c4, e, h2⟩ := OwnE.at_ encI_len h
 injection e with e1 e2 e3
 rcases h.2 with ⟨e, _⟩ | ⟨g, cap, cur, e, hg, hc, hn, _⟩
 · injection e with e4 e5 e6
   omega
 · injection e with e4 e5 e6
   subst e4 e5
   refine ⟨g, rfl, hg, (Array.getElem?_eq_some_iff.1 hc).1, ?_, by rw [e6, ← hl, ← memI_len]; exact hn⟩
   rw [e1, ← hl, ← memI_len]
   exact h2
theorem OutAt.push {w w' : World} {base : Nat} {v v2 v' : Value} {gs : List Gr} {g : Gr} (h : OutAt w base v v2 gs) (hg : GrAt w base v v2 g) (hs : w.heap.size ≤ w'.heap.size) (hown : OwnE encG 1 42 w' base v' (gs ++ [g]))
    (hk : ∀ b, b < w.heap.size → v.ownBlock ≠ some b → w'.heap[b]? = w.heap[b]? ∧ v'.ownBlock ≠ some b) (hf : ∀ b, v2.ownBlock = some b → b < w.heap.size) : OutAt w' base v' v2 (gs ++ [g]) := by
 have hG : ∀ g, GrAt w base v v2 g → GrAt w' base v' v2 g := by
  rintro g ⟨b, e, h1, h2, h3, h4, h5, h6⟩
  refine ⟨b, e, h1, by omega, (hk b h2 h3).2, h4, ?_, h6⟩
  rw [e] at h5 ⊢
  exact h5.blk (hk b h2 h3).1 (by omega)
 refine ⟨hown, fun b hv h2 => ?_, fun g' hg' => ?_⟩
 · have hb := hf b h2
   have hne : v.ownBlock ≠ some b := fun e => h.far b e h2
   exact (hk b hb hne).2 hv
 · rcases List.mem_append.1 hg' with h1 | h1
   · exact hG g' (h.grs g' h1)
   · rw [List.mem_singleton.1 h1]; exact hG g hg
theorem sortI_any (b n c : Nat) (l : List Nat) (w : World) (M : Nat) (h : OwnE encI 1 3 w M (.slice (some ⟨b, 0, none⟩) n c) (memI l)) (hl : l.length = n) (hm : n ≤ 1000) :
    Calls Tryz.prog 62 #[.slice (some ⟨b, 0, none⟩) n c] w fun e w' => e = .returned (.tuple #[]) ∧ OwnE encI 1 3 w' M (.slice (some ⟨b, 0, none⟩) n c) ((memI l).mergeSort fun x y => decide (x ≤ y)) ∧ Below M w w' := by
 subst hl
 rcases h.2 with ⟨e, _⟩ | ⟨g, cap, cur, e, hg, hc, hn, hcm, hcs, htake⟩
 · cases e
 · injection e with e1 e2 e3
   injection e1 with e1
   injection e1 with e1 _
   subst e1 e3
   have hlt := (Array.getElem?_eq_some_iff.1 hc).1
   obtain ⟨A4, c4, e5, h2⟩ := OwnE.at_ encI_len h
   injection e5 with e6 e7 e8
   subst e6
   have h' : w.ownsRow M 3 1 (.slice (some ⟨b, 0, none⟩) l.length c) l.length ((memI l).map (Value.int .i64)) := by
    have := h
    unfold OwnE at this
    rwa [memI_len, flatI] at this
   have hH : Sort.Holds (Value.int .i64) w b 0 (memI l).toArray := by
    intro j hj
    have hj' : j < (memI l).length := by simpa using hj
    rw [Nat.zero_add]
    refine ⟨?_, h'.frozenAt j⟩
    rw [h'.cellAt j (by rw [memI_len] at hj'; omega), List.getElem?_map, List.getElem?_eq_getElem hj', getElem!_pos (memI l).toArray j hj]
    simp
   have hcall := AnyM.slices_Sort_int sortI b 0 c (memI l) w hH hlt (by rw [memI_len]; omega)
   rw [memI_len] at hcall
   refine Calls.mono (P := Tryz.prog) hcall ?_
   rintro e w' ⟨he, n2, os, hw⟩
   subst he hw
   have hs1 : ((memI l).mergeSort fun x y => decide (x ≤ y)).length = (memI l).length := List.length_mergeSort ..
   have how := ownsRow_sortedI (w := w) (base := M) (g := b) (cap := c) (n := n2) (e := 3) (os := os) (cur := cur) (ss := memI l) hs1 hg hc (by first | exact hn | (rw [memI_len]; exact hn)) hcm hcs
   have hgr := grownBy_sortedI (w := w) (g := b) (n := n2) (os := os) ((memI l).mergeSort fun x y => decide (x ≤ y)).toArray
   refine ⟨rfl, ?_, (row_grown h' hgr (by omega)).1⟩
   unfold OwnE
   rw [flatI, hs1, memI_len]
   rw [memI_len] at how
   exact how
theorem rises_extI : ∀ {l m : List Int}, l.Pairwise (· < ·) → m.Pairwise (· < ·) → (∀ x, x ∈ l ↔ x ∈ m) → l = m
 | [], [], _, _, _ => rfl
 | [], b :: m, _, _, h => by have := (h b).2 (by simp); cases this
 | a :: l, [], _, _, h => by have := (h a).1 (by simp); cases this
 | a :: l, b :: m, h1, h2, h => by
  rw [List.pairwise_cons] at h1 h2
  have e : a = b := by
   rcases List.mem_cons.1 ((h a).1 (by simp)) with e | e
   · exact e
   · rcases List.mem_cons.1 ((h b).2 (by simp)) with e2 | e2
     · exact e2.symm
     · have := h2.1 a e; have := h1.1 b e2; omega
  subst e
  rw [rises_extI h1.2 h2.2 (fun x => by
   constructor
   · intro hx
     rcases List.mem_cons.1 ((h x).1 (List.mem_cons_of_mem _ hx)) with e | e
     · subst e; have := h1.1 x hx; omega
     · exact e
   · intro hx
     rcases List.mem_cons.1 ((h x).2 (List.mem_cons_of_mem _ hx)) with e | e
     · subst e; have := h2.1 x hx; omega
     · exact e)]
theorem sorted_grp {n : Nat} {H : Nat → Nat → Bool} {a : Nat} {l : List Nat} {i : Nat} (h : Srch n H a l i) (hi : l.length ≤ i) : (memI l).mergeSort (fun x y => decide (x ≤ y)) = memI (grp n H a) := by
 have hp := List.mergeSort_perm (memI l) (fun x y => decide (x ≤ y))
 have hs := List.pairwise_mergeSort (le := fun x y : Int => decide (x ≤ y)) (fun a b c => by simp only [decide_eq_true_eq]; omega) (fun a b => by simp only [Bool.or_eq_true, decide_eq_true_eq]; omega) (memI l)
 have hnd : ((memI l).mergeSort fun x y => decide (x ≤ y)).Nodup := hp.nodup_iff.2 (by
  unfold memI
  exact List.Pairwise.map _ (fun a b h e => h (Int.ofNat.inj e)) h.nod)
 have hst : ((memI l).mergeSort fun x y => decide (x ≤ y)).Pairwise (· < ·) := by
  refine (List.Pairwise.and hs hnd).imp ?_
  rintro a b ⟨h1, h2⟩
  have : a ≤ b := by simpa using h1
  omega
 have hg : (memI (grp n H a)).Pairwise (· < ·) := List.Pairwise.map _ (fun a b h => Int.ofNat_lt.2 h) (grp_rises n H a)
 refine rises_extI hst hg fun x => ?_
 rw [hp.mem_iff]
 unfold memI
 rw [List.mem_map, List.mem_map]
 constructor
 · rintro ⟨a, ha, e⟩; exact ⟨a, (h.end_ hi a).1 ha, e⟩
 · rintro ⟨a, ha, e⟩; exact ⟨a, (h.end_ hi a).2 ha, e⟩
end Go.Proofs.YtkfodkbgmpbmfaaGreat
namespace Go.Proofs.YtkfodkbgmpbmfaaGreat
open Go.ChangeShapes Go.WideShapes Go.ChangeAt Go.RowKit Go.Shelf Go.Deep Go.Joins Go.ChangeMaps
set_option linter.unusedVariables false
set_option linter.unusedSimpArgs false
set_option maxRecDepth 100000
theorem WdAll.below {w w' : World} {x : Wd} {dks : List Sl} {dgs : List Bg.Dg} {svs : List Bg.LK} (h : WdAll w x dks dgs svs) (hb : Below w.heap.size w w') : WdAll w' x dks dgs svs :=
 ⟨(h.cells.below hb).more hb.size, (h.dk.below hb).more hb.size, (h.dg.below hb).more hb.size, (h.sv.below hb).more hb.size, h.n1, h.n2, h.ns, h.bs⟩
section
variable {H : Type} {enc : TypeId × Value → H} {w : World} {base b0 : Nat} {spare : Nat → Bool} {held : Bool}
end
end Go.Proofs.YtkfodkbgmpbmfaaGreat
