/- Chapter 22, parts on the way: Ya Yb Yc -/
import Derived.Test.YtkfodkbgmpbmfaaGreatB01
import Derived.Test.YtkfodkbgmpbmfaaGreatB02
import Derived.Test.YtkfodkbgmpbmfaaGreatB06
import Derived.Test.YtkfodkbgmpbmfaaGreatB09
import Derived.Test.YtkfodkbgmpbmfaaGreatB14
import Derived.Test.YtkfodkbgmpbmfaaGreatB20
import Derived.Test.YtkfodkbgmpbmfaaGreatB31
import Derived.Test.YtkfodkbgmpbmfaaGreatB34
set_option linter.unusedVariables false
set_option linter.unusedSimpArgs false
namespace Go.Proofs.YtkfodkbgmpbmfaaGreat
open Go.Proofs.YtkfodkbgmpbmfaaGreat.Rg
open Go.RowKit Go.Shelf
set_option linter.unusedVariables false
set_option linter.unusedSimpArgs false
def encsN (x : Int × Int) : Array Value := #[.int .i64 x.1, .int .i64 x.2]
def PtN (x : Int × Int) (_ : World) : Prop := -2147483647 ≤ x.2 ∧ x.2 ≤ 2147483647
theorem LiesV.hf {D Bo Bw : Nat} {W A : World} (h : LiesV D Bo Bw W A) {p : Addr} {x : Hf} (hh : hf6 W p x) (h1 : p.block < D) (h2 : p.block ≠ Bo) (h3 : p.block ≠ Bw) : hf6 A p x := by
 obtain ⟨q0, q1, q2, q3, q4, q5⟩ := hh
 exact ⟨h _ _ h1 h2 h3 q0, h ⟨p.block, _, none⟩ _ h1 h2 h3 q1, h ⟨p.block, _, none⟩ _ h1 h2 h3 q2, h ⟨p.block, _, none⟩ _ h1 h2 h3 q3, h ⟨p.block, _, none⟩ _ h1 h2 h3 q4, h ⟨p.block, _, none⟩ _ h1 h2 h3 q5⟩
def outL (id p : Int) (l : Ln) : Int × Int := (p, Rg.outR l.ver l.wr l.flow id p)
def outsH (id : Int) (nm : ByteArray) (h : Hf) (ls : List Ln) : List (Int × Int) := (ls.filter (isL nm)).map (outL id h.peer)
theorem outL_bd (id p : Int) (x : Ln) : -2147483647 ≤ (outL id p x).2 ∧ (outL id p x).2 ≤ 2147483647 := by
 unfold outL Rg.outR
 simp only []
 split
 · rename_i h
   obtain ⟨_, _, g3, g4⟩ := Rg.fitB_bd h
   split <;> omega
 · omega
theorem outsH_next {id : Int} {nm : ByteArray} {h : Hf} {ls : List Ln} {m : Nat} {l : Ln} (hl : ls[m]? = some l) : outsH id nm h (ls.take (m + 1)) = outsH id nm h (ls.take m) ++ (if isL nm l = true then [outL id h.peer l] else []) := by
 unfold outsH
 rw [List.take_add_one, hl]
 simp only [Option.toList_some, List.filter_append, List.map_append]
 congr 1
 cases h2 : isL nm l <;> simp [List.filter, h2]
theorem outsH_len (id : Int) (nm : ByteArray) (h : Hf) (ls : List Ln) : (outsH id nm h ls).length ≤ ls.length := by
 unfold outsH
 rw [List.length_map]
 exact List.length_filter_le _ _
theorem outsN_next {id : Int} {nm : ByteArray} {hs : List Hf} {j : Nat} {h : Hf} (hh : hs[j]? = some h) : outsN id (hs.take (j + 1)) nm = outsN id (hs.take j) nm ++ outsH id nm h h.lines := by
 unfold outsN outsH
 rw [List.take_add_one, hh]
 simp [outL]
theorem outsN_len {id : Int} {nm : ByteArray} : ∀ (hs : List Hf), (∀ h ∈ hs, h.lines.length ≤ 8) → (outsN id hs nm).length ≤ 8 * hs.length
 | [], _ => by simp [outsN]
 | h :: hs, hm => by
  have h1 := outsN_len (id := id) (nm := nm) hs (fun x hx => hm x (List.mem_cons_of_mem _ hx))
  have h2 := outsH_len id nm h h.lines
  have h3 := hm h List.mem_cons_self
  have e : outsN id (h :: hs) nm = outsH id nm h h.lines ++ outsN id hs nm := by unfold outsN outsH outL; simp
  rw [e, List.length_append, List.length_cons]
  omega
set_option maxRecDepth 100000 in
set_option maxHeartbeats 8000000 in
theorem entries_seq (k : Nat) (hk : 1 ≤ k) (D0 B4 B5 B3 Bo Bw : Nat) (A : Option Addr) (n cp : Nat) (xs : List Hf) (id : Int) (nm : ByteArray) (w : World) (hBo : Bo < w.heap.size) (hBw : Bw < w.heap.size) (hDo : D0 ≤ Bo) (hDw : D0 ≤ Bw)
    (h4 : w.cell? ⟨B4, 0, none⟩ = some (.slice A n cp)) (h5 : w.cell? ⟨B5, 0, none⟩ = some (.string nm)) (h3 : w.cell? ⟨B3, 0, none⟩ = some (.int .i64 id)) (hr : HfsAt w D0 A n xs) (hn : n ≤ 16) (hl8 : ∀ h ∈ xs, h.lines.length ≤ 8)
    (d4 : B4 ≠ Bo ∧ B4 ≠ Bw) (d5 : B5 ≠ Bo ∧ B5 ≠ Bw) (d3 : B3 ≠ Bo ∧ B3 ≠ Bw) :
    SeqP k Tryz.prog 191 #[.pointer (some ⟨B4, 0, none⟩), .pointer (some ⟨B5, 0, none⟩), .pointer (some ⟨B3, 0, none⟩)] encsN PtN Bo Bw 128 (fun ys => ys = outsN id xs nm) w := by
 intro l J W hW hJr hJF hY h0
 have hB4 := cell_lt h4
 have hB5 := cell_lt h5
 have hB3 := cell_lt h3
 simp only [] at hB4 hB5 hB3
 have hws := hW.size
 have L0 : LiesV w.heap.size Bo Bw w W := LiesV.of_below hW
 have HR := Lib.hid hr.1
 have HRL := Lib.hid hr.2
 have HL8 := Lib.hid hl8
 have H4 := Lib.hid h4; have H5 := Lib.hid h5; have H3 := Lib.hid h3
 have g4 := L0 _ _ hB4 d4.1 d4.2 h4
 refine callsIn_of_wp Tryz.func191 rfl trivial ?_ rfl
 simp only [Tryz.ntmps191, List.size_toArray, List.length_cons, List.length_nil, Nat.reduceAdd, Nat.reduceSub, Array.replicate_succ, Array.replicate_zero, List.push_toArray, List.append_toArray, List.nil_append, List.cons_append]
 have HY := Lib.hid hY; have HJR := Lib.hid hJr; have HJF := Lib.hid hJF; have H0 := Lib.hid h0
 clear hY hJr hJF h0 h4 h5 h3 hr hl8
 gi_wp2
 gi_loopw [11] (fun i W' => ∃ (j : Nat) (pre : List (Int × Int)), i = .int .i64 j ∧ j ≤ n ∧ pre = outsN id (xs.take j) nm ∧ Hid (J pre W') ∧ Hid (LiesV w.heap.size Bo Bw w W')) (fun i _ => n - (intOf i).toNat)
 case atStart => exact ⟨0, [], rfl, Nat.zero_le _, rfl, H0, Lib.hid L0⟩
 case round =>
  obtain ⟨j, pre, rfl, hj, hpre, HJ, HLi⟩ := hrel
  clear L0 g4 H0
  have hsz0 : w.heap.size ≤ wr.heap.size := (HJR.out _ _ HJ.out).1
  obtain ⟨w2, hw2⟩ : ∃ w2, w2 = wr := ⟨_, rfl⟩
  subst hw2
  by_cases hlt : j < n
  rotate_left
  · obtain rfl : j = n := by omega
    gi_wp2
    go_end0
    exact ⟨⟨_, rfl⟩, pre, by rw [hpre, List.take_of_length_le (Nat.le_of_eq HR.out.1)], HJ.out⟩
  · obtain ⟨ad, x, rfl, hab, hx, h6⟩ := HR.out.at hlt
    obtain ⟨P, hP⟩ : ∃ P, ad.add (j * 6) = P := ⟨_, rfl⟩
    rw [hP] at h6 hab
    have hPb : P.block < w.heap.size := by omega
    have hPw : P.block < w2.heap.size := by omega
    obtain ⟨c0, c1, c2, c3, c4, c5⟩ := HLi.out.hf (hf6_of h6) hPb (by omega) (by omega)
    have HX := Lib.hid hx
    have HLX := Lib.hid (HRL.out x (List.mem_of_getElem? hx)).1
    have HX8 := Lib.hid (HL8.out x (List.mem_of_getElem? hx))
    have HPL : Hid (pre.length ≤ 8 * j) := Lib.hid (by
     rw [hpre]
     have h := outsN_len (id := id) (nm := nm) (xs.take j) (fun h hh => HL8.out h (List.mem_of_mem_take hh))
     have := List.length_take_le j xs
     omega)
    clear h6 hx
    obtain ⟨peer, hboot, life, la, ln, lc, pend, miss, lines⟩ := x
    simp only [] at c0 c1 c2 c3 c4 c5 HLX HX8
    have HN0 : Hid (rowB Bo (w2.alloc (Obj.cells #[.int .i64 peer, .int .i64 hboot, .int .i64 life, .slice la ln lc, .bool pend, .int .i64 miss] 59)) ≠ some w2.heap.size) := Lib.hid (fun h => by
     rw [rowB_same (((Below.refl w2.heap.size w2).alloc (Nat.le_refl _) _).block Bo (by omega))] at h
     have := ((HJR.out _ _ HJ.out).2 _ h).2
     omega)
    gi_wp2
    gi_loopw [18] (fun i W' => ∃ (m : Nat) (pr : List (Int × Int)), i = .int .i64 m ∧ m ≤ ln ∧ pr = pre ++ outsH id nm ⟨peer, hboot, life, la, ln, lc, pend, miss, lines⟩ (lines.take m) ∧ Hid (J pr W') ∧ Hid (LiesV w.heap.size Bo Bw w W') ∧ W'.cell? ⟨w2.heap.size, 0, none⟩ = some (.int .i64 peer) ∧ Hid (rowB Bo W' ≠ some w2.heap.size)) (fun i _ => ln - (intOf i).toNat)
    case atStart => exact ⟨0, pre, rfl, by omega, by simp [outsH], Lib.hid (HJF.out _ _ _ HJ.out (Fr.alloc _)), Lib.hid (HLi.out.below ((Below.refl _ _).alloc (Nat.le_refl _) _)), by go_simp, HN0⟩
    case round =>
     clear c0 c1 c2 c3 c4 c5
     clear HN0
     obtain ⟨m, pr, rfl, hm, hpr, HJ1, HL1, hb0, HN⟩ := hrel
     have hsz1 : w.heap.size ≤ wr.heap.size := (HJR.out _ _ HJ1.out).1
     have hb6 := cell_lt hb0
     simp only [] at hb6
     have HPR := Lib.hid hpr
     clear hpr
     by_cases hlm : m < ln
     rotate_left
     · obtain rfl : m = ln := by omega
       have hpe : pr = outsN id (xs.take (j + 1)) nm := by
        rw [outsN_next HX.out, HPR.out, hpre, List.take_of_length_le (Nat.le_of_eq HLX.out.1)]
       gi_wp2
       go_roundw
       case rel => exact ⟨j + 1, pr, by go_num, by omega, hpe, HJ1, HL1⟩
       case measure => simp [intOf]; omega
     · obtain ⟨adl, lx, rfl, habl, hxl, h7⟩ := HLX.out.at hlm
       obtain ⟨Q, hQ⟩ : ∃ Q, adl.add (m * 4) = Q := ⟨_, rfl⟩
       rw [hQ] at h7 habl
       have hQb : Q.block < w.heap.size := by omega
       obtain ⟨l0, l1, l2, l3⟩ := HL1.out.ln (ln4_of h7) hQb (by omega) (by omega)
       have hQw : Q.block < wr.heap.size := by omega
       have g5 := HL1.out _ _ hB5 d5.1 d5.2 H5.out
       have g3 := HL1.out _ _ hB3 d3.1 d3.2 H3.out
       have hB5w : B5 < wr.heap.size := by omega
       have hB3w : B3 < wr.heap.size := by omega
       have HXL := Lib.hid hxl
       have hwm : IntKind.i64.wrap ((m : Int) + 1) = (m : Int) + 1 := by rw [IntKind.wrap_i64]; have h1 := HX8.out; have h2 := HLX.out.1; omega
       clear h7 hxl
       obtain ⟨lnm, lver, lwr, lflow⟩ := lx
       simp only [] at l0 l1 l2 l3
       cases he : (lnm.toList == nm.toList) with
       | false =>
        have HE : Hid (isL nm ⟨lnm, lver, lwr, lflow⟩ = false) := Lib.hid he
        gi_wp2_with (fail)
        refine wpIn_region_quietC_tail (KeptC wr [(⟨w2.heap.size, 0, none⟩, .int .i64 peer), (⟨wr.heap.size, 0, none⟩, .string lnm), (⟨wr.heap.size, 1, none⟩, .int .i64 lver), (⟨wr.heap.size, 2, none⟩, .int .i64 lwr), (⟨wr.heap.size, 3, none⟩, .int .i64 lflow), (⟨B5, 0, none⟩, .string nm), (⟨B3, 0, none⟩, .int .i64 id)] []) 14 (by kernel_rfl) (by kernel_rfl) (by kernel_rfl) ?_ ?_
        · refine KeptC.drewn ?_
          exact Qk
        simp only [List.take_succ_cons, List.take_zero, List.drop_succ_cons, List.drop_zero]
        repeat (first
         | go_big_quiet_skip
         | (go_big_quiet_want; (apply quietC_run); (· intro w' hw'; (have hk' := hw'; simp only [KeptC, List.forall_mem_cons] at hk'; go_split_ands); go_simp; first | done | rfl); (simp only [Act.put, List.setIfInBounds_toArray, List.set_cons_zero, List.set_cons_succ]; go_big_quiet_on))
         | (go_big_quiet_want; (apply quietC_call); (· intro w' hw'; go_simp; first | done | exact ⟨rfl, rfl⟩ | rfl); (· intro w' hw'; first | ((with_reducible refine (fail).mono ?_); rintro e w2 ⟨rfl, hb⟩; exact ⟨rfl, hw'.below hb⟩)); (simp only [Act.put, List.setIfInBounds_toArray, List.set_cons_zero, List.set_cons_succ]; go_big_quiet_on)))
        refine wpQuiet_nil ?_
        intro w9 hk9
        (have hk' := hk9; simp only [KeptC, List.forall_mem_cons] at hk'; go_split_ands); have hkB9 := hk9.1
        have HJ9 := Lib.hid (HJF.out _ _ w9 HJ1.out (Fr.below hkB9))
        have HL9 := Lib.hid (HL1.out.below hkB9)
        have HN9 : Hid (rowB Bo w9 ≠ some w2.heap.size) := Lib.hid (by rw [rowB_same (hkB9.block Bo (by omega))]; exact HN.out)
        gi_wp2
        refine ⟨fun f h => (by cases h), ?_⟩
        gi_wp2
        go_roundw
        case rel => exact ⟨m + 1, pr, by go_num, by omega, by rw [outsH_next HXL.out, HE.out, HPR.out]; simp, HJ9, HL9, by with_reducible assumption, HN9⟩
        case measure => simp [intOf]; omega
       | true =>
        have HE : Hid (isL nm ⟨lnm, lver, lwr, lflow⟩ = true) := Lib.hid he
        gi_wp2_with (fail)
        refine wpIn_region_quietC_tail (KeptC wr [(⟨w2.heap.size, 0, none⟩, .int .i64 peer), (⟨wr.heap.size, 0, none⟩, .string lnm), (⟨wr.heap.size, 1, none⟩, .int .i64 lver), (⟨wr.heap.size, 2, none⟩, .int .i64 lwr), (⟨wr.heap.size, 3, none⟩, .int .i64 lflow), (⟨B5, 0, none⟩, .string nm), (⟨B3, 0, none⟩, .int .i64 id)] []) 14 (by kernel_rfl) (by kernel_rfl) (by kernel_rfl) ?_ ?_
        · refine KeptC.drewn ?_
          exact Qk
        simp only [List.take_succ_cons, List.take_zero, List.drop_succ_cons, List.drop_zero]
        repeat (first
         | go_big_quiet_skip
         | (go_big_quiet_want; (apply quietC_run); (· intro w' hw'; (have hk' := hw'; simp only [KeptC, List.forall_mem_cons] at hk'; go_split_ands); go_simp; first | done | rfl); (simp only [Act.put, List.setIfInBounds_toArray, List.set_cons_zero, List.set_cons_succ]; go_big_quiet_on))
         | (go_big_quiet_want; (apply quietC_call); (· intro w' hw'; go_simp; first | done | exact ⟨rfl, rfl⟩ | rfl); (· intro w' hw'; first | ((with_reducible refine (Rg.out_any _ _ _ _ _ _).mono ?_); rintro e w2 ⟨rfl, hb⟩; exact ⟨rfl, hw'.below hb⟩)); (simp only [Act.put, List.setIfInBounds_toArray, List.set_cons_zero, List.set_cons_succ]; go_big_quiet_on)))
        refine wpQuiet_nil ?_
        intro w9 hk9
        (have hk' := hk9; simp only [KeptC, List.forall_mem_cons] at hk'; go_split_ands); have hkB9 := hk9.1
        have hj9 := HJF.out _ _ w9 HJ1.out (Fr.below hkB9)
        obtain ⟨fn', tm', as', bo', hy, hR'⟩ := HY.out pr (outL id peer ⟨lnm, lver, lwr, lflow⟩) w9 hj9 (outL_bd id peer _) (by
         rw [HPR.out, List.length_append]
         have h1 := outsH_len id nm ⟨peer, hboot, life, some adl, ln, lc, pend, miss, lines⟩ (lines.take m)
         have h2 := List.length_take_le m lines
         have h3 := HX8.out
         have h4 := HLX.out.1
         have h5 := HPL.out
         omega)
        try simp only [encsN, outL] at hy
        have HRR := Lib.hid hR'
        clear hj9 hR'
        gi_wp2
        refine HRR.out.mono ?_
        rintro e' W3 ⟨rfl, hJ3, hK3⟩
        have HJ3 := Lib.hid hJ3
        have HL3 := Lib.hid ((HL1.out.below hkB9).kp hK3)
        have hn9 : rowB Bo w9 ≠ some w2.heap.size := by rw [rowB_same (hkB9.block Bo (by omega))]; exact HN.out
        have h90 : w9.cell? ⟨w2.heap.size, 0, none⟩ = some (.int .i64 peer) := by with_reducible assumption
        have hb3 : W3.cell? ⟨w2.heap.size, 0, none⟩ = some (.int .i64 peer) := (hK3.cell (p := ⟨w2.heap.size, 0, none⟩) h90 (by simp only []; omega) (by simp only []; omega) (.inr hn9)).1
        have HN3 : Hid (rowB Bo W3 ≠ some w2.heap.size) := Lib.hid (fun h => by
         rcases hK3.2.1 with e | ⟨r, e, hr⟩
         · rw [e] at h; exact hn9 h
         · rw [e] at h
           have h1 := Option.some.inj h
           have h2 := cell_lt h90
           simp only [] at h2
           omega)
        clear hJ3 hK3 hn9 h90
        gi_wp2
        go_roundw
        case rel => exact ⟨m + 1, pr ++ [outL id peer ⟨lnm, lver, lwr, lflow⟩], by go_num, by omega, by rw [outsH_next HXL.out, HE.out, HPR.out]; simp, HJ3, HL3, hb3, HN3⟩
        case measure => simp [intOf]; omega
end Go.Proofs.YtkfodkbgmpbmfaaGreat
namespace Go.Proofs.YtkfodkbgmpbmfaaGreat
open Go.RowKit Go.Shelf
set_option linter.unusedVariables false
set_option linter.unusedSimpArgs false
attribute [local go_sem] Oper.semAt_some
theorem KeepsFrom.setCell {B : Nat} {W : World} {p : Addr} {v : Value} (hp : p.block < B) : KeepsFrom B W (W.setCell p v) := ⟨by simp, fun k o hB hk _ => (Below.heap_setCell W p v k (by omega)).trans hk⟩
theorem Kp.setCell {D Bo Bw o : Nat} {A : World} {v : Value} (hne : Bo ≠ Bw) : Kp D Bo Bw A (A.setCell ⟨Bw, o, none⟩ v) := ⟨by simp, .inl (rowB_same (Below.heap_setCell A ⟨Bw, o, none⟩ v Bo hne)), fun b ob _ hw _ ho _ => (Below.heap_setCell A ⟨Bw, o, none⟩ v b hw).trans ho⟩
def sumT (ask : Int → Bool) (l : List (Int × Int)) : Int := ((l.filter (fun t => ask t.1)).map Prod.snd).sum
theorem sumT_snoc (ask : Int → Bool) (l : List (Int × Int)) (x : Int × Int) : sumT ask (l ++ [x]) = if ask x.1 = true then sumT ask l + x.2 else sumT ask l := by
 unfold sumT
 rw [List.filter_append, List.map_append, List.sum_append]
 split
 · rename_i h
   simp [h]
 · rename_i h
   simp [h]
def TotI (w : World) (D : Nat) (fr sg : Int) (fv : Value) (ask : Int → Bool) (pre : List (Int × Int)) (W : World) : Prop :=
 Below w.heap.size w W ∧ D ≤ W.heap.size ∧ W.cell? ⟨w.heap.size, 0, none⟩ = some (.int .i64 (fr + sg * sumT ask pre)) ∧ W.frozen? ⟨w.heap.size, 0, none⟩ = false ∧ W.cell? ⟨w.heap.size + 1, 0, none⟩ = some (.int .i64 sg) ∧ W.cell? ⟨w.heap.size + 1 + 1, 0, none⟩ = some fv ∧ -2147483647 * (pre.length : Int) ≤ sumT ask pre ∧ sumT ask pre ≤ 2147483647 * (pre.length : Int)
theorem heap_cell' {A C : World} {p : Addr} (h : C.heap[p.block]? = A.heap[p.block]?) : C.cell? p = A.cell? p ∧ C.frozen? p = A.frozen? p := by
 constructor
 · exact World.cell?_of_block h
 · unfold World.frozen?
   rw [h]
theorem TotI.fr {w A C : World} {D Bo : Nat} {fr sg : Int} {fv : Value} {ask : Int → Bool} {pre : List (Int × Int)} (h : TotI w D fr sg fv ask pre A) (hD : w.heap.size + 3 ≤ D) (hf : FrI D Bo A C) : TotI w D fr sg fv ask pre C := by
 obtain ⟨h1, h2, h3, h4, h5, h6, h7⟩ := h
 have hb : ∀ b, b < D → C.heap[b]? = A.heap[b]? := fun b hb => hf.2.1 b (by omega) (.inl hb)
 have hs := h1.size
 refine ⟨⟨hf.2.2.1.trans h1.os, hf.2.2.2.1.trans h1.tape, hf.2.2.2.2.trans h1.output, Nat.le_trans hs hf.1, fun b hb' => (hb b (by omega)).trans (h1.block b hb')⟩, Nat.le_trans h2 hf.1, ?_, ?_, ?_, ?_, h7⟩
 · exact (heap_cell' (p := ⟨w.heap.size, 0, none⟩) (hb _ (by show w.heap.size < D; omega))).1.trans h3
 · exact (heap_cell' (p := ⟨w.heap.size, 0, none⟩) (hb _ (by show w.heap.size < D; omega))).2.trans h4
 · exact (heap_cell' (p := ⟨w.heap.size + 1, 0, none⟩) (hb _ (by show w.heap.size + 1 < D; omega))).1.trans h5
 · exact (heap_cell' (p := ⟨w.heap.size + 1 + 1, 0, none⟩) (hb _ (by show w.heap.size + 1 + 1 < D; omega))).1.trans h6
theorem TotI.row {w A : World} {D : Nat} {fr sg : Int} {fv : Value} {ask : Int → Bool} {pre : List (Int × Int)} (h : TotI w D fr sg fv ask pre A) : rowB (w.heap.size + 1) A = none := by
 obtain ⟨_, _, _, _, h5, _⟩ := h
 unfold rowB
 rw [h5]
 rfl
set_option maxRecDepth 100000 in
set_option maxHeartbeats 8000000 in
theorem entries_any (id : Int) (A : Option Addr) (n cp : Nat) (nm : ByteArray) (w : World) :
    Calls Tryz.prog 168 #[.int .i64 id, .slice A n cp, .string nm] w fun e w' => e = .returned (.func (.func 191) #[] #[.pointer (some ⟨w.heap.size + 1, 0, none⟩), .pointer (some ⟨w.heap.size + 1 + 1, 0, none⟩), .pointer (some ⟨w.heap.size, 0, none⟩)]) ∧ w' = ((w.alloc (Obj.cells #[.int .i64 id] 3)).alloc (Obj.cells #[.slice A n cp] 53)).alloc (Obj.cells #[.string nm] 9) := by
 have hmf : ∀ (fn : Fn) (first cap : Array Value) (w : World), (Instr.makeFunc fn first cap).run Tryz.prog w = .ok (.func fn first cap) w := fun _ _ _ _ => rfl
 go_enter Tryz.func168, Tryz.ntmps168
 go_wp2
 go_ret
 exact ⟨rfl, rfl⟩
theorem ball_any (p : Int) (w : World) : Calls Tryz.prog 128 #[.int .i64 p] w fun e w' => e = .returned (.bool true) ∧ w' = w := by
 go_enter Tryz.func128, Tryz.ntmps128
 go_wp2
 go_ret
 exact ⟨rfl, rfl⟩
set_option maxHeartbeats 1000000 in
theorem nfits_any (a : Int) (w : World) : Calls Tryz.prog 169 #[.int .i64 a] w fun e w' => e = .returned (.bool (Rg.flowsB a)) ∧ w = w' := by
 go_enter Tryz.func169, Tryz.ntmps169
 by_cases h1 : -2147483647 ≤ a <;> by_cases h2 : a ≤ 2147483647
 all_goals go_wp2
 all_goals go_ret
 all_goals exact ⟨by simp [Rg.flowsB, h1, h2], rfl⟩
set_option maxRecDepth 100000 in
set_option maxHeartbeats 8000000 in
theorem total_all (fr sg id : Int) (A : Option Addr) (n cp : Nat) (xs : List Hf) (nm : ByteArray) (w : World) (hr : HfsAt w w.heap.size A n xs) (hn : n ≤ 16) (hl8 : ∀ h ∈ xs, h.lines.length ≤ 8) (hf1 : -4294967296 ≤ fr) (hf2 : fr ≤ 4294967296) (hsg : sg = 1 ∨ sg = -1) :
    Calls Tryz.prog 127 #[.int .i64 fr, .int .i64 sg, .int .i64 id, .slice A n cp, .string nm, .func (.func 128) #[] #[]] w fun e w' => e = .returned (.tuple #[.int .i64 (tellN (fr + sg * sumT (fun _ => true) (outsN id xs nm))).1, .int .i64 (tellN (fr + sg * sumT (fun _ => true) (outsN id xs nm))).2]) ∧ Below w.heap.size w w' := by
 have HR := Lib.hid hr
 clear hr
 refine (callsIn_wide (n := 6)).1 ?_
 refine callsIn_of_wp_marks Tryz.func127 rfl trivial ?_ rfl
 simp only [Tryz.ntmps127, List.size_toArray, List.length_cons, List.length_nil, Nat.reduceAdd, Nat.reduceSub, Array.replicate_succ, Array.replicate_zero, List.push_toArray, List.append_toArray, List.nil_append, List.cons_append]
 refine wpIn_wide.2 ?_
 go_wp2_with (fail)
 refine (entries_any id A n cp nm _).mono ?_; rintro x w2 ⟨rfl, rfl⟩
 go_wp2
 have hmx : Tryz.prog.follows .mixedOrders = true := by kernel_rfl
 obtain ⟨W0, hW0⟩ : ∃ W0, W0 = ((((((w.alloc (Obj.cells #[.int .i64 fr] 2)).alloc (Obj.cells #[.int .i64 sg] 2)).alloc (Obj.cells #[.func (.func 128) #[] #[]] 60)).alloc (Obj.cells #[.int .i64 id] 3)).alloc (Obj.cells #[.slice A n cp] 53)).alloc (Obj.cells #[.string nm] 9)) := ⟨_, rfl⟩
 have hz : W0.heap.size = w.heap.size + 6 := by rw [hW0]; simp
 have hb0 : Below w.heap.size w W0 := by rw [hW0]; exact Qb
 have hI0 : TotI w W0.heap.size fr sg (.func (.func 128) #[] #[]) (fun _ => true) [] W0 := ⟨hb0, Nat.le_refl _, by rw [hW0]; simp [sumT]; go_simp, by rw [hW0]; go_simp, by rw [hW0]; go_simp, by rw [hW0]; go_simp, by simp [sumT]⟩
 have q3 : W0.cell? ⟨w.heap.size + 3, 0, none⟩ = some (.int .i64 id) := by rw [hW0]; go_simp
 have q4 : W0.cell? ⟨w.heap.size + 4, 0, none⟩ = some (.slice A n cp) := by rw [hW0]; go_simp
 have q5 : W0.cell? ⟨w.heap.size + 5, 0, none⟩ = some (.string nm) := by rw [hW0]; go_simp
 rw [← hW0]
 clear hW0
 have hr0 := HR.out.below hb0
 refine (wpIn_wide (n := 6)).1 ?_
 refine wpIn_range_p (by omega) (gf := 191) (lb := #[.pointer (some ⟨w.heap.size + 4, 0, none⟩), .pointer (some ⟨w.heap.size + 5, 0, none⟩), .pointer (some ⟨w.heap.size + 3, 0, none⟩)]) rfl (enters_of Tryz.func191 (by kernel_rfl) rfl)
  (encs := encsN) (Pt := PtN) (Bo := w.heap.size + 1) (Bw := w.heap.size) (by omega) (entries_seq 5 (by omega) w.heap.size (w.heap.size + 4) (w.heap.size + 5) (w.heap.size + 3) (w.heap.size + 1) (w.heap.size) A n cp xs id nm W0 (by omega) (by omega) (by omega) (by omega) q4 q5 q3 hr0 (by omega) hl8 ⟨by omega, by omega⟩ ⟨by omega, by omega⟩ ⟨by omega, by omega⟩) (fun _ => rfl)
  (TotI w W0.heap.size fr sg (.func (.func 128) #[] #[]) (fun _ => true)) (fun _ _ h => ⟨h.2.1, fun r hr => by rw [h.row] at hr; cases hr⟩) (fun _ _ _ h hf => h.fr (by omega) hf) (fun _ _ _ h _ => h) hI0
  (fun x => { tmps := #[.int .i64 fr, .int .i64 sg, .int .i64 id, .slice A n cp, .string nm, .func (.func 128) #[] #[], .pointer (some ⟨w.heap.size, 0, none⟩), .pointer (some ⟨w.heap.size + 1, 0, none⟩), undef, undef, undef, .pointer (some ⟨w.heap.size + 1 + 1, 0, none⟩), .int .i64 0, .int .i64 0, .int .i64 x.1, .int .i64 x.2, .int .i64 id, .slice A n cp, .string nm, .func (.func 191) #[] #[.pointer (some ⟨w.heap.size + 1 + 1 + 1 + 1, 0, none⟩), .pointer (some ⟨w.heap.size + 1 + 1 + 1 + 1 + 1, 0, none⟩), .pointer (some ⟨w.heap.size + 1 + 1 + 1, 0, none⟩)], .int .i64 x.1, .int .i64 x.2, undef, undef, undef, undef, undef, undef, undef, undef, undef, undef, undef, undef], defers := [] }) ?assign ?body ?done
 case assign =>
  intro l x W K hK
  unfold encsN
  gi_wp2
  exact hK
 case body =>
  intro l pre x W hl hlen hI hP
  obtain ⟨i1, i2, i3, i4, i5, i6, i7, i8⟩ := hI
  obtain ⟨p1, p2⟩ := hP
  have HS := Lib.hid (sumT_snoc (fun _ => true) pre x)
  obtain ⟨S, hS⟩ : ∃ S, sumT (fun _ => true) pre = S := ⟨_, rfl⟩
  rw [hS] at i3 i7 i8
  have hpl : (pre.length : Int) ≤ 128 := by omega
  have hS1 : -274877906816 ≤ S := by omega
  have hS2 : S ≤ 274877906816 := by omega
  gi_wp2_with (fail)
  refine ⟨trivial, (CallsIn.inRound l (callsIn_wide.2 (ball_any _ _))).mono ?_⟩
  rintro e w1 ⟨rfl, hw1⟩
  subst hw1
  have hs1 : sumT (fun _ => true) (pre ++ [x]) = S + x.2 := by rw [HS.out, hS]; simp
  rcases hsg with rfl | rfl
  all_goals
   gi_wp2
   refine ⟨KeepsFrom.setCell (by show w.heap.size < _; omega), Kp.setCell (by omega), i1.setCell (Nat.le_refl _) _, by simp; omega, (World.cell?_setCell_same _ _ _ i3).trans (by rw [hs1]; refine congrArg some (congrArg (Value.int .i64) ?_); omega), by rw [World.frozen?_setCell]; exact i4, (World.cell?_setCell_far _ _ _ _ (by show w.heap.size ≠ w.heap.size + 1; omega)).trans i5, (World.cell?_setCell_far _ _ _ _ (by show w.heap.size ≠ w.heap.size + 1 + 1; omega)).trans i6, ?_, ?_⟩
   all_goals
    rw [hs1]
    simp only [List.length_append, List.length_cons, List.length_nil]
    omega
 case done =>
  intro D ys W hDw hS hI hDd
  subst hS
  obtain ⟨i1, i2, i3, i4, i5, i6, i7, i8⟩ := hI
  obtain ⟨S, hS⟩ : ∃ S, sumT (fun _ => true) (outsN id xs nm) = S := ⟨_, rfl⟩
  rw [hS] at i3 i7 i8
  have HSS := Lib.hid hS
  clear hS
  simp only [Exit.inBlock, Exit.then]
  go_wp2_with (fail)
  refine (nfits_any _ _).mono ?_; rintro e w1 ⟨rfl, hw1⟩
  subst hw1
  have hbD : Below w.heap.size w (W.putObj D (.deferred none)) := i1.trans (belowK_b (w := w) (Nat.le_refl _) W D _ _ (by omega) hDd rfl rfl)
  cases hfl : Rg.flowsB (fr + sg * S) with
  | true =>
   go_wp2
   refine ⟨by simp, .inl ⟨_, _, rfl, run_takeDeferred hDd, ?_⟩⟩
   refine ⟨.tuple #[.int .i64 (fr + sg * S), .int .i64 0], by simp [results, Tryz.results127, go_sem, *], by rw [HSS.out]; simp [tellN, hfl], hbD⟩
  | false =>
   go_wp2
   refine ⟨by simp, .inl ⟨_, _, rfl, run_takeDeferred hDd, ?_⟩⟩
   refine ⟨.tuple #[.int .i64 0, .int .i64 10], by simp [results, Tryz.results127, go_sem, *], by rw [HSS.out]; simp [tellN, hfl], hbD⟩
set_option maxRecDepth 100000 in
set_option maxHeartbeats 8000000 in
theorem estimate_any (id : Int) (inp : Int) (A : Option Addr) (n cp : Nat) (xs : List Hf) (nm : ByteArray) (w : World) (hr : HfsAt w w.heap.size A n xs) (hn : n ≤ 16) (hl8 : ∀ h ∈ xs, h.lines.length ≤ 8) (hf1 : -4294967296 ≤ inp) (hf2 : inp ≤ 4294967296) :
    Calls Tryz.prog 95 #[.int .i64 id, .int .i64 inp, .slice A n cp, .string nm] w fun e w' => e = .returned (.tuple #[.int .i64 (tellN (inp + (-1) * sumT (fun _ => true) (outsN id xs nm))).1, .int .i64 (tellN (inp + (-1) * sumT (fun _ => true) (outsN id xs nm))).2]) ∧ Below w.heap.size w w' := by
 have HR := Lib.hid hr
 clear hr
 have hmf : ∀ (fn : Fn) (first cap : Array Value) (w : World), (Instr.makeFunc fn first cap).run Tryz.prog w = .ok (.func fn first cap) w := fun _ _ _ _ => rfl
 go_enter Tryz.func95, Tryz.ntmps95
 go_wp2_with (fail)
 refine (total_all inp (-1) id A n cp xs nm _ (HR.out) hn hl8 hf1 hf2 (.inr rfl)).mono ?_; rintro e w1 ⟨rfl, hb1⟩
 have kb1 : Below w.heap.size w w1 := (Qb1 hb1)
 go_wp2
 go_ret2
 exact ⟨by first | rfl | (simp; done), kb1⟩
theorem sumT_all (l : List (Int × Int)) : sumT (fun _ => true) l = sumO l := by
 unfold sumT sumO
 congr 2
 exact List.filter_eq_self.2 (fun _ _ => rfl)
end Go.Proofs.YtkfodkbgmpbmfaaGreat
namespace Go.Proofs.YtkfodkbgmpbmfaaGreat
open Go.RowKit Go.Shelf
set_option linter.unusedVariables false
set_option linter.unusedSimpArgs false
set_option maxRecDepth 100000
theorem LocE.layX {α : Type} {enc : α → List Value} {w : World} {g n : Nat} (h : LocE enc w g) (hn : ∀ x, (enc x).length = n) (y : α) {vs : List Value} (hv : vs = enc y) : LocX enc (w.setCells g 0 vs) g y := by
 subst hv
 have ht := h.there hn
 refine ⟨by rw [size_setCells]; exact h.1, fun i u hu => ⟨?_, ?_⟩⟩
 · have := World.rangeAt_setCells_same w g 0 (enc y) (by rw [hn]; exact ht) i u hu
   rwa [Nat.zero_add] at this
 · have hi : i < n := by have := (List.getElem?_eq_some_iff.1 hu).1; rwa [hn] at this
   have := (World.there_setCells ht g 0 (enc y) i hi).2
   rwa [Nat.zero_add] at this
def flE (cs : List St) (nm : ByteArray) : Int := match findS cs nm with
 | none => 44
 | some s => if flowsK s.ch.kd = true then 0 else 46
def estB (y : Nd) (nm : ByteArray) : Int × Int := if flE y.chans nm = 0 then estN y ((findS y.chans nm).getD St0) nm else (0, flE y.chans nm)
set_option maxHeartbeats 4000000 in
theorem nflows_none (y : Nd) (nm : ByteArray) (w : World) (hy : StsAt w w.heap.size y.ca y.cn y.chans) (hm : y.cn ≤ 1000) (hf : findS y.chans nm = none) :
    Calls Tryz.prog 94 #[NdV y, .string nm] w fun e w' => e = .returned (.tuple #[.agg (stV St0).toArray, .int .i64 (flE y.chans nm)]) ∧ Below w.heap.size w w' := by
 have cf := (fun W (hb : Below w.heap.size w W) => sfind_any y.ca y.cn y.cc y.chans nm W ((hy.below hb).more hb.size) (by omega))
 rw [hf] at cf
 simp only [Option.getD_some, Option.getD_none, Option.isSome_some, Option.isSome_none] at cf
 have CF := Lib.hid cf
 clear cf hy hm
 obtain ⟨e0, he⟩ : ∃ e, flE y.chans nm = e := ⟨_, rfl⟩
 rw [he]
 unfold flE at he
 rw [hf] at he
 simp only [] at he
 obtain ⟨id, boot, ticks, wa, wn, wc, turn, sa, sn, sc, ha, hn, hc, ca, cn, cc, want, seen, halves, chans⟩ := y
 simp only [] at CF ⊢
 clear hf
 have HLa : Hid (LocE stV ((w.alloc (.cells #[.int .i64 id, .int .i64 boot, .int .i64 ticks, .slice wa wn wc, .int .i64 turn, .slice sa sn sc, .slice ha hn hc, .slice ca cn cc] 56)).alloc (.cells #[.string ⟨#[]⟩, .int .i64 0, .int .i64 0, .bool false, .int .i64 0, .int .i64 0, .bool false, .int .i64 0, .bool false, .int .i64 0, .int .i64 0, .int .i64 0, .bool false, .int .i64 0, .int .i64 0, .int .i64 0] 96)) (w.heap.size + 1)) := Lib.hid (by have h := LocE.fresh (enc := stV) (w.alloc (.cells #[.int .i64 id, .int .i64 boot, .int .i64 ticks, .slice wa wn wc, .int .i64 turn, .slice sa sn sc, .slice ha hn hc, .slice ca cn cc] 56)) #[.string ⟨#[]⟩, .int .i64 0, .int .i64 0, .bool false, .int .i64 0, .int .i64 0, .bool false, .int .i64 0, .bool false, .int .i64 0, .int .i64 0, .int .i64 0, .bool false, .int .i64 0, .int .i64 0, .int .i64 0] 96 St0 rfl; simpa using h)
 go_enter Tryz.func94, Tryz.ntmps94
 go_wp2_with (fail)
 refine (CF.out _ Qb).mono ?_; rintro e w1 ⟨rfl, hb1⟩
 have HL1 := Lib.hid (HLa.out.below hb1)
 have HB1 : Hid (Below w.heap.size w w1) := Lib.hid (Qb1 hb1)
 have hs1 : w.heap.size + 1 < w1.heap.size := HL1.out.1
 clear hb1 HLa
 have HLb : Hid (LocE stV (w1.alloc (.cells #[.string ⟨#[]⟩, .int .i64 0, .int .i64 0, .bool false, .int .i64 0, .int .i64 0, .bool false, .int .i64 0, .bool false, .int .i64 0, .int .i64 0, .int .i64 0, .bool false, .int .i64 0, .int .i64 0, .int .i64 0] 96)) w1.heap.size) := Lib.hid (LocE.fresh (enc := stV) w1 #[.string ⟨#[]⟩, .int .i64 0, .int .i64 0, .bool false, .int .i64 0, .int .i64 0, .bool false, .int .i64 0, .bool false, .int .i64 0, .int .i64 0, .int .i64 0, .bool false, .int .i64 0, .int .i64 0, .int .i64 0] 96 St0 rfl)
 have HLc := Lib.hid (HL1.out.below ((Below.refl _ _).alloc (Nat.le_refl _) (.cells #[.string ⟨#[]⟩, .int .i64 0, .int .i64 0, .bool false, .int .i64 0, .int .i64 0, .bool false, .int .i64 0, .bool false, .int .i64 0, .int .i64 0, .int .i64 0, .bool false, .int .i64 0, .int .i64 0, .int .i64 0] 96)))
 have HB2 : Hid (Below w.heap.size w (w1.alloc (.cells #[.string ⟨#[]⟩, .int .i64 0, .int .i64 0, .bool false, .int .i64 0, .int .i64 0, .bool false, .int .i64 0, .bool false, .int .i64 0, .int .i64 0, .int .i64 0, .bool false, .int .i64 0, .int .i64 0, .int .i64 0] 96))) := Lib.hid (Qb1 HB1.out)
 go_upto_region 2 with ((with_reducible show wpList _ _ _ (_ :: _) _ _); refine wpList_store_lay rfl 96 (.tmp 6) (.tmp 13) rfl w1.heap.size 0 (stV St0).toArray rfl rfl (HLb.out.there stV_len) (by kernel_rfl) (all_oneCell_toArray (stV_one St0)) (fun w' => LocX stV w' w1.heap.size St0 ∧ LocE stV w' (w.heap.size + 1) ∧ Below w.heap.size w w') ⟨HLb.out.layX stV_len St0 rfl, HLc.out.otherS (by omega) _ _, Below.setCells (by omega) _ _ _ HB2.out⟩ ?_; rintro w2 ⟨hX2, hL2, hB2⟩; have HX2 := Lib.hid hX2; have HL2 := Lib.hid hL2; have HB3 := Lib.hid hB2; clear hX2 hL2 hB2 HLb HLc HB2)
 subst he
 go_wp2_with (first | ((with_reducible show wpList _ _ _ (_ :: _) _ _); refine wpList_load_mid rfl 96 (.tmp 6) rfl w1.heap.size 0 rfl (stV St0) _ HX2.out.range Tryz.underlying96 rfl (by kernel_rfl) ?_) | ((with_reducible show wpList _ _ _ (_ :: _) _ _); refine wpList_store_lay rfl 96 (.tmp 4) (.tmp 18) rfl (w.heap.size + 1) 0 (stV St0).toArray rfl rfl (HL2.out.there stV_len) (by kernel_rfl) (all_oneCell_toArray (stV_one St0)) (fun w' => w'.rangeAt (w.heap.size + 1) 0 (stV St0) ∧ Below w.heap.size w w') ⟨World.rangeAt_setCells_same _ _ _ _ (HL2.out.there stV_len), Below.setCells (by omega) _ _ _ HB3.out⟩ ?_; rintro wz ⟨hYz, hBz⟩))
 refine bodyPost_ret (results_cell_mid2 (p := 4) (u := 5) (ty := 96) rfl _ _ (w.heap.size + 1) (stV St0) _ rfl hYz Tryz.underlying96 rfl (by kernel_rfl)) rfl ⟨?_, hBz⟩
 rfl
set_option maxHeartbeats 4000000 in
theorem nflows_some (y : Nd) (nm : ByteArray) (w : World) (hy : StsAt w w.heap.size y.ca y.cn y.chans) (hm : y.cn ≤ 1000) (s : St) (hf : findS y.chans nm = some s) :
    Calls Tryz.prog 94 #[NdV y, .string nm] w fun e w' => e = .returned (.tuple #[.agg (stV s).toArray, .int .i64 (flE y.chans nm)]) ∧ Below w.heap.size w w' := by
 have cf := (fun W (hb : Below w.heap.size w W) => sfind_any y.ca y.cn y.cc y.chans nm W ((hy.below hb).more hb.size) (by omega))
 rw [hf] at cf
 simp only [Option.getD_some, Option.getD_none, Option.isSome_some, Option.isSome_none] at cf
 have CF := Lib.hid cf
 clear cf hy hm
 obtain ⟨e0, he⟩ : ∃ e, flE y.chans nm = e := ⟨_, rfl⟩
 rw [he]
 unfold flE at he
 rw [hf] at he
 simp only [] at he
 obtain ⟨id, boot, ticks, wa, wn, wc, turn, sa, sn, sc, ha, hn, hc, ca, cn, cc, want, seen, halves, chans⟩ := y
 simp only [] at CF ⊢
 clear hf
 have HLa : Hid (LocE stV ((w.alloc (.cells #[.int .i64 id, .int .i64 boot, .int .i64 ticks, .slice wa wn wc, .int .i64 turn, .slice sa sn sc, .slice ha hn hc, .slice ca cn cc] 56)).alloc (.cells #[.string ⟨#[]⟩, .int .i64 0, .int .i64 0, .bool false, .int .i64 0, .int .i64 0, .bool false, .int .i64 0, .bool false, .int .i64 0, .int .i64 0, .int .i64 0, .bool false, .int .i64 0, .int .i64 0, .int .i64 0] 96)) (w.heap.size + 1)) := Lib.hid (by have h := LocE.fresh (enc := stV) (w.alloc (.cells #[.int .i64 id, .int .i64 boot, .int .i64 ticks, .slice wa wn wc, .int .i64 turn, .slice sa sn sc, .slice ha hn hc, .slice ca cn cc] 56)) #[.string ⟨#[]⟩, .int .i64 0, .int .i64 0, .bool false, .int .i64 0, .int .i64 0, .bool false, .int .i64 0, .bool false, .int .i64 0, .int .i64 0, .int .i64 0, .bool false, .int .i64 0, .int .i64 0, .int .i64 0] 96 St0 rfl; simpa using h)
 go_enter Tryz.func94, Tryz.ntmps94
 go_wp2_with (fail)
 refine (CF.out _ Qb).mono ?_; rintro e w1 ⟨rfl, hb1⟩
 have HL1 := Lib.hid (HLa.out.below hb1)
 have HB1 : Hid (Below w.heap.size w w1) := Lib.hid (Qb1 hb1)
 have hs1 : w.heap.size + 1 < w1.heap.size := HL1.out.1
 clear hb1 HLa
 have HLb : Hid (LocE stV (w1.alloc (.cells #[.string ⟨#[]⟩, .int .i64 0, .int .i64 0, .bool false, .int .i64 0, .int .i64 0, .bool false, .int .i64 0, .bool false, .int .i64 0, .int .i64 0, .int .i64 0, .bool false, .int .i64 0, .int .i64 0, .int .i64 0] 96)) w1.heap.size) := Lib.hid (LocE.fresh (enc := stV) w1 #[.string ⟨#[]⟩, .int .i64 0, .int .i64 0, .bool false, .int .i64 0, .int .i64 0, .bool false, .int .i64 0, .bool false, .int .i64 0, .int .i64 0, .int .i64 0, .bool false, .int .i64 0, .int .i64 0, .int .i64 0] 96 St0 rfl)
 have HLc := Lib.hid (HL1.out.below ((Below.refl _ _).alloc (Nat.le_refl _) (.cells #[.string ⟨#[]⟩, .int .i64 0, .int .i64 0, .bool false, .int .i64 0, .int .i64 0, .bool false, .int .i64 0, .bool false, .int .i64 0, .int .i64 0, .int .i64 0, .bool false, .int .i64 0, .int .i64 0, .int .i64 0] 96)))
 have HB2 : Hid (Below w.heap.size w (w1.alloc (.cells #[.string ⟨#[]⟩, .int .i64 0, .int .i64 0, .bool false, .int .i64 0, .int .i64 0, .bool false, .int .i64 0, .bool false, .int .i64 0, .int .i64 0, .int .i64 0, .bool false, .int .i64 0, .int .i64 0, .int .i64 0] 96))) := Lib.hid (Qb1 HB1.out)
 go_upto_region 2 with ((with_reducible show wpList _ _ _ (_ :: _) _ _); refine wpList_store_lay rfl 96 (.tmp 6) (.tmp 13) rfl w1.heap.size 0 (stV s).toArray rfl rfl (HLb.out.there stV_len) (by kernel_rfl) (all_oneCell_toArray (stV_one s)) (fun w' => LocX stV w' w1.heap.size s ∧ LocE stV w' (w.heap.size + 1) ∧ Below w.heap.size w w') ⟨HLb.out.layX stV_len s rfl, HLc.out.otherS (by omega) _ _, Below.setCells (by omega) _ _ _ HB2.out⟩ ?_; rintro w2 ⟨hX2, hL2, hB2⟩; have HX2 := Lib.hid hX2; have HL2 := Lib.hid hL2; have HB3 := Lib.hid hB2; clear hX2 hL2 hB2 HLb HLc HB2)
 have CK : Hid (∀ W, Calls Tryz.prog 69 #[.int .i64 s.ch.kd] W fun x w' => x = .returned (.bool (flowsK s.ch.kd)) ∧ Below W.heap.size W w') := Lib.hid (fun W => sflows_any s.ch.kd W)
 generalize flowsK s.ch.kd = fk at CK he
 have c4 := (HX2.out.2 4 _ rfl).1
 have hs2 : w1.heap.size < w2.heap.size := HX2.out.1
 go_wp2_with (fail)
 refine (CK.out _).mono ?_; rintro e w3 ⟨rfl, hb3⟩
 have HX3 := Lib.hid (HX2.out.below hb3 hs2)
 have HL3 := Lib.hid (HL2.out.below hb3)
 have HB4 : Hid (Below w.heap.size w w3) := Lib.hid (HB3.out.trans (hb3.mono HB3.out.size))
 clear hb3 c4
 cases fk with
 | false =>
  simp only [Bool.false_eq_true, if_false] at he
  subst he
  go_wp2_with (first | ((with_reducible show wpList _ _ _ (_ :: _) _ _); refine wpList_load_mid rfl 96 (.tmp 6) rfl w1.heap.size 0 rfl (stV s) _ HX3.out.range Tryz.underlying96 rfl (by kernel_rfl) ?_) | ((with_reducible show wpList _ _ _ (_ :: _) _ _); refine wpList_store_lay rfl 96 (.tmp 4) (.tmp 25) rfl (w.heap.size + 1) 0 (stV s).toArray rfl rfl (HL3.out.there stV_len) (by kernel_rfl) (all_oneCell_toArray (stV_one s)) (fun w' => w'.rangeAt (w.heap.size + 1) 0 (stV s) ∧ Below w.heap.size w w') ⟨World.rangeAt_setCells_same _ _ _ _ (HL3.out.there stV_len), Below.setCells (by omega) _ _ _ HB4.out⟩ ?_; rintro wz ⟨hYz, hBz⟩))
  refine bodyPost_ret (results_cell_mid2 (p := 4) (u := 5) (ty := 96) rfl _ _ (w.heap.size + 1) (stV s) _ rfl hYz Tryz.underlying96 rfl (by kernel_rfl)) rfl ⟨?_, hBz⟩
  rfl
 | true =>
  simp only [if_true] at he
  subst he
  go_wp2_with (first | ((with_reducible show wpList _ _ _ (_ :: _) _ _); refine wpList_load_mid rfl 96 (.tmp 6) rfl w1.heap.size 0 rfl (stV s) _ HX3.out.range Tryz.underlying96 rfl (by kernel_rfl) ?_) | ((with_reducible show wpList _ _ _ (_ :: _) _ _); refine wpList_store_lay rfl 96 (.tmp 4) (.tmp 26) rfl (w.heap.size + 1) 0 (stV s).toArray rfl rfl (HL3.out.there stV_len) (by kernel_rfl) (all_oneCell_toArray (stV_one s)) (fun w' => w'.rangeAt (w.heap.size + 1) 0 (stV s) ∧ Below w.heap.size w w') ⟨World.rangeAt_setCells_same _ _ _ _ (HL3.out.there stV_len), Below.setCells (by omega) _ _ _ HB4.out⟩ ?_; rintro wz ⟨hYz, hBz⟩))
  refine bodyPost_ret (results_cell_mid2 (p := 4) (u := 5) (ty := 96) rfl _ _ (w.heap.size + 1) (stV s) _ rfl hYz Tryz.underlying96 rfl (by kernel_rfl)) rfl ⟨?_, hBz⟩
  rfl
theorem nflows_any (y : Nd) (nm : ByteArray) (w : World) (hy : StsAt w w.heap.size y.ca y.cn y.chans) (hm : y.cn ≤ 1000) :
    Calls Tryz.prog 94 #[NdV y, .string nm] w fun e w' => e = .returned (.tuple #[.agg (stV ((findS y.chans nm).getD St0)).toArray, .int .i64 (flE y.chans nm)]) ∧ Below w.heap.size w w' := by
 cases hf : findS y.chans nm with
 | none => exact nflows_none y nm w hy hm hf
 | some s => exact nflows_some y nm w hy hm s hf
end Go.Proofs.YtkfodkbgmpbmfaaGreat
