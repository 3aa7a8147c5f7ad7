/- Chapter 22, parts on the way: Yv Yr Yw -/
import Derived.Test.YtkfodkbgmpbmfaaGreatB01
import Derived.Test.YtkfodkbgmpbmfaaGreatB36
import Derived.Test.YtkfodkbgmpbmfaaGreatB37
import Derived.Test.YtkfodkbgmpbmfaaGreatB38
import Derived.Test.YtkfodkbgmpbmfaaGreatB39
set_option linter.unusedVariables false
set_option linter.unusedSimpArgs false
namespace Go.Proofs.YtkfodkbgmpbmfaaGreat
open Go.RowKit
set_option linter.unusedVariables false
set_option linter.unusedSimpArgs false
section
variable {P : Program} {ops : Array Oper} {md : Region.Mode} {Q' : Exit → Act → World → Prop}
theorem ready_all (hdag : ∀ (i : Nat) o, ops[i]? = some o → ∀ e ∈ o.after, e.on < i) {l : Array Bool} (hl : l.size = ops.size) (h : Region.ready md ops l = []) : ∀ (i : Nat), i < ops.size → l.getD i true = true := by
 intro i
 induction i using Nat.strongRecOn with
 | _ i ih =>
  intro hi
  cases hc : l.getD i true with
  | true => rfl
  | false =>
   have : i ∈ Region.ready md ops l := mem_ready.2 ⟨hc, ops[i], Array.getElem?_eq_getElem hi, fun e he _ => by
    have h1 := hdag i _ (Array.getElem?_eq_getElem hi) e he
    have h2 := ih e.on h1 (by omega)
    simp only [Array.getD, show e.on < l.size by omega, dif_pos] at h2 ⊢
    exact h2⟩
   rw [h] at this
   cases this
theorem getD_same {l : Array Bool} {i : Nat} (hi : i < l.size) : l.getD i true = l.getD i false := by simp only [Array.getD, hi, dif_pos]
theorem count_set {l : Array Bool} {i : Nat} (hi : i < l.size) (h : l.getD i true = false) : (l.setIfInBounds i true).toList.countP (fun b => !b) + 1 = l.toList.countP (fun b => !b) := by
 have hi' : i < l.toList.length := by simpa using hi
 have h1 : l.toList[i] = false := by
  simp only [Array.getD, hi, dif_pos] at h
  simpa using h
 rw [Array.toList_setIfInBounds, List.set_eq_take_append_cons_drop, if_pos hi']
 have h2 : l.toList = l.toList.take i ++ false :: l.toList.drop (i + 1) := by
  rw [← h1, List.getElem_cons_drop, List.take_append_drop]
 conv => rhs; rw [h2]
 simp only [List.countP_append, List.countP_cons]
 simp
 omega
theorem wpAny_of_J (J : Array Bool → Act → World → Prop) (hdag : ∀ (i : Nat) o, ops[i]? = some o → ∀ e ∈ o.after, e.on < i)
    (hstep : ∀ (l : Array Bool) a w i, l.size = ops.size → i < ops.size → l.getD i true = false → (∀ o, ops[i]? = some o → ∀ e ∈ o.after, Region.binds md e = true → l.getD e.on false = true) → J l a w → wpOp P ops Q' i (fun a' w' => J (l.setIfInBounds i true) a' w') a w)
    (hend : ∀ (l : Array Bool) a w, (∀ i, i < ops.size → l.getD i false = true) → J l a w → Q' .normal a w) :
    ∀ (fuel : Nat) (l : Array Bool) (a : Act) (w : World), l.size = ops.size → l.toList.countP (fun b => !b) ≤ fuel → J l a w → wpAny P md ops Q' fuel l a w
 | 0, l, a, w, hl, hf, hJ => by
  have hall : ∀ (i : Nat), i < ops.size → l.getD i true = true := fun i hi => by
   have hi' : i < l.size := by omega
   have h1 := List.countP_eq_zero.1 (Nat.le_zero.1 hf) l[i] (by simp)
   simp only [Array.getD, hi', dif_pos]
   simpa using h1
  refine ⟨?_, hend l a w (fun i hi => by rw [← getD_same (by omega)]; exact hall i hi) hJ⟩
  cases hr : Region.ready md ops l with
  | nil => rfl
  | cons i rest =>
   have hi : i ∈ Region.ready md ops l := by rw [hr]; exact List.mem_cons_self
   obtain ⟨h0, o, ho, _⟩ := mem_ready.1 hi
   rw [hall i (Array.getElem?_eq_some_iff.1 ho).1] at h0
   cases h0
 | fuel + 1, l, a, w, hl, hf, hJ => by
  refine ⟨fun h => hend l a w (fun i hi => by rw [← getD_same (by omega)]; exact ready_all hdag hl h i hi) hJ, fun i hi => ?_⟩
  obtain ⟨h0, o, ho, hd⟩ := mem_ready.1 hi
  have hlt := (Array.getElem?_eq_some_iff.1 ho).1
  refine wpOp_mono (fun a' w' hJ' => wpAny_of_J J hdag hstep hend fuel _ a' w' (by simpa using hl) ?_ hJ') (hstep l a w i hl hlt h0 (fun o' ho' => by obtain rfl := Option.some.inj (ho.symm.trans ho'); exact hd) hJ)
  have := count_set (by omega) h0
  omega
theorem wp_region_J {id : Nat} {a : Act} {w : World} (J : Array Bool → Act → World → Prop) (hm : P.follows .mixedOrders = true) (hdag : ∀ (i : Nat) o, ops[i]? = some o → ∀ e ∈ o.after, e.on < i)
    (h0 : J (Array.replicate ops.size false) a { w with drawn := w.drawn + 1 })
    (hstep : ∀ (l : Array Bool) a w i, l.size = ops.size → i < ops.size → l.getD i true = false → (∀ o, ops[i]? = some o → ∀ e ∈ o.after, Region.binds .any e = true → l.getD e.on false = true) → J l a w → wpOp P ops Q' i (fun a' w' => J (l.setIfInBounds i true) a' w') a w)
    (hend : ∀ (l : Array Bool) a w, (∀ i, i < ops.size → l.getD i false = true) → J l a w → Q' .normal a w) : (Code.region id ops true).wp P Q' a w :=
 wp_region_any hm (wpAny_of_J J hdag hstep hend _ _ a _ (by simp) (by
  refine Nat.le_trans List.countP_le_length ?_
  simp) h0)
theorem wpOp_of {i : Nat} {o : Oper} {a : Act} {w : World} {K : Act → World → Prop} (ho : ops[i]? = some o) (hg : o.guard = none) (h : o.wp P a w K Q') : wpOp P ops Q' i K a w := by
 unfold wpOp
 simp only [ho]
 rw [if_pos (by unfold Region.wanted; rw [hg])]
 exact .inl h
theorem Oper.wp_val {o : Oper} {a : Act} {w w' : World} {v : Value} {K : Act → World → Prop} (h : (execOp a.eval o).run P w = .ok (.value v) w') (hk : K (a.put o.dst v) w') : o.wp P a w K Q' := by
 unfold Oper.wp
 rw [h]
 exact hk
theorem Oper.wp_skip {o : Oper} {a : Act} {w w' : World} {K : Act → World → Prop} (h : (execOp a.eval o).run P w = .ok .skip w') (hk : K (a.put o.dst undef) w') : o.wp P a w K Q' := by
 unfold Oper.wp
 rw [h]
 exact hk
theorem name_act {c : Code} {a : Act} {w : World} (h : ∀ a0, a0 = a → c.wp P Q' a0 w) : c.wp P Q' a w := h a rfl
end
theorem LocX.al {α : Type} {enc : α → List Value} {w : World} {g : Nat} {x : α} {o : Obj} (h : LocX enc w g x) : LocX enc (w.alloc o) g x := h.below ((Below.refl _ _).alloc (Nat.le_refl _) _) h.1
theorem LocX.new {α : Type} {enc : α → List Value} {w : World} {g : Nat} {x : α} {C : Array Value} {t : TypeId} (hg : w.heap.size = g) (hC : C.toList = enc x) : LocX enc (w.alloc (.cells C t)) g x := by
 subst hg
 exact LocX.fresh w C t x hC
theorem set_true {l : Array Bool} {i j : Nat} (hi : i < l.size) (h : (l.setIfInBounds i true).getD j false = true) : j = i ∨ l.getD j false = true := by
 by_cases e : i = j
 · exact .inl e.symm
 · rw [getD_set_ne false e] at h
   exact .inr h
end Go.Proofs.YtkfodkbgmpbmfaaGreat
namespace Go.Proofs.YtkfodkbgmpbmfaaGreat
open Go.RowKit Go.Shelf
set_option linter.unusedVariables false
set_option linter.unusedSimpArgs false
set_option maxRecDepth 100000
theorem sumErr_ge {x : Wd} {nm : ByteArray} {a : Int} (h : ¬ (0 ≤ a ∧ a < x.nds.length)) : sumErr x nm a = (0, 0, 40) := by unfold sumErr; rw [if_pos h]
theorem sumErr_dn {x : Wd} {nm : ByteArray} {a : Int} (h : 0 ≤ a ∧ a < x.nds.length) (hu : upN x a = none) : sumErr x nm a = (0, 0, 51) := by unfold sumErr; rw [if_neg (by simpa using h), hu]
theorem sumErr_up {x : Wd} {nm : ByteArray} {a : Int} {u : Nd} (h : 0 ≤ a ∧ a < x.nds.length) (hu : upN x a = some u) : (sumErr x nm a).2.2 = (estB u nm).2 ∧ (sumErr x nm a).1 = (estB u nm).1 ∧ ((estB u nm).2 = 0 → (sumErr x nm a).2.1 = ((findS u.chans nm).getD St0).inp) := by
 have e : sumErr x nm a = (match findS u.chans nm with
  | none => (0, 0, 44)
  | some s => if flowsK s.ch.kd = true then ((estN u s nm).1, s.inp, (estN u s nm).2) else (0, 0, 46)) := by unfold sumErr; rw [if_neg (by simpa using h), hu]; rfl
 rw [e]
 unfold estB flE
 cases hf : findS u.chans nm with
 | none => exact ⟨rfl, rfl, fun h => by cases h⟩
 | some s =>
  simp only [Option.getD_some]
  cases hk : flowsK s.ch.kd with
  | true => simp
  | false => simp
theorem sums_next {x : Wd} {nm : ByteArray} {set : List Int} {k : Nat} {a X Y : Int} (h : set[k]? = some a) (e : (sumErr x nm a).2.2 = 0) : sumsB x nm (set.drop k) X Y = sumsB x nm (set.drop (k + 1)) (wrap64 (X + (sumErr x nm a).1)) (wrap64 (Y + (sumErr x nm a).2.1)) := by
 obtain ⟨hk, rfl⟩ := List.getElem?_eq_some_iff.1 h
 rw [List.drop_eq_getElem_cons hk]
 show (if _ then _ else _) = _
 rw [if_pos e]
theorem sums_stop {x : Wd} {nm : ByteArray} {set : List Int} {k : Nat} {a X Y : Int} (h : set[k]? = some a) (e : (sumErr x nm a).2.2 ≠ 0) : sumsB x nm (set.drop k) X Y = (0, 0, (sumErr x nm a).2.2) := by
 obtain ⟨hk, rfl⟩ := List.getElem?_eq_some_iff.1 h
 rw [List.drop_eq_getElem_cons hk]
 show (if _ then _ else _) = _
 rw [if_neg e]
theorem sums_end {x : Wd} {nm : ByteArray} {set : List Int} {k : Nat} {X Y : Int} (h : set.length ≤ k) : sumsB x nm (set.drop k) X Y = (X, Y, 0) := by
 rw [List.drop_eq_nil_of_le h]
 rfl
set_option maxHeartbeats 8000000 in
theorem vsums_any (x : Wd) (nm : ByteArray) (A : Option Addr) (n c : Nat) (set : List Int) (w : World) (hx : WdOk w x) (hs : RowsE encI 1 w w.heap.size A n set) (hm : n ≤ 70368744177664) :
    Calls Tryz.prog 21 #[WdV x, .slice A n c, .string nm] w fun e w' => e = .returned (.tuple #[.int .i64 (sumsB x nm set 0 0).1, .int .i64 (sumsB x nm set 0 0).2.1, .int .i64 (sumsB x nm set 0 0).2.2]) ∧ Below w.heap.size w w' := by
 have CU := Lib.hid (fun (a : Int) W (hb : Below w.heap.size w W) => up_any x a W (hx.below hb))
 have HE := Lib.hid (fun (a : Int) W (hb : Below w.heap.size w W) => WdOk.est (hx.below hb) a nm)
 have HS := Lib.hid hs
 have HLS : Hid (set.length = n) := Lib.hid hs.1
 have HLN : Hid (x.nds.length = x.nn ∧ x.nn ≤ 16) := Lib.hid ⟨hx.len.1, by have := hx.len.1; have := hx.fit.n1; omega⟩
 have HGE := Lib.hid (fun (a : Int) (h : ¬ (0 ≤ a ∧ a < x.nn)) => sumErr_ge (nm := nm) (x := x) (a := a) (by rw [HLN.out.1]; exact h))
 have HDN := Lib.hid (fun (a : Int) (h : 0 ≤ a ∧ a < x.nn) (hu : upN x a = none) => sumErr_dn (nm := nm) (x := x) (a := a) (by rw [HLN.out.1]; exact h) hu)
 have HUP := Lib.hid (fun (a : Int) (u : Nd) (h : 0 ≤ a ∧ a < x.nn) (hu : upN x a = some u) => sumErr_up (nm := nm) (x := x) (a := a) (by rw [HLN.out.1]; exact h) hu)
 have HNX := Lib.hid (fun k a X Y (h : set[k]? = some a) (e : (sumErr x nm a).2.2 = 0) => sums_next (X := X) (Y := Y) h e)
 have HST := Lib.hid (fun k a X Y (h : set[k]? = some a) (e : (sumErr x nm a).2.2 ≠ 0) => sums_stop (X := X) (Y := Y) h e)
 have HEN := Lib.hid (fun k X Y (h : set.length ≤ k) => sums_end (x := x) (nm := nm) (X := X) (Y := Y) h)
 obtain ⟨S, hS⟩ : ∃ S : Nat → Int → Int → Int × Int × Int, S = fun k X Y => sumsB x nm (set.drop k) X Y := ⟨_, rfl⟩
 have HS0 : Hid (sumsB x nm set 0 0 = S 0 0 0) := Lib.hid (by rw [hS]; rfl)
 replace HNX : Hid (∀ k a X Y, set[k]? = some a → (sumErr x nm a).2.2 = 0 → S k X Y = S (k + 1) (wrap64 (X + (sumErr x nm a).1)) (wrap64 (Y + (sumErr x nm a).2.1))) := Lib.hid (by rw [hS]; exact HNX.out)
 replace HST : Hid (∀ k a X Y, set[k]? = some a → (sumErr x nm a).2.2 ≠ 0 → S k X Y = (0, 0, (sumErr x nm a).2.2)) := Lib.hid (by rw [hS]; exact HST.out)
 replace HEN : Hid (∀ k X Y, set.length ≤ k → S k X Y = (X, Y, 0)) := Lib.hid (by rw [hS]; exact HEN.out)
 rw [HS0.out]
 generalize hT : S 0 0 0 = T
 have HT0 := Lib.hid hT
 clear hS HS0 hT
 clear hx hs
 generalize sumErr x nm = sE at HGE HDN HUP HNX HST
 generalize upN x = U at CU HE HDN HUP
 obtain ⟨T1, T2, T3⟩ := T
 obtain ⟨na, nn, nc, ua, un, uc, da, dn, dc, nx, la, ll, lc, sa, sl, sc, lost, nds, ups⟩ := x
 simp only [] at CU HGE HDN HUP HLN ⊢
 go_enter Tryz.func21, Tryz.ntmps21
 go_wp2
 go_loopw [21, 9, 10] (fun i p q w' => ∃ (k : Nat) (X Y : Int), k ≤ n ∧ i = .int .i64 k ∧ p = .int .i64 X ∧ q = .int .i64 Y ∧ Hid (S k X Y = (T1, T2, T3)) ∧ KeptC w [(⟨w.heap.size, 0, none⟩, .slice na nn nc), (⟨w.heap.size, 1, none⟩, .slice ua un uc), (⟨w.heap.size, 2, none⟩, .slice da dn dc), (⟨w.heap.size, 3, none⟩, .int .i64 nx), (⟨w.heap.size, 4, none⟩, .slice la ll lc), (⟨w.heap.size, 5, none⟩, .slice sa sl sc), (⟨w.heap.size, 6, none⟩, .int .i64 lost)] [] w') (fun i _ _ _ => n - (intOf i).toNat)
 case atStart => exact ⟨0, 0, 0, Nat.zero_le _, rfl, rfl, rfl, HT0, Qk⟩
 case round =>
  obtain ⟨k, X, Y, hk, rfl, rfl, rfl, HT, hK⟩ := hrel
  simp only [KeptC, List.forall_mem_cons] at hK; obtain ⟨kb0, ⟨kc0_0, kc0_1, kc0_2, kc0_3, kc0_4, kc0_5, kc0_6, _⟩, _⟩ := hK
  have hs0 := kb0.size
  have hz0 : w.heap.size < wr.heap.size := cell_lt kc0_0
  by_cases hlt : k < n
  rotate_left
  · obtain rfl : k = n := by omega
    have HC : Hid ((X, Y, (0 : Int)) = (T1, T2, T3)) := Lib.hid (by rw [← HT.out, HEN.out k X Y (Nat.le_of_eq HLS.out)])
    have h1 := HC.out
    injection h1 with h1 h2
    injection h2 with h2 h3
    subst h1 h2 h3
    clear HC HT HT0 HEN
    go_wp2
    go_ret3
    exact ⟨rfl, kb0⟩
  · obtain ⟨ad, a, rfl, hab, ha, h4⟩ := HS.out.at hlt
    rw [Nat.mul_one] at h4 hab
    have c0 : wr.cell? (ad.add k) = some (.int .i64 a) := by have := h4 0 _ rfl; rw [Bg.add_z] at this; exact (kb0.cell hab).trans this
    have HA := Lib.hid ha
    have hwk : IntKind.i64.wrap ((k : Int) + 1) = (k : Int) + 1 := by rw [IntKind.wrap_i64]; omega
    clear h4 ha
    by_cases hr : 0 ≤ a ∧ a < nn
    rotate_left
    · have HE0 : Hid ((T1, T2, T3) = ((0 : Int), (0 : Int), (40 : Int))) := Lib.hid (by
        have e := HGE.out a hr
        rw [← HT.out, HST.out k a X Y HA.out (by rw [e]; decide), e])
      have h1 := HE0.out
      injection h1 with h1 h2
      injection h2 with h2 h3
      subst h1 h2 h3
      clear HE0 HT HT0
      by_cases ha0 : a < 0
      · clear hr
        go_wp2
        go_ret3
        exact ⟨rfl, kb0⟩
      · have hge : (nn : Int) ≤ a := by omega
        clear hr
        go_wp2
        go_ret3
        exact ⟨rfl, kb0⟩
    · obtain ⟨w1, h⟩ : ∃ w1, w1 = wr := ⟨_, rfl⟩
      subst h
      have hr1 : ¬ a < 0 := by omega
      have hr2 : ¬ (nn : Int) ≤ a := by omega
      have cu := CU.out a
      have he := HE.out a
      cases hU : U a with
      | none =>
       have HE0 : Hid ((T1, T2, T3) = ((0 : Int), (0 : Int), (51 : Int))) := Lib.hid (by
        have e := HDN.out a hr hU
        rw [← HT.out, HST.out k a X Y HA.out (by rw [e]; decide), e])
       have h1 := HE0.out
       injection h1 with h1 h2
       injection h2 with h2 h3
       subst h1 h2 h3
       rw [hU] at cu
       simp only [Option.getD_none, Option.isSome_none] at cu
       have CU2 := Lib.hid cu
       clear HE0 HT HT0 cu he hU hr
       go_wp2_with (fail)
       refine (CU2.out _ (Qb1 kb0)).mono ?_; rintro e w2 ⟨rfl, hb2⟩
       have hsz2 := hb2.size
       go_wp2
       go_ret3
       exact ⟨rfl, (Qb2 hb2 kb0)⟩
      | some u =>
       obtain ⟨e1, e2, e3⟩ := HUP.out a u hr hU
       rw [hU] at cu he
       simp only [Option.getD_some, Option.isSome_some] at cu he
       have CU2 := Lib.hid cu
       have HE2 := Lib.hid he
       have CF := Lib.hid (fun W (hb : Below w.heap.size w W) => sfind_any u.ca u.cn u.cc u.chans nm W (HE2.out W hb).nd.2.2.2 (by have := (HE2.out W hb).cn; omega))
       have ce := (fun W (hb : Below w.heap.size w W) => nest_any u nm W (HE2.out W hb).nd (HE2.out W hb).cn (HE2.out W hb).hn (HE2.out W hb).l8 (HE2.out W hb).pr (HE2.out W hb).f1 (HE2.out W hb).f2)
       have HST2 := Lib.hid (HST.out k a X Y HA.out)
       have HNX2 := Lib.hid (HNX.out k a X Y HA.out)
       generalize sE a = s at e1 e2 e3 HST2 HNX2
       obtain ⟨sx, sy, se⟩ := s
       simp only [] at e1 e2 e3 HST2 HNX2
       rw [← e1, ← e2] at ce
       rw [← e1] at e3
       have E3 := Lib.hid e3
       have CE := Lib.hid ce
       clear cu he ce e1 e2 e3 hU hr
       go_wp2_with (fail)
       refine (CU2.out _ (Qb1 kb0)).mono ?_; rintro e w2 ⟨rfl, hb2⟩
       have hk2 : KeptC w [(⟨w.heap.size, 0, none⟩, .slice na nn nc), (⟨w.heap.size, 1, none⟩, .slice ua un uc), (⟨w.heap.size, 2, none⟩, .slice da dn dc), (⟨w.heap.size, 3, none⟩, .int .i64 nx), (⟨w.heap.size, 4, none⟩, .slice la ll lc), (⟨w.heap.size, 5, none⟩, .slice sa sl sc), (⟨w.heap.size, 6, none⟩, .int .i64 lost)] [] w2 := by
        refine KeptC.below ?_ hb2
        exact Qk1 kb0
       simp only [KeptC, List.forall_mem_cons] at hk2; obtain ⟨kb2, ⟨kc2_0, kc2_1, kc2_2, kc2_3, kc2_4, kc2_5, kc2_6, _⟩, _⟩ := hk2
       have hz2 : w.heap.size < w2.heap.size := cell_lt kc2_0
       clear hb2 kb0 hz0 hs0 kc0_0 kc0_1 kc0_2 kc0_3 kc0_4 kc0_5 kc0_6 c0 hr1 hr2
       go_wp2_with (fail)
       refine (CE.out _ (Qb1 kb2)).mono ?_; rintro e w3 ⟨rfl, hb3⟩
       have hk3 : KeptC w [(⟨w.heap.size, 0, none⟩, .slice na nn nc), (⟨w.heap.size, 1, none⟩, .slice ua un uc), (⟨w.heap.size, 2, none⟩, .slice da dn dc), (⟨w.heap.size, 3, none⟩, .int .i64 nx), (⟨w.heap.size, 4, none⟩, .slice la ll lc), (⟨w.heap.size, 5, none⟩, .slice sa sl sc), (⟨w.heap.size, 6, none⟩, .int .i64 lost), (⟨w2.heap.size, 0, none⟩, .int .i64 u.id), (⟨w2.heap.size, 1, none⟩, .int .i64 u.boot), (⟨w2.heap.size, 2, none⟩, .int .i64 u.ticks), (⟨w2.heap.size, 3, none⟩, .slice u.wa u.wn u.wc), (⟨w2.heap.size, 4, none⟩, .int .i64 u.turn), (⟨w2.heap.size, 5, none⟩, .slice u.sa u.sn u.sc), (⟨w2.heap.size, 6, none⟩, .slice u.ha u.hn u.hc), (⟨w2.heap.size, 7, none⟩, .slice u.ca u.cn u.cc)] [] w3 := by
        refine KeptC.below ?_ hb3
        exact Qk1 kb2
       simp only [KeptC, List.forall_mem_cons] at hk3; obtain ⟨kb3, ⟨kc3_0, kc3_1, kc3_2, kc3_3, kc3_4, kc3_5, kc3_6, kc3_7, kc3_8, kc3_9, kc3_10, kc3_11, kc3_12, kc3_13, kc3_14, _⟩, _⟩ := hk3
       have hz3 : w.heap.size < w3.heap.size := cell_lt kc3_0
       have hz3b : w2.heap.size < w3.heap.size := cell_lt kc3_7
       clear hb3 CE kb2 hz2 kc2_0 kc2_1 kc2_2 kc2_3 kc2_4 kc2_5 kc2_6
       by_cases hse : se = 0
       rotate_left
       · have HE0 : Hid ((T1, T2, T3) = ((0 : Int), (0 : Int), se)) := Lib.hid (by rw [← HT.out, HST2.out hse])
         have h1 := HE0.out
         injection h1 with h1 h2
         injection h2 with h2 h3
         subst h1 h2 h3
         have q1 : (T3 != 0) = true := by simpa using hse
         clear HE0 HT HT0 hse HST2 HNX2 E3
         go_wp2
         go_ret3
         exact ⟨rfl, kb3⟩
       · subst hse
         have hsy := E3.out rfl
         subst hsy
         have HT5 := Lib.hid (show S (k + 1) (wrap64 (X + sx)) (wrap64 (Y + ((findS u.chans nm).getD St0).inp)) = (T1, T2, T3) by rw [← HNX2.out rfl]; exact HT.out)
         clear HNX2 HST2 E3
         generalize (findS u.chans nm).isSome = ok2 at CF
         generalize (findS u.chans nm).getD St0 = z at CF HT5
         go_wp2_with (fail)
         refine (CF.out _ (Qb1 kb3)).mono ?_; rintro e w4 ⟨rfl, hb4⟩
         have hk4 : KeptC w [(⟨w.heap.size, 0, none⟩, .slice na nn nc), (⟨w.heap.size, 1, none⟩, .slice ua un uc), (⟨w.heap.size, 2, none⟩, .slice da dn dc), (⟨w.heap.size, 3, none⟩, .int .i64 nx), (⟨w.heap.size, 4, none⟩, .slice la ll lc), (⟨w.heap.size, 5, none⟩, .slice sa sl sc), (⟨w.heap.size, 6, none⟩, .int .i64 lost)] [] w4 := by
          refine KeptC.below ?_ hb4
          exact Qk1 kb3
         simp only [KeptC, List.forall_mem_cons] at hk4; obtain ⟨kb4, ⟨kc4_0, kc4_1, kc4_2, kc4_3, kc4_4, kc4_5, kc4_6, _⟩, _⟩ := hk4
         have hz4 : w.heap.size < w4.heap.size := cell_lt kc4_0
         clear hb4 CF kb3 hz3 hz3b kc3_0 kc3_1 kc3_2 kc3_3 kc3_4 kc3_5 kc3_6 kc3_7 kc3_8 kc3_9 kc3_10 kc3_11 kc3_12 kc3_13 kc3_14
         have HLb : Hid (LocE stV (w4.alloc (.cells #[.string ⟨#[]⟩, .int .i64 0, .int .i64 0, .bool false, .int .i64 0, .int .i64 0, .bool false, .int .i64 0, .bool false, .int .i64 0, .int .i64 0, .int .i64 0, .bool false, .int .i64 0, .int .i64 0, .int .i64 0] 96)) w4.heap.size) := Lib.hid (LocE.fresh (enc := stV) w4 #[.string ⟨#[]⟩, .int .i64 0, .int .i64 0, .bool false, .int .i64 0, .int .i64 0, .bool false, .int .i64 0, .bool false, .int .i64 0, .int .i64 0, .int .i64 0, .bool false, .int .i64 0, .int .i64 0, .int .i64 0] 96 St0 rfl)
         have HK2 : Hid (Below w4.heap.size w4 (w4.alloc (.cells #[.string ⟨#[]⟩, .int .i64 0, .int .i64 0, .bool false, .int .i64 0, .int .i64 0, .bool false, .int .i64 0, .bool false, .int .i64 0, .int .i64 0, .int .i64 0, .bool false, .int .i64 0, .int .i64 0, .int .i64 0] 96))) := Lib.hid ((Below.refl _ _).alloc (Nat.le_refl _) _)
         go_upto_region 14 with ((with_reducible show wpList _ _ _ (_ :: _) _ _); refine wpList_store_lay rfl 96 (.tmp 17) (.tmp 56) rfl w4.heap.size 0 (stV z).toArray rfl rfl (HLb.out.there stV_len) (by kernel_rfl) (all_oneCell_toArray (stV_one z)) (fun w' => LocX stV w' w4.heap.size z ∧ Below w4.heap.size w4 w') ⟨HLb.out.layX stV_len z rfl, Below.setCells (Nat.le_refl _) _ _ _ HK2.out⟩ ?_; rintro w5 ⟨hX5, hB5⟩; have HX5 := Lib.hid hX5; have HB5 := Lib.hid hB5; clear hX5 HLb HK2)
         have hk5 : KeptC w [(⟨w.heap.size, 0, none⟩, .slice na nn nc), (⟨w.heap.size, 1, none⟩, .slice ua un uc), (⟨w.heap.size, 2, none⟩, .slice da dn dc), (⟨w.heap.size, 3, none⟩, .int .i64 nx), (⟨w.heap.size, 4, none⟩, .slice la ll lc), (⟨w.heap.size, 5, none⟩, .slice sa sl sc), (⟨w.heap.size, 6, none⟩, .int .i64 lost)] [] w5 := by
          refine KeptC.below ?_ hB5
          exact Qk1 kb4
         simp only [KeptC, List.forall_mem_cons] at hk5; obtain ⟨kb5, ⟨kc5_0, kc5_1, kc5_2, kc5_3, kc5_4, kc5_5, kc5_6, _⟩, _⟩ := hk5
         have hz5 : w.heap.size < w5.heap.size := cell_lt kc5_0
         have hz5c : w4.heap.size < w5.heap.size := HX5.out.1
         have z7 := (HX5.out.2 7 _ rfl).1
         clear hB5 kb4 hz4 kc4_0 kc4_1 kc4_2 kc4_3 kc4_4 kc4_5 kc4_6
         refine wp_region_quietC_lit (KeptC w [(⟨w.heap.size, 0, none⟩, .slice na nn nc), (⟨w.heap.size, 1, none⟩, .slice ua un uc), (⟨w.heap.size, 2, none⟩, .slice da dn dc), (⟨w.heap.size, 3, none⟩, .int .i64 nx), (⟨w.heap.size, 4, none⟩, .slice la ll lc), (⟨w.heap.size, 5, none⟩, .slice sa sl sc), (⟨w.heap.size, 6, none⟩, .int .i64 lost), (⟨w4.heap.size, 7, none⟩, .int .i64 z.inp)] []) (by kernel_rfl) (by kernel_rfl) ?_ ?_
         · refine KeptC.drewn ?_
           exact Qk1 kb5
         repeat (first
          | go_big_quiet_skip
          | (go_big_quiet_want; (apply quietC_run); (· intro w' hw'; (have hk' := hw'; simp only [KeptC, List.forall_mem_cons] at hk'; go_split_ands); go_simp; first | done | rfl); (simp only [Act.put, List.setIfInBounds_toArray, List.set_cons_zero, List.set_cons_succ]; go_big_quiet_on))
          | (go_big_quiet_want; (apply quietC_call); (· intro w' hw'; go_simp; first | done | exact ⟨rfl, rfl⟩ | rfl); (· intro w' hw'; first | ((with_reducible refine (fail).mono ?_); rintro e w2 ⟨rfl, hb⟩; exact ⟨rfl, hw'.below hb⟩)); (simp only [Act.put, List.setIfInBounds_toArray, List.set_cons_zero, List.set_cons_succ]; go_big_quiet_on)))
         refine wpQuiet_nil ?_
         intro w9 hk9
         (have hk' := hk9; simp only [KeptC, List.forall_mem_cons] at hk'; go_split_ands); have hkB9 := hk9.1
         go_wp2
         go_roundw
         case rel => exact ⟨k + 1, _, _, by omega, by go_num, rfl, rfl, Lib.hid (by first | exact HT5.out | (simp only [IntKind.wrap_i64]; have h := HT5.out; unfold wrap64 at h; exact h)), (Qk1 hkB9)⟩
         case measure => simp [intOf]; omega
end Go.Proofs.YtkfodkbgmpbmfaaGreat
namespace Go.Proofs.YtkfodkbgmpbmfaaGreat
open Go.RowKit Go.Shelf
set_option linter.unusedVariables false
set_option linter.unusedSimpArgs false
set_option maxRecDepth 100000
def awCh : Ch := ⟨⟨#[109]⟩, 1, 0, true, 1, 1⟩
def awNd (i p : Int) (has : Bool) (inp : Int) (a1 a2 a3 a4 a5 : Nat) : Nd := ⟨i, 1, 0, some ⟨a1, 0, none⟩, 1, 1, 0, some ⟨a2, 0, none⟩, 1, 1, some ⟨a4, 0, none⟩, 1, 1, some ⟨a5, 0, none⟩, 1, 1, [p], [⟨p, 1, 0, 0⟩], [⟨p, 1, 0, some ⟨a3, 0, none⟩, 1, 1, false, 0, [⟨⟨#[109]⟩, 1, 1, 5⟩]⟩], [⟨awCh, has, inp, E0, E0⟩]⟩
theorem LocX.cells {α : Type} {enc : α → List Value} {w : World} {g : Nat} {x : α} (h : LocX enc w g x) : CellsE enc w ⟨g, 0, none⟩ x := fun i u hu => by rw [Addr.add_lit, Nat.zero_add]; exact (h.2 i u hu).1
theorem LocX.rows {α : Type} {enc : α → List Value} {k : Nat} {w : World} {B g : Nat} {x : α} (h : LocX enc w g x) (hB : g < B) : RowsE enc k w B (some ⟨g, 0, none⟩) 1 [x] := rows_one h.cells hB
structure AwAt (W : World) (i p : Int) (has : Bool) (inp : Int) (a1 a2 a3 a4 a5 : Nat) : Prop where
 h1 : LocX encI W a1 p
 h2 : LocX encSn W a2 ⟨p, 1, 0, 0⟩
 h3 : LocX encLn W a3 ⟨⟨#[109]⟩, 1, 1, 5⟩
 h4 : LocX encH W a4 ⟨p, 1, 0, some ⟨a3, 0, none⟩, 1, 1, false, 0, [⟨⟨#[109]⟩, 1, 1, 5⟩]⟩
 h5 : LocX stV W a5 ⟨awCh, has, inp, E0, E0⟩
theorem AwAt.nd {W : World} {i p : Int} {has : Bool} {inp : Int} {a1 a2 a3 a4 a5 : Nat} (h : AwAt W i p has inp a1 a2 a3 a4 a5) : NdAt W W.heap.size (awNd i p has inp a1 a2 a3 a4 a5) := by
 refine ⟨h.h1.rows h.h1.1, h.h2.rows h.h2.1, ⟨h.h4.rows h.h4.1, fun x hx => ?_⟩, h.h5.rows h.h5.1, fun x hx => ?_⟩
 · rw [List.mem_singleton.1 hx]
   refine ⟨h.h3.rows h.h3.1, fun y hy => ?_⟩
   rw [List.mem_singleton.1 hy]
   decide
 · rw [List.mem_singleton.1 hx]
   show awCh.name.size ≤ maxLen
   decide
theorem AwAt.below {W W' : World} {i p : Int} {has : Bool} {inp : Int} {a1 a2 a3 a4 a5 : Nat} (h : AwAt W i p has inp a1 a2 a3 a4 a5) (hb : Below W.heap.size W W') : AwAt W' i p has inp a1 a2 a3 a4 a5 :=
 ⟨h.h1.below hb h.h1.1, h.h2.below hb h.h2.1, h.h3.below hb h.h3.1, h.h4.below hb h.h4.1, h.h5.below hb h.h5.1⟩
def encNN (x : Nd × Nd) : List Value := encN x.1 ++ encN x.2
def encV (l : List Value) : List Value := l
def zerW : List Value := [.slice none 0 0, .slice none 0 0, .slice none 0 0, .int .i64 0, .slice none 0 0, .slice none 0 0, .int .i64 0]
def valW (v3 v4 v7 : Value) : List Value := [v3, v4, v7, .int .i64 0, .slice none 0 0, .slice none 0 0, .int .i64 0]
def putAW (a : Act) (x1 x2 x3 x4 x5 x6 x7 x8 x9 : Value) : Act := ((((((((a.put (some 37) x1).put (some 38) x2).put (some 39) x3).put (some 40) x4).put (some 41) x5).put (some 42) x6).put (some 43) x7).put (some 44) x8).put (some 5) x9
theorem putAW_37 (a : Act) (x1 x2 x3 x4 x5 x6 x7 x8 x9 v : Value) : (putAW a x1 x2 x3 x4 x5 x6 x7 x8 x9).put (some 37) v = putAW a v x2 x3 x4 x5 x6 x7 x8 x9 := by
 simp only [putAW, Act.put, Act.mk.injEq, and_true]
 apply Array.ext_getElem?
 intro j
 by_cases h : 37 = j
 · subst h; simp [Array.getElem?_setIfInBounds]
 · simp [Array.getElem?_setIfInBounds, h]
theorem evAW_37 (a : Act) (x1 x2 x3 x4 x5 x6 x7 x8 x9 : Value) (h : a.tmps.size = 123) : (putAW a x1 x2 x3 x4 x5 x6 x7 x8 x9).eval (.tmp 37) = x1 := by
 unfold putAW Act.put Act.eval
 simp [Array.getD, h, Array.getElem_setIfInBounds]
theorem putAW_38 (a : Act) (x1 x2 x3 x4 x5 x6 x7 x8 x9 v : Value) : (putAW a x1 x2 x3 x4 x5 x6 x7 x8 x9).put (some 38) v = putAW a x1 v x3 x4 x5 x6 x7 x8 x9 := by
 simp only [putAW, Act.put, Act.mk.injEq, and_true]
 apply Array.ext_getElem?
 intro j
 by_cases h : 38 = j
 · subst h; simp [Array.getElem?_setIfInBounds]
 · simp [Array.getElem?_setIfInBounds, h]
theorem evAW_38 (a : Act) (x1 x2 x3 x4 x5 x6 x7 x8 x9 : Value) (h : a.tmps.size = 123) : (putAW a x1 x2 x3 x4 x5 x6 x7 x8 x9).eval (.tmp 38) = x2 := by
 unfold putAW Act.put Act.eval
 simp [Array.getD, h, Array.getElem_setIfInBounds]
theorem putAW_39 (a : Act) (x1 x2 x3 x4 x5 x6 x7 x8 x9 v : Value) : (putAW a x1 x2 x3 x4 x5 x6 x7 x8 x9).put (some 39) v = putAW a x1 x2 v x4 x5 x6 x7 x8 x9 := by
 simp only [putAW, Act.put, Act.mk.injEq, and_true]
 apply Array.ext_getElem?
 intro j
 by_cases h : 39 = j
 · subst h; simp [Array.getElem?_setIfInBounds]
 · simp [Array.getElem?_setIfInBounds, h]
theorem evAW_39 (a : Act) (x1 x2 x3 x4 x5 x6 x7 x8 x9 : Value) (h : a.tmps.size = 123) : (putAW a x1 x2 x3 x4 x5 x6 x7 x8 x9).eval (.tmp 39) = x3 := by
 unfold putAW Act.put Act.eval
 simp [Array.getD, h, Array.getElem_setIfInBounds]
theorem putAW_40 (a : Act) (x1 x2 x3 x4 x5 x6 x7 x8 x9 v : Value) : (putAW a x1 x2 x3 x4 x5 x6 x7 x8 x9).put (some 40) v = putAW a x1 x2 x3 v x5 x6 x7 x8 x9 := by
 simp only [putAW, Act.put, Act.mk.injEq, and_true]
 apply Array.ext_getElem?
 intro j
 by_cases h : 40 = j
 · subst h; simp [Array.getElem?_setIfInBounds]
 · simp [Array.getElem?_setIfInBounds, h]
theorem evAW_40 (a : Act) (x1 x2 x3 x4 x5 x6 x7 x8 x9 : Value) (h : a.tmps.size = 123) : (putAW a x1 x2 x3 x4 x5 x6 x7 x8 x9).eval (.tmp 40) = x4 := by
 unfold putAW Act.put Act.eval
 simp [Array.getD, h, Array.getElem_setIfInBounds]
theorem putAW_41 (a : Act) (x1 x2 x3 x4 x5 x6 x7 x8 x9 v : Value) : (putAW a x1 x2 x3 x4 x5 x6 x7 x8 x9).put (some 41) v = putAW a x1 x2 x3 x4 v x6 x7 x8 x9 := by
 simp only [putAW, Act.put, Act.mk.injEq, and_true]
 apply Array.ext_getElem?
 intro j
 by_cases h : 41 = j
 · subst h; simp [Array.getElem?_setIfInBounds]
 · simp [Array.getElem?_setIfInBounds, h]
theorem evAW_41 (a : Act) (x1 x2 x3 x4 x5 x6 x7 x8 x9 : Value) (h : a.tmps.size = 123) : (putAW a x1 x2 x3 x4 x5 x6 x7 x8 x9).eval (.tmp 41) = x5 := by
 unfold putAW Act.put Act.eval
 simp [Array.getD, h, Array.getElem_setIfInBounds]
theorem putAW_42 (a : Act) (x1 x2 x3 x4 x5 x6 x7 x8 x9 v : Value) : (putAW a x1 x2 x3 x4 x5 x6 x7 x8 x9).put (some 42) v = putAW a x1 x2 x3 x4 x5 v x7 x8 x9 := by
 simp only [putAW, Act.put, Act.mk.injEq, and_true]
 apply Array.ext_getElem?
 intro j
 by_cases h : 42 = j
 · subst h; simp [Array.getElem?_setIfInBounds]
 · simp [Array.getElem?_setIfInBounds, h]
theorem evAW_42 (a : Act) (x1 x2 x3 x4 x5 x6 x7 x8 x9 : Value) (h : a.tmps.size = 123) : (putAW a x1 x2 x3 x4 x5 x6 x7 x8 x9).eval (.tmp 42) = x6 := by
 unfold putAW Act.put Act.eval
 simp [Array.getD, h, Array.getElem_setIfInBounds]
theorem putAW_43 (a : Act) (x1 x2 x3 x4 x5 x6 x7 x8 x9 v : Value) : (putAW a x1 x2 x3 x4 x5 x6 x7 x8 x9).put (some 43) v = putAW a x1 x2 x3 x4 x5 x6 v x8 x9 := by
 simp only [putAW, Act.put, Act.mk.injEq, and_true]
 apply Array.ext_getElem?
 intro j
 by_cases h : 43 = j
 · subst h; simp [Array.getElem?_setIfInBounds]
 · simp [Array.getElem?_setIfInBounds, h]
theorem evAW_43 (a : Act) (x1 x2 x3 x4 x5 x6 x7 x8 x9 : Value) (h : a.tmps.size = 123) : (putAW a x1 x2 x3 x4 x5 x6 x7 x8 x9).eval (.tmp 43) = x7 := by
 unfold putAW Act.put Act.eval
 simp [Array.getD, h, Array.getElem_setIfInBounds]
theorem putAW_44 (a : Act) (x1 x2 x3 x4 x5 x6 x7 x8 x9 v : Value) : (putAW a x1 x2 x3 x4 x5 x6 x7 x8 x9).put (some 44) v = putAW a x1 x2 x3 x4 x5 x6 x7 v x9 := by
 simp only [putAW, Act.put, Act.mk.injEq, and_true]
 apply Array.ext_getElem?
 intro j
 by_cases h : 44 = j
 · subst h; simp [Array.getElem?_setIfInBounds]
 · simp [Array.getElem?_setIfInBounds, h]
theorem evAW_44 (a : Act) (x1 x2 x3 x4 x5 x6 x7 x8 x9 : Value) (h : a.tmps.size = 123) : (putAW a x1 x2 x3 x4 x5 x6 x7 x8 x9).eval (.tmp 44) = x8 := by
 unfold putAW Act.put Act.eval
 simp [Array.getD, h, Array.getElem_setIfInBounds]
theorem putAW_5 (a : Act) (x1 x2 x3 x4 x5 x6 x7 x8 x9 v : Value) : (putAW a x1 x2 x3 x4 x5 x6 x7 x8 x9).put (some 5) v = putAW a x1 x2 x3 x4 x5 x6 x7 x8 v := by
 simp only [putAW, Act.put, Act.mk.injEq, and_true]
 apply Array.ext_getElem?
 intro j
 by_cases h : 5 = j
 · subst h; simp [Array.getElem?_setIfInBounds]
 · simp [Array.getElem?_setIfInBounds, h]
theorem evAW_5 (a : Act) (x1 x2 x3 x4 x5 x6 x7 x8 x9 : Value) (h : a.tmps.size = 123) : (putAW a x1 x2 x3 x4 x5 x6 x7 x8 x9).eval (.tmp 5) = x9 := by
 unfold putAW Act.put Act.eval
 simp [Array.getD, h, Array.getElem_setIfInBounds]
theorem evAW_far (a : Act) (x1 x2 x3 x4 x5 x6 x7 x8 x9 : Value) (s : Nat) (hs : a.tmps.size = 123) (h : s = 3 ∨ s = 4) : (putAW a x1 x2 x3 x4 x5 x6 x7 x8 x9).eval (.tmp s) = a.eval (.tmp s) := by
 unfold putAW Act.put Act.eval
 rcases h with rfl | rfl <;> simp [Array.getD, hs, Array.getElem_setIfInBounds]
end Go.Proofs.YtkfodkbgmpbmfaaGreat
