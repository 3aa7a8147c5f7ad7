/- same of the law: are two lists of records alike? What each call computes, for every two lists. -/
import Derived.Test.YtblaccmphofbcaaDirA
namespace Go.Proofs.Ytblaccmphofbcaa
open Go.RowKit
set_option linter.unusedVariables false
noncomputable def sameB (ra rb : List Ch) : Bool := @decide (ra = rb) (Classical.propDecidable _)
theorem sameB_iff {ra rb : List Ch} : sameB ra rb = true ↔ ra = rb := by unfold sameB; exact @decide_eq_true_iff _ (Classical.propDecidable _)
theorem sameB_eq {ra rb : List Ch} (h : ra = rb) : sameB ra rb = true := sameB_iff.2 h
theorem sameB_ne {ra rb : List Ch} (h : ra ≠ rb) : sameB ra rb = false := by
  cases e : sameB ra rb with
  | false => rfl
  | true => exact absurd (sameB_iff.1 e) h
theorem toList_inj {a b : ByteArray} (h : a.toList = b.toList) : a = b := by
  rw [ByteArray.toList_eq, ByteArray.toList_eq] at h
  exact Go.WideShapes.bytes_inj h
theorem ch_cases (x y : Ch) : x = y ∨ (x.name.toList == y.name.toList) = false ∨ (x.name = y.name ∧ x.ep ≠ y.ep) ∨ (x.name = y.name ∧ x.ep = y.ep ∧ x.who ≠ y.who) ∨ (x.name = y.name ∧ x.ep = y.ep ∧ x.who = y.who ∧ x.al = !y.al) ∨ (x.name = y.name ∧ x.ep = y.ep ∧ x.who = y.who ∧ x.al = y.al ∧ x.kd ≠ y.kd) ∨ (x.name = y.name ∧ x.ep = y.ep ∧ x.who = y.who ∧ x.al = y.al ∧ x.kd = y.kd ∧ x.sc ≠ y.sc) := by
  obtain ⟨s, e, m, al, k, c⟩ := x
  obtain ⟨s2, e2, m2, al2, k2, c2⟩ := y
  simp only [Ch.mk.injEq]
  by_cases h0 : s = s2
  · by_cases h1 : e = e2
    · by_cases h2 : m = m2
      · by_cases h3 : al = al2
        · by_cases h4 : k = k2
          · by_cases h5 : c = c2
            · exact .inl ⟨h0, h1, h2, h3, h4, h5⟩
            · exact .inr (.inr (.inr (.inr (.inr (.inr ⟨h0, h1, h2, h3, h4, h5⟩)))))
          · exact .inr (.inr (.inr (.inr (.inr (.inl ⟨h0, h1, h2, h3, h4⟩)))))
        · exact .inr (.inr (.inr (.inr (.inl ⟨h0, h1, h2, by cases al <;> cases al2 <;> simp_all⟩))))
      · exact .inr (.inr (.inr (.inl ⟨h0, h1, h2⟩)))
    · exact .inr (.inr (.inl ⟨h0, h1⟩))
  · refine .inr (.inl ?_)
    cases e : (s.toList == s2.toList) with
    | false => rfl
    | true => exact absurd (toList_inj (beq_iff_eq.1 e)) h0
theorem take_next {ra rb : List Ch} {k : Nat} {x y : Ch} (hx : ra[k]? = some x) (hy : rb[k]? = some y) (h : ra.take k = rb.take k) (e : x = y) : ra.take (k + 1) = rb.take (k + 1) := by
  rw [List.take_add_one, List.take_add_one, h, hx, hy, e]
theorem take_off {ra rb : List Ch} {k : Nat} {x y : Ch} (hx : ra[k]? = some x) (hy : rb[k]? = some y) (e : x ≠ y) : ra ≠ rb := by
  intro h
  rw [h, hy] at hx
  exact e (Option.some.inj hx).symm
set_option maxRecDepth 100000 in
set_option maxHeartbeats 8000000 in
theorem same_any (A1 : Option Addr) (n1 cp1 : Nat) (ra : List Ch) (A2 : Option Addr) (n2 cp2 : Nat) (rb : List Ch) (w : World) (hr1 : ChsAt w w.heap.size A1 n1 ra) (hr2 : ChsAt w w.heap.size A2 n2 rb) (hm1 : n1 * 56 ≤ 140737488351232) (hm2 : n2 * 56 ≤ 140737488351232) :
    Calls Try.prog 13 #[.slice A1 n1 cp1, .slice A2 n2 cp2] w fun x w' => x = .returned (.bool (sameB ra rb)) ∧ Below w.heap.size w w' := by
  have HR1 := Lib.hid hr1
  have HR2 := Lib.hid hr2
  clear hr1 hr2
  by_cases hn : n1 = n2
  rotate_left
  · have e := sameB_ne (ra := ra) (rb := rb) (fun h => hn (by rw [← HR1.out.1, ← HR2.out.1, h]))
    rw [e]
    clear e
    have hb : ((n1 : Int) == (n2 : Int)) = false := by simpa using (show ¬ (n1 : Int) = n2 by omega)
    have hi : ¬ (n1 : Int) = n2 := by omega
    go_enter Try.func13, Try.ntmps13
    go_wp2
    go_ret
    exact ⟨rfl, (by repeat (first | with_reducible refine Below.setCell ?_ (by first | (simp; done) | (simp; omega) | omega) _ | with_reducible refine Below.alloc ?_ (by first | (simp; done) | (simp; omega) | omega) _ | with_reducible refine Below.drew ?_ | with_reducible refine below_drewN ?_ _ | with_reducible exact Below.refl _ _))⟩
  subst hn
  go_enter Try.func13, Try.ntmps13
  go_wp2
  go_loopw [13] (fun i w' => ∃ (k : Nat), k ≤ n1 ∧ i = .int .i64 k ∧ Hid (ra.take k = rb.take k) ∧ KeptC w [] [] w') (fun i _ => n1 - (intOf i).toNat)
  case atStart => exact ⟨0, Nat.zero_le _, rfl, Lib.hid rfl, (by (repeat' (first | refine KeptC.cons ?_ ?_ | refine KeptC.consF ?_ ?_ ?_ | refine KeptC.mk0 ?_)); all_goals (first | with_reducible assumption | (go_simp; done) | (simp; omega) | exact (by repeat (first | with_reducible refine Below.setCell ?_ (by first | (simp; done) | (simp; omega) | omega) _ | with_reducible refine Below.alloc ?_ (by first | (simp; done) | (simp; omega) | omega) _ | with_reducible refine Below.drew ?_ | with_reducible refine below_drewN ?_ _ | with_reducible exact Below.refl _ _))))⟩
  case round =>
    obtain ⟨k, hk, rfl, HT, hK⟩ := hrel
    have kb0 := hK.1
    by_cases hlt : k < n1
    rotate_left
    · obtain rfl : k = n1 := by omega
      have e := sameB_eq (ra := ra) (rb := rb) (by have := HT.out; rwa [List.take_of_length_le (by have := HR1.out.1; omega), List.take_of_length_le (by have := HR2.out.1; omega)] at this)
      have HE := Lib.hid e
      clear e
      go_wp2
      go_ret
      exact ⟨by rw [HE.out]; rfl, kb0⟩
    · obtain ⟨ad, x, hA, hab, hx, hsz, hc6⟩ := HR1.out.get hlt
      subst hA
      obtain ⟨ad2, y, hA2, hab2, hy, hsz2, hd6⟩ := HR2.out.get hlt
      subst hA2
      obtain ⟨p, hp⟩ : ∃ p, ad.add (k * 6) = p := ⟨_, rfl⟩
      obtain ⟨q, hq⟩ : ∃ q, ad2.add (k * 6) = q := ⟨_, rfl⟩
      have hpb : p.block < w.heap.size := by rw [← hp, block_of_add]; exact hab
      have hqb : q.block < w.heap.size := by rw [← hq, block_of_add]; exact hab2
      rw [hp] at hc6
      rw [hq] at hd6
      have hws := kb0.size
      have hpw : p.block < wr.heap.size := by omega
      have hqw : q.block < wr.heap.size := by omega
      obtain ⟨c0, c1, c2, c3, c4, c5⟩ := hc6.below hpb kb0
      obtain ⟨d0, d1, d2, d3, d4, d5⟩ := hd6.below hqb kb0
      have HX := Lib.hid hx; have HY := Lib.hid hy
      clear hx hsz hy hsz2 hc6 hd6
      have hcs := ch_cases x y
      obtain ⟨xs, xe, xm, xa, xk, xc⟩ := x
      obtain ⟨ys, ye, ym, ya, yk, yc⟩ := y
      simp only [] at c0 c1 c2 c3 c4 c5 d0 d1 d2 d3 d4 d5 hcs
      rcases hcs with h | h | h | h | h | h | h
      · obtain ⟨rfl, rfl, rfl, rfl, rfl, rfl⟩ := Ch.mk.inj h
        clear h
        go_wp2_with (fail)
        go_quiet (fail)
        go_wp2
        go_roundw
        case rel => exact ⟨k + 1, by omega, by go_num, Lib.hid (take_next HX.out HY.out HT.out rfl), (by (repeat' (first | refine KeptC.cons ?_ ?_ | refine KeptC.consF ?_ ?_ ?_ | refine KeptC.mk0 ?_)); all_goals (first | with_reducible assumption | (go_simp; done) | (simp; omega) | exact (by repeat (first | with_reducible refine Below.setCell ?_ (by first | (simp; done) | (simp; omega) | omega) _ | with_reducible refine Below.alloc ?_ (by first | (simp; done) | (simp; omega) | omega) _ | with_reducible refine Below.drew ?_ | with_reducible refine below_drewN ?_ _ | with_reducible exact Below.refl _ _ | with_reducible refine Below.trans ?_ (Below.mono kb0 (by first | (simp; done) | (simp; omega) | omega))))))⟩
        case measure => simp [intOf]; omega
      · have hne : xs ≠ ys := by rintro rfl; rw [beq_self_eq_true] at h; cases h
        have HE := Lib.hid (sameB_ne (take_off HX.out HY.out (by intro e; exact hne (Ch.mk.inj e).1)))
        go_wp2_with (fail)
        go_quiet (fail)
        go_wp2
        go_ret
        exact ⟨by rw [HE.out]; rfl, (by repeat (first | with_reducible refine Below.setCell ?_ (by first | (simp; done) | (simp; omega) | omega) _ | with_reducible refine Below.alloc ?_ (by first | (simp; done) | (simp; omega) | omega) _ | with_reducible refine Below.drew ?_ | with_reducible refine below_drewN ?_ _ | with_reducible exact Below.refl _ _ | with_reducible refine Below.trans ?_ (Below.mono kb0 (by first | (simp; done) | (simp; omega) | omega))))⟩
      · obtain ⟨rfl, h⟩ := h
        have hb : (xe == ye) = false := by simpa using h
        have HE := Lib.hid (sameB_ne (take_off HX.out HY.out (by intro e; exact h (Ch.mk.inj e).2.1)))
        go_wp2_with (fail)
        go_quiet (fail)
        go_wp2
        go_ret
        exact ⟨by rw [HE.out]; rfl, (by repeat (first | with_reducible refine Below.setCell ?_ (by first | (simp; done) | (simp; omega) | omega) _ | with_reducible refine Below.alloc ?_ (by first | (simp; done) | (simp; omega) | omega) _ | with_reducible refine Below.drew ?_ | with_reducible refine below_drewN ?_ _ | with_reducible exact Below.refl _ _ | with_reducible refine Below.trans ?_ (Below.mono kb0 (by first | (simp; done) | (simp; omega) | omega))))⟩
      · obtain ⟨rfl, rfl, h⟩ := h
        have hb : (xm == ym) = false := by simpa using h
        have HE := Lib.hid (sameB_ne (take_off HX.out HY.out (by intro e; exact h (Ch.mk.inj e).2.2.1)))
        go_wp2_with (fail)
        go_quiet (fail)
        go_wp2
        go_ret
        exact ⟨by rw [HE.out]; rfl, (by repeat (first | with_reducible refine Below.setCell ?_ (by first | (simp; done) | (simp; omega) | omega) _ | with_reducible refine Below.alloc ?_ (by first | (simp; done) | (simp; omega) | omega) _ | with_reducible refine Below.drew ?_ | with_reducible refine below_drewN ?_ _ | with_reducible exact Below.refl _ _ | with_reducible refine Below.trans ?_ (Below.mono kb0 (by first | (simp; done) | (simp; omega) | omega))))⟩
      · obtain ⟨rfl, rfl, rfl, h⟩ := h
        subst h
        have HE := Lib.hid (sameB_ne (take_off HX.out HY.out (by intro e; have := (Ch.mk.inj e).2.2.2.1; revert this; cases ya <;> decide)))
        go_wp2_with (fail)
        go_quiet (fail)
        go_wp2
        go_ret
        exact ⟨by rw [HE.out]; rfl, (by repeat (first | with_reducible refine Below.setCell ?_ (by first | (simp; done) | (simp; omega) | omega) _ | with_reducible refine Below.alloc ?_ (by first | (simp; done) | (simp; omega) | omega) _ | with_reducible refine Below.drew ?_ | with_reducible refine below_drewN ?_ _ | with_reducible exact Below.refl _ _ | with_reducible refine Below.trans ?_ (Below.mono kb0 (by first | (simp; done) | (simp; omega) | omega))))⟩
      · obtain ⟨rfl, rfl, rfl, rfl, h⟩ := h
        have hb : (xk == yk) = false := by simpa using h
        have HE := Lib.hid (sameB_ne (take_off HX.out HY.out (by intro e; exact h (Ch.mk.inj e).2.2.2.2.1)))
        go_wp2_with (fail)
        go_quiet (fail)
        go_wp2
        go_ret
        exact ⟨by rw [HE.out]; rfl, (by repeat (first | with_reducible refine Below.setCell ?_ (by first | (simp; done) | (simp; omega) | omega) _ | with_reducible refine Below.alloc ?_ (by first | (simp; done) | (simp; omega) | omega) _ | with_reducible refine Below.drew ?_ | with_reducible refine below_drewN ?_ _ | with_reducible exact Below.refl _ _ | with_reducible refine Below.trans ?_ (Below.mono kb0 (by first | (simp; done) | (simp; omega) | omega))))⟩
      · obtain ⟨rfl, rfl, rfl, rfl, rfl, h⟩ := h
        have hb : (xc == yc) = false := by simpa using h
        have HE := Lib.hid (sameB_ne (take_off HX.out HY.out (by intro e; exact h (Ch.mk.inj e).2.2.2.2.2)))
        go_wp2_with (fail)
        go_quiet (fail)
        go_wp2
        go_ret
        exact ⟨by rw [HE.out]; rfl, (by repeat (first | with_reducible refine Below.setCell ?_ (by first | (simp; done) | (simp; omega) | omega) _ | with_reducible refine Below.alloc ?_ (by first | (simp; done) | (simp; omega) | omega) _ | with_reducible refine Below.drew ?_ | with_reducible refine below_drewN ?_ _ | with_reducible exact Below.refl _ _ | with_reducible refine Below.trans ?_ (Below.mono kb0 (by first | (simp; done) | (simp; omega) | omega))))⟩
end Go.Proofs.Ytblaccmphofbcaa
