/- Chapter 22, parts on the way: DirF RngP DirP QuietI App DirC -/
import Derived.ChangeSame
import Derived.Deep.Slices
import Derived.Deep.Fields
import Derived.SizedLaws
import Derived.Lib.SmallJoins
import Derived.OpenShut
import Derived.RangeFuncNested
import Derived.RangeFuncBound
import Derived.RangeFuncCalls
import Derived.RangeFuncLeaves
import Derived.RangeFuncBox
import Derived.Shelf.Abstract
import Derived.Shelf.RegionOpen
import Derived.OwnWalkIn
import Derived.TacticsInMore
import Derived.LoopNIn
import Derived.LoopIn
import Derived.OrdersIn
import Derived.Maps.AppendAt
import Derived.Deep.AppendLies
import Derived.RegionTactic
import Derived.OwnWalk
import Derived.Lib.SliceRun
import Derived.Test.YtkfodkbgmpbmfaaGreatB01
set_option linter.unusedVariables false
set_option linter.unusedSimpArgs false
namespace Go.Proofs.YtkfodkbgmpbmfaaGreat
open Go.ChangeShapes Go.WideShapes Go.RowKit Go.Deep
set_option linter.unusedVariables false
section
variable {H : Type} {enc : TypeId × Value → H} {P : Program} {w : World} {base : Nat} {spare : Nat → Bool} {held : Bool}
end
theorem add_next (a : Addr) (i : Nat) : a.add (i + 1) = ⟨a.block, a.off + (i + 1), none⟩ := by simp [Addr.add]
def cells6 (w : World) (p : Addr) (x : Ch) : Prop := w.cell? p = some (.string x.name) ∧ w.cell? ⟨p.block, p.off + 1, none⟩ = some (.int .i64 x.ep) ∧ w.cell? ⟨p.block, p.off + 2, none⟩ = some (.int .i64 x.who) ∧ w.cell? ⟨p.block, p.off + 3, none⟩ = some (.bool x.al) ∧ w.cell? ⟨p.block, p.off + 4, none⟩ = some (.int .i64 x.kd) ∧ w.cell? ⟨p.block, p.off + 5, none⟩ = some (.int .i64 x.sc)
theorem cells6.below {w w' : World} {B : Nat} {p : Addr} {x : Ch} (h : cells6 w p x) (hp : p.block < B) (hb : Below B w w') : cells6 w' p x :=
 ⟨(hb.cell hp).trans h.1, (hb.cell (p := ⟨p.block, p.off + 1, none⟩) hp).trans h.2.1, (hb.cell (p := ⟨p.block, p.off + 2, none⟩) hp).trans h.2.2.1, (hb.cell (p := ⟨p.block, p.off + 3, none⟩) hp).trans h.2.2.2.1, (hb.cell (p := ⟨p.block, p.off + 4, none⟩) hp).trans h.2.2.2.2.1, (hb.cell (p := ⟨p.block, p.off + 5, none⟩) hp).trans h.2.2.2.2.2⟩
def ChsAt (w : World) (B : Nat) (A : Option Addr) (n : Nat) (rs : List Ch) : Prop :=
 rs.length = n ∧ (∀ x ∈ rs, x.name.size ≤ maxLen) ∧ (0 < n → ∃ ad, A = some ad ∧ ad.block < B ∧ ∀ j x, rs[j]? = some x → cells6 w (ad.add (j * 6)) x)
theorem ChsAt.below {w w' : World} {B n : Nat} {A : Option Addr} {rs : List Ch} (h : ChsAt w B A n rs) (hb : Below B w w') : ChsAt w' B A n rs :=
 ⟨h.1, h.2.1, fun hn => by
  obtain ⟨ad, e, hab, hc⟩ := h.2.2 hn
  exact ⟨ad, e, hab, fun j x hx => (hc j x hx).below (by rw [block_of_add]; exact hab) hb⟩⟩
theorem ChsAt.more {w : World} {B B' n : Nat} {A : Option Addr} {rs : List Ch} (h : ChsAt w B A n rs) (hB : B ≤ B') : ChsAt w B' A n rs :=
 ⟨h.1, h.2.1, fun hn => by
  obtain ⟨ad, e, hab, hc⟩ := h.2.2 hn
  exact ⟨ad, e, by omega, hc⟩⟩
theorem ChsAt.get {w : World} {B n : Nat} {A : Option Addr} {rs : List Ch} (h : ChsAt w B A n rs) {k : Nat} (hk : k < n) : ∃ ad x, A = some ad ∧ ad.block < B ∧ rs[k]? = some x ∧ x.name.size ≤ maxLen ∧ cells6 w (ad.add (k * 6)) x := by
 obtain ⟨ad, e, hab, hc⟩ := h.2.2 (by omega)
 have hl : k < rs.length := by rw [h.1]; exact hk
 exact ⟨ad, rs[k], e, hab, List.getElem?_eq_getElem hl, h.2.1 _ (List.getElem_mem hl), hc k _ (List.getElem?_eq_getElem hl)⟩
def ltN (a b : ByteArray) : Bool := Op.bytesLess a.toList b.toList
def okAt (rs : List Ch) (i : Nat) : Bool := match rs[i]? with
 | some c => chFit c.name c.ep c.who c.kd c.sc && (match i with | 0 => true | j + 1 => (match rs[j]? with | some d => ltN d.name c.name | none => false))
 | none => false
def fitsB (rs : List Ch) : Bool := decide (rs.length ≤ 8) && (List.range rs.length).all (okAt rs)
theorem okAt_zero {rs : List Ch} {c : Ch} (h : rs[0]? = some c) : okAt rs 0 = chFit c.name c.ep c.who c.kd c.sc := by unfold okAt; rw [h]; simp
theorem okAt_succ {rs : List Ch} {j : Nat} {c d : Ch} (h : rs[j + 1]? = some c) (h2 : rs[j]? = some d) : okAt rs (j + 1) = (chFit c.name c.ep c.who c.kd c.sc && ltN d.name c.name) := by unfold okAt; rw [h]; simp only []; rw [h2]
theorem fits_stop {rs : List Ch} {k : Nat} (hk : k < rs.length) (h : okAt rs k = false) : fitsB rs = false := by
 have : (List.range rs.length).all (okAt rs) = false := by
  rw [List.all_eq_false]
  exact ⟨k, List.mem_range.2 hk, by simp [h]⟩
 unfold fitsB
 rw [this, Bool.and_false]
theorem fits_long {rs : List Ch} (h : 8 < rs.length) : fitsB rs = false := by unfold fitsB; rw [decide_eq_false (by omega)]; rfl
theorem range_next (rs : List Ch) (k : Nat) : (List.range (k + 1)).all (okAt rs) = ((List.range k).all (okAt rs) && okAt rs k) := by
 rw [List.range_succ, List.all_append]
 simp
theorem fits_all {rs : List Ch} (hl : rs.length ≤ 8) (h : (List.range rs.length).all (okAt rs) = true) : fitsB rs = true := by unfold fitsB; rw [h, decide_eq_true hl]; rfl
set_option maxRecDepth 100000 in
set_option maxHeartbeats 8000000 in
theorem rfits_any (A : Option Addr) (n cp : Nat) (rs : List Ch) (w : World) (hr : ChsAt w w.heap.size A n rs) (hm : n * 56 ≤ 140737488351232) :
    Calls Tryz.prog 112 #[.slice A n cp] w fun x w' => x = .returned (.bool (fitsB rs)) ∧ Below w.heap.size w w' := by
 have HR := Lib.hid hr
 clear hr
 go_enter Tryz.func112, Tryz.ntmps112
 go_wp2
 go_loopw [3] (fun i w' => ∃ k : Nat, k ≤ n ∧ i = .int .i64 k ∧ (List.range k).all (okAt rs) = true ∧ k ≤ 8 ∧ KeptC w [] [] w') (fun i _ => n - (intOf i).toNat)
 case atStart => exact ⟨0, Nat.zero_le _, rfl, rfl, by omega, Qk⟩
 case round =>
  obtain ⟨k, hk, rfl, hA0, hk8, hK⟩ := hrel
  have HA := Lib.hid hA0
  clear hA0
  simp only [KeptC, List.forall_mem_cons] at hK; obtain ⟨kb0, _, _⟩ := hK
  by_cases hlt : k < n
  rotate_left
  · obtain rfl : k = n := by omega
    have HE : Hid (fitsB rs = true) := fits_all (by rw [HR.out.1]; omega) (by rw [HR.out.1]; exact HA.out)
    go_wp2
    go_ret
    exact ⟨by rw [HE.out]; rfl, kb0⟩
  by_cases h8 : 8 ≤ k
  · have hk8' : (8 : Int) ≤ (k : Int) := by omega
    go_wp2_with (fail)
    refine wp_region_quietC_lit (KeptC w [] []) (by kernel_rfl) (by kernel_rfl) ?_ ?_
    · refine KeptC.drewn ?_
      exact Qk1 kb0
    repeat (first
     | go_big_quiet_skip
     | (go_big_quiet_want; (apply quietC_run); (· intro w' hw'; (have hk' := hw'; simp only [KeptC, List.forall_mem_cons] at hk'; go_split_ands); go_simp; first | done | rfl); (simp only [Act.put, List.setIfInBounds_toArray, List.set_cons_zero, List.set_cons_succ]; go_big_quiet_on))
     | (go_big_quiet_want; (apply quietC_call); (· intro w' hw'; go_simp; first | done | exact ⟨rfl, rfl⟩ | rfl); (· intro w' hw'; first | fail); (simp only [Act.put, List.setIfInBounds_toArray, List.set_cons_zero, List.set_cons_succ]; go_big_quiet_on)))
    refine wpQuiet_nil ?_
    intro w1 hk1
    (have hk' := hk1; simp only [KeptC, List.forall_mem_cons] at hk'; go_split_ands); have hkB1 := hk1.1
    go_wp2
    go_ret
    exact ⟨by rw [fits_long (by rw [HR.out.1]; omega)]; rfl, hkB1⟩
  · have hrl := HR.out.1
    cases k with
    | zero =>
     obtain ⟨ad, x, hA, hab, hx, hsz, hc6⟩ := HR.out.get hlt
     subst hA
     obtain ⟨p, hp⟩ : ∃ p, ad.add (0 * 6) = p := ⟨_, rfl⟩
     have hpb : p.block < w.heap.size := by rw [← hp, block_of_add]; exact hab
     rw [hp] at hc6
     obtain ⟨c0, c1, c2, c3, c4, c5⟩ := hc6.below hpb kb0
     obtain ⟨s, e, m, al, k0, sc⟩ := x
     simp only [] at c0 c1 c2 c3 c4 c5 hsz
     have cf := fun w => rfit_any s e m al k0 sc hsz w
     have hws := kb0.size
     have hpw : p.block < wr.heap.size := by omega
     have hl8 : ¬ 8 ≤ ((0 : Nat) : Int) := by omega
     have ho := okAt_zero hx
     simp only [] at ho
     cases hf : chFit s e m k0 sc with
     | false =>
      rw [hf] at ho cf
      have HO := Lib.hid ho; have CF := Lib.hid cf
      clear ho cf hf hx hc6 hrl
      go_wp2_with (fail)
      refine wp_region_quietC_lit (KeptC w [(p, .string s), (⟨p.block, p.off + 1, none⟩, .int .i64 e), (⟨p.block, p.off + 2, none⟩, .int .i64 m), (⟨p.block, p.off + 3, none⟩, .bool al), (⟨p.block, p.off + 4, none⟩, .int .i64 k0), (⟨p.block, p.off + 5, none⟩, .int .i64 sc)] []) (by kernel_rfl) (by kernel_rfl) ?_ ?_
      · refine KeptC.drewn ?_
        exact Qk1 kb0
      repeat (first
       | go_big_quiet_skip
       | (go_big_quiet_want; (apply quietC_run); (· intro w' hw'; (have hk' := hw'; simp only [KeptC, List.forall_mem_cons] at hk'; go_split_ands); go_simp; first | done | rfl); (simp only [Act.put, List.setIfInBounds_toArray, List.set_cons_zero, List.set_cons_succ]; go_big_quiet_on))
       | (go_big_quiet_want; (apply quietC_call); (· intro w' hw'; go_simp; first | done | exact ⟨rfl, rfl⟩ | rfl); (· intro w' hw'; first | ((with_reducible refine (CF.out _).mono ?_); rintro e w2 ⟨rfl, hb⟩; exact ⟨rfl, hw'.below hb⟩)); (simp only [Act.put, List.setIfInBounds_toArray, List.set_cons_zero, List.set_cons_succ]; go_big_quiet_on)))
      refine wpQuiet_nil ?_
      intro w1 hk1
      (have hk' := hk1; simp only [KeptC, List.forall_mem_cons] at hk'; go_split_ands); have hkB1 := hk1.1
      go_wp2
      go_ret
      exact ⟨by rw [fits_stop (by rw [HR.out.1]; exact hlt) HO.out]; rfl, hkB1⟩
     | true =>
      rw [hf] at ho cf
      have HO := Lib.hid ho; have CF := Lib.hid cf
      clear ho cf hf hx hc6 hrl
      go_wp2_with (fail)
      refine wp_region_quietC_lit (KeptC w [(p, .string s), (⟨p.block, p.off + 1, none⟩, .int .i64 e), (⟨p.block, p.off + 2, none⟩, .int .i64 m), (⟨p.block, p.off + 3, none⟩, .bool al), (⟨p.block, p.off + 4, none⟩, .int .i64 k0), (⟨p.block, p.off + 5, none⟩, .int .i64 sc)] []) (by kernel_rfl) (by kernel_rfl) ?_ ?_
      · refine KeptC.drewn ?_
        exact Qk1 kb0
      repeat (first
       | go_big_quiet_skip
       | (go_big_quiet_want; (apply quietC_run); (· intro w' hw'; (have hk' := hw'; simp only [KeptC, List.forall_mem_cons] at hk'; go_split_ands); go_simp; first | done | rfl); (simp only [Act.put, List.setIfInBounds_toArray, List.set_cons_zero, List.set_cons_succ]; go_big_quiet_on))
       | (go_big_quiet_want; (apply quietC_call); (· intro w' hw'; go_simp; first | done | exact ⟨rfl, rfl⟩ | rfl); (· intro w' hw'; first | ((with_reducible refine (CF.out _).mono ?_); rintro e w2 ⟨rfl, hb⟩; exact ⟨rfl, hw'.below hb⟩)); (simp only [Act.put, List.setIfInBounds_toArray, List.set_cons_zero, List.set_cons_succ]; go_big_quiet_on)))
      refine wpQuiet_nil ?_
      intro w1 hk1
      (have hk' := hk1; simp only [KeptC, List.forall_mem_cons] at hk'; go_split_ands); have hkB1 := hk1.1
      go_wp2
      go_roundw
      case rel => exact ⟨0 + 1, by omega, by go_num, by have h := range_next rs 0; rw [HA.out, HO.out] at h; exact h, by omega, (Qk1 hkB1)⟩
      case measure => simp [intOf]; omega
    | succ k =>
     obtain ⟨ad, x, hA, hab, hx, hsz, hc6⟩ := HR.out.get hlt
     subst hA
     obtain ⟨p, hp⟩ : ∃ p, ad.add ((k + 1) * 6) = p := ⟨_, rfl⟩
     have hpb : p.block < w.heap.size := by rw [← hp, block_of_add]; exact hab
     rw [hp] at hc6
     obtain ⟨c0, c1, c2, c3, c4, c5⟩ := hc6.below hpb kb0
     obtain ⟨s, e, m, al, k0, sc⟩ := x
     simp only [] at c0 c1 c2 c3 c4 c5 hsz
     have cf := fun w => rfit_any s e m al k0 sc hsz w
     have hws := kb0.size
     have hpw : p.block < wr.heap.size := by omega
     have hl8 : decide ((8 : Int) ≤ (k : Int) + 1) = false := decide_eq_false (by omega)
     obtain ⟨ad2, y, hA2, _, hy, _, hd6⟩ := HR.out.get (k := k) (by omega)
     obtain rfl : ad = ad2 := Option.some.inj hA2
     obtain ⟨q, hq⟩ : ∃ q, ad.add (k * 6) = q := ⟨_, rfl⟩
     have hqb : q.block < w.heap.size := by rw [← hq, block_of_add]; exact hab
     rw [hq] at hd6
     obtain ⟨d0, _⟩ := hd6.below hqb kb0
     have hqw : q.block < wr.heap.size := by omega
     obtain ⟨d, _, _, _, _, _⟩ := y
     simp only [] at d0
     have hwk : IntKind.i64.wrap (k : Int) = k := by rw [IntKind.wrap_i64]; omega
     have hkn : k < n := by omega
     have ho := okAt_succ hx hy
     simp only [] at ho
     cases hf : chFit s e m k0 sc with
     | false =>
      rw [hf, Bool.false_and] at ho
      rw [hf] at cf
      have HO := Lib.hid ho; have CF := Lib.hid cf
      clear ho cf hf hx hy hc6 hd6 hrl
      go_wp2_with (fail)
      refine wp_region_quietC_lit (KeptC w [(p, .string s), (⟨p.block, p.off + 1, none⟩, .int .i64 e), (⟨p.block, p.off + 2, none⟩, .int .i64 m), (⟨p.block, p.off + 3, none⟩, .bool al), (⟨p.block, p.off + 4, none⟩, .int .i64 k0), (⟨p.block, p.off + 5, none⟩, .int .i64 sc), (q, .string d)] []) (by kernel_rfl) (by kernel_rfl) ?_ ?_
      · refine KeptC.drewn ?_
        exact Qk1 kb0
      repeat (first
       | go_big_quiet_skip
       | (go_big_quiet_want; (apply quietC_run); (· intro w' hw'; (have hk' := hw'; simp only [KeptC, List.forall_mem_cons] at hk'; go_split_ands); go_simp; first | done | rfl); (simp only [Act.put, List.setIfInBounds_toArray, List.set_cons_zero, List.set_cons_succ]; go_big_quiet_on))
       | (go_big_quiet_want; (apply quietC_call); (· intro w' hw'; go_simp; first | done | exact ⟨rfl, rfl⟩ | rfl); (· intro w' hw'; first | ((with_reducible refine (CF.out _).mono ?_); rintro e w2 ⟨rfl, hb⟩; exact ⟨rfl, hw'.below hb⟩)); (simp only [Act.put, List.setIfInBounds_toArray, List.set_cons_zero, List.set_cons_succ]; go_big_quiet_on)))
      refine wpQuiet_nil ?_
      intro w1 hk1
      (have hk' := hk1; simp only [KeptC, List.forall_mem_cons] at hk'; go_split_ands); have hkB1 := hk1.1
      go_wp2
      go_ret
      exact ⟨by rw [fits_stop (by rw [HR.out.1]; exact hlt) HO.out]; rfl, hkB1⟩
     | true =>
      rw [hf, Bool.true_and] at ho
      rw [hf] at cf
      unfold ltN at ho
      cases hl : Op.bytesLess d.toList s.toList with
      | false =>
       rw [hl] at ho
       have HO := Lib.hid ho; have CF := Lib.hid cf
       clear ho cf hf hx hy hc6 hd6 hrl
       go_wp2_with (fail)
       refine wp_region_quietC_lit (KeptC w [(p, .string s), (⟨p.block, p.off + 1, none⟩, .int .i64 e), (⟨p.block, p.off + 2, none⟩, .int .i64 m), (⟨p.block, p.off + 3, none⟩, .bool al), (⟨p.block, p.off + 4, none⟩, .int .i64 k0), (⟨p.block, p.off + 5, none⟩, .int .i64 sc), (q, .string d)] []) (by kernel_rfl) (by kernel_rfl) ?_ ?_
       · refine KeptC.drewn ?_
         exact Qk1 kb0
       repeat (first
        | go_big_quiet_skip
        | (go_big_quiet_want; (apply quietC_run); (· intro w' hw'; (have hk' := hw'; simp only [KeptC, List.forall_mem_cons] at hk'; go_split_ands); go_simp; first | done | rfl); (simp only [Act.put, List.setIfInBounds_toArray, List.set_cons_zero, List.set_cons_succ]; go_big_quiet_on))
        | (go_big_quiet_want; (apply quietC_call); (· intro w' hw'; go_simp; first | done | exact ⟨rfl, rfl⟩ | rfl); (· intro w' hw'; first | ((with_reducible refine (CF.out _).mono ?_); rintro e w2 ⟨rfl, hb⟩; exact ⟨rfl, hw'.below hb⟩)); (simp only [Act.put, List.setIfInBounds_toArray, List.set_cons_zero, List.set_cons_succ]; go_big_quiet_on)))
       refine wpQuiet_nil ?_
       intro w1 hk1
       (have hk' := hk1; simp only [KeptC, List.forall_mem_cons] at hk'; go_split_ands); have hkB1 := hk1.1
       go_wp2
       go_ret
       exact ⟨by rw [fits_stop (by rw [HR.out.1]; exact hlt) HO.out]; rfl, hkB1⟩
      | true =>
       rw [hl] at ho
       have HO := Lib.hid ho; have CF := Lib.hid cf
       clear ho cf hf hx hy hc6 hd6 hrl
       go_wp2_with (fail)
       refine wp_region_quietC_lit (KeptC w [(p, .string s), (⟨p.block, p.off + 1, none⟩, .int .i64 e), (⟨p.block, p.off + 2, none⟩, .int .i64 m), (⟨p.block, p.off + 3, none⟩, .bool al), (⟨p.block, p.off + 4, none⟩, .int .i64 k0), (⟨p.block, p.off + 5, none⟩, .int .i64 sc), (q, .string d)] []) (by kernel_rfl) (by kernel_rfl) ?_ ?_
       · refine KeptC.drewn ?_
         exact Qk1 kb0
       repeat (first
        | go_big_quiet_skip
        | (go_big_quiet_want; (apply quietC_run); (· intro w' hw'; (have hk' := hw'; simp only [KeptC, List.forall_mem_cons] at hk'; go_split_ands); go_simp; first | done | rfl); (simp only [Act.put, List.setIfInBounds_toArray, List.set_cons_zero, List.set_cons_succ]; go_big_quiet_on))
        | (go_big_quiet_want; (apply quietC_call); (· intro w' hw'; go_simp; first | done | exact ⟨rfl, rfl⟩ | rfl); (· intro w' hw'; first | ((with_reducible refine (CF.out _).mono ?_); rintro e w2 ⟨rfl, hb⟩; exact ⟨rfl, hw'.below hb⟩)); (simp only [Act.put, List.setIfInBounds_toArray, List.set_cons_zero, List.set_cons_succ]; go_big_quiet_on)))
       refine wpQuiet_nil ?_
       intro w1 hk1
       (have hk' := hk1; simp only [KeptC, List.forall_mem_cons] at hk'; go_split_ands); have hkB1 := hk1.1
       go_wp2
       go_roundw
       case rel => exact ⟨k + 1 + 1, by omega, by go_num, by have h := range_next rs (k + 1); rw [HA.out, HO.out] at h; exact h, by omega, (Qk1 hkB1)⟩
       case measure => simp [intOf]; omega
end Go.Proofs.YtkfodkbgmpbmfaaGreat
namespace Go.Proofs.YtkfodkbgmpbmfaaGreat
open Go.RowKit Go.Shelf
set_option linter.unusedVariables false
def rowB (Bo : Nat) (W : World) : Option Nat := match W.cell? ⟨Bo, 0, none⟩ with
 | some v => v.ownBlock
 | none => none
theorem rowB_same {Bo : Nat} {A C : World} (h : C.heap[Bo]? = A.heap[Bo]?) : rowB Bo C = rowB Bo A := by
 unfold rowB World.cell?
 rw [h]
def SameIO (A C : World) : Prop := C.os = A.os ∧ C.tape = A.tape ∧ C.output = A.output
theorem SameIO.below {B : Nat} {A C : World} (h : Below B A C) : SameIO A C := ⟨h.os, h.tape, h.output⟩
def Fr (D Bo : Nat) (A C : World) : Prop :=
 A.heap.size ≤ C.heap.size ∧ (∀ b, b < A.heap.size → (b < D ∨ rowB Bo A = some b ∨ ∃ o, A.heap[b]? = some o ∧ o.isCells = false) → C.heap[b]? = A.heap[b]?) ∧ SameIO A C
def FrI (D Bo : Nat) (A C : World) : Prop := A.heap.size ≤ C.heap.size ∧ (∀ b, b < A.heap.size → (b < D ∨ rowB Bo A = some b) → C.heap[b]? = A.heap[b]?) ∧ SameIO A C
theorem Fr.I {D Bo : Nat} {A C : World} (h : Fr D Bo A C) : FrI D Bo A C := ⟨h.1, fun b hb hc => h.2.1 b hb (hc.imp id .inl), h.2.2⟩
theorem Fr.alloc {D Bo : Nat} {A : World} (o : Obj) : Fr D Bo A (A.alloc o) := ⟨by simp, fun b hb _ => Below.heap_alloc _ _ _ hb, ⟨rfl, rfl, rfl⟩⟩
theorem Fr.below {D Bo : Nat} {A C : World} (hb : Below A.heap.size A C) : Fr D Bo A C := ⟨hb.size, fun b h _ => hb.block b h, SameIO.below hb⟩
def Kp (D Bo Bw : Nat) (A C : World) : Prop :=
 A.heap.size ≤ C.heap.size ∧ (rowB Bo C = rowB Bo A ∨ ∃ r, rowB Bo C = some r ∧ A.heap.size ≤ r) ∧
 ∀ (b : Nat) (o : Obj), b ≠ Bo → b ≠ Bw → (b < D ∨ rowB Bo A ≠ some b) → A.heap[b]? = some o → o.isCells = true → C.heap[b]? = some o
theorem Kp.refl (D Bo Bw : Nat) (A : World) : Kp D Bo Bw A A := ⟨Nat.le_refl _, .inl rfl, fun _ _ _ _ _ h _ => h⟩
theorem Kp.trans {D Bo Bw : Nat} {A C E : World} (h : Kp D Bo Bw A C) (k : Kp D Bo Bw C E) : Kp D Bo Bw A E := by
 obtain ⟨h1, h2, h3⟩ := h
 obtain ⟨k1, k2, k3⟩ := k
 refine ⟨Nat.le_trans h1 k1, ?_, fun b o hb hw hc ho hcl => ?_⟩
 · rcases k2 with k2 | ⟨r, k2, k4⟩
   · rw [k2]
     exact h2
   · exact .inr ⟨r, k2, Nat.le_trans h1 k4⟩
 · have h4 := h3 b o hb hw hc ho hcl
   refine k3 b o hb hw ?_ h4 hcl
   rcases hc with hc | hc
   · exact .inl hc
   · rcases h2 with h2 | ⟨r, h2, h5⟩
     · exact .inr (by rw [h2]; exact hc)
     · refine .inr fun e => ?_
       rw [h2] at e
       cases e
       have := (Array.getElem?_eq_some_iff.1 ho).1
       omega
theorem Kp.putObj {D Bo Bw l : Nat} (W : World) (o' : Obj) (hl : Bo < l) {o : Obj} (ho : W.heap[l]? = some o) (hc : o.isCells = false) : Kp D Bo Bw W (W.putObj l o') := by
 refine ⟨Nat.le_of_eq (World.putObj_size ..).symm, .inl (rowB_same (World.putObj_heap_other (by omega))), fun b o2 _ _ _ h h2 => ?_⟩
 by_cases e : b = l
 · subst e
   rw [ho] at h
   cases h
   rw [hc] at h2
   cases h2
 · exact (World.putObj_heap_other e).trans h
def SeqP {α : Type} (n : Nat) (P : Program) (g : Nat) (lb : Array Value) (encs : α → Array Value) (Pt : α → World → Prop) (Bo Bw N : Nat) (S : List α → Prop) (w : World) : Prop :=
 ∀ (l : Nat) (J : List α → World → Prop) (W : World), Below w.heap.size w W → (∀ s A, J s A → w.heap.size ≤ A.heap.size ∧ ∀ r, rowB Bo A = some r → w.heap.size ≤ r ∧ r < A.heap.size) →
  (∀ s A C, J s A → Fr w.heap.size Bo A C → J s C) →
  (∀ pre x W1, J pre W1 → Pt x W1 → pre.length < N → YieldAt Fence.wide (n - 1) P l (encs x) W1 fun e W' => e = .returned (.bool true) ∧ J (pre ++ [x]) W' ∧ Kp w.heap.size Bo Bw W1 W') →
  J [] W → CallsIn Fence.wide n P g (#[.func (.yield l) #[] #[]] ++ lb) W fun e W' => (∃ v, e = .returned v) ∧ ∃ xs, S xs ∧ J xs W'
def postP {α : Type} (B D Bo Bw : Nat) (I : List α → World → Prop) (xs : List α) (W : World) : Exit → Act → World → Prop
 | .normal, _, W' => KeepsFrom B W W' ∧ Kp D Bo Bw W W' ∧ I xs W'
 | _, _, _ => False
theorem wpIn_range_p {α : Type} {P : Program} {n : Nat} {g : Operand} {ps : Array Tmp} {assign body : Code} {Q : Exit → Act → World → Prop} {a : Act} {w : World}
    (hn : 1 ≤ n) {gf : Nat} {lb : Array Value} (hg : a.eval g = .func (.func gf) #[] lb) (eg : ∀ args w, (callFunc gf args).run P w = .ok (.enter gf args) w)
    {encs : α → Array Value} {Pt : α → World → Prop} {Bo Bw N : Nat} {S : List α → Prop} (hBo : Bo < w.heap.size) (hseq : SeqP (n - 1) P gf lb encs Pt Bo Bw N S w) (hps : ∀ x, (encs x).size = ps.size)
    (I : List α → World → Prop) (hIr : ∀ s A, I s A → w.heap.size ≤ A.heap.size ∧ ∀ r, rowB Bo A = some r → w.heap.size ≤ r ∧ (∃ o, A.heap[r]? = some o ∧ o.isCells = true)) (hIF : ∀ s A C, I s A → FrI w.heap.size Bo A C → I s C)
    (hPt : ∀ x A C, Pt x A → (∀ (b : Nat) (o : Obj), A.heap[b]? = some o → o.isCells = true → C.heap[b]? = some o) → Pt x C)
    (h0 : I [] w) (Ax : α → Act)
    (hassign : ∀ (l : Nat) (x : α) (W : World) (K : Act → World → Prop), K (Ax x) W →
     assign.wpIn (Fence.wide.inRound l) (n - 1 - 1) P (Exit.then K (fun _ _ _ => False)) { tmps := (ps.zip (encs x)).foldl (fun t (p, v) => t.setIfInBounds p v) a.tmps, defers := [] } W)
    (hbody : ∀ (l : Nat) (pre : List α) (x : α) (W : World), w.heap.size ≤ l → pre.length < N → I pre W → Pt x W → body.wpIn (Fence.wide.inRound l) (n - 1 - 1) P (postP w.heap.size w.heap.size Bo Bw I (pre ++ [x]) W) (Ax x) W)
    (hdone : ∀ (D : Nat) (xs : List α) (W : World), w.heap.size ≤ D → S xs → I xs W → W.heap[D]? = some (.deferred (some [])) → Q .normal { a with defers := { target := .collected D, args := #[] } :: a.defers } W) :
    (Code.rangeFunc g ps assign body).wpIn Fence.wide n P Q a w := by
 refine wpIn_rangeFunc fun fn hfn => ?_
 generalize hD : w.heap.size = D at *
 obtain ⟨rc, hrc⟩ : ∃ rc : LoopState → Option Code → Loop, rc = fun st pe => { state := st, pending := pe, fn, tmps := a.tmps, params := ps, assign, body, defers := D } := ⟨_, rfl⟩
 have hgrow : ∀ {A C : World}, KeepsFrom D A C → ∀ {k : Nat} {o : Obj}, D ≤ k → A.heap[k]? = some o → o.isCells = false → C.heap[k]? = some o := fun h _ _ h1 h2 h3 => h.same _ _ h1 h2 h3
 obtain ⟨W1, hW1⟩ : ∃ W1, (w.alloc (.deferred (some []))).alloc (.loop (rc .ready none)) = W1 := ⟨_, rfl⟩
 have dD : W1.heap[D]? = some (.deferred (some [])) := by
  rw [← hW1, ← hD]; exact (Below.heap_alloc _ _ _ (by simp)).trans (World.alloc_heap_new w _)
 have dL : W1.heap[D + 1]? = some (.loop (rc .ready none)) := by
  rw [← hW1, ← hD]; have := World.alloc_heap_new (w.alloc (.deferred (some []))) (.loop (rc .ready none)); rwa [World.size_alloc] at this
 have b1 : Below D w W1 := by
  rw [← hW1, ← hD]; exact ((Below.refl _ w).alloc (Nat.le_refl _) _).alloc (by simp) _
 have f1 : Fr D Bo w W1 := Fr.below (by rw [hD]; exact b1)
 have i1 : I [] W1 := hIF _ _ _ h0 f1.I
 have hput : ∀ {s : List α} {A : World} {l : Nat} {o o' : Obj}, I s A → D ≤ l → A.heap[l]? = some o → o.isCells = false → I s (A.putObj l o') := by
  intro s A l o o' hi hl ho hc
  refine hIF _ _ _ hi ⟨Nat.le_of_eq (World.putObj_size ..).symm, fun b hb hcb => World.putObj_heap_other ?_, ⟨rfl, rfl, rfl⟩⟩
  intro e
  subst e
  rcases hcb with h | h
  · omega
  · obtain ⟨_, o2, h2, h3⟩ := (hIr _ _ hi).2 _ h
    rw [ho] at h2
    cases h2
    rw [hc] at h3
    cases h3
 refine ⟨D + 1, [{ target := .collected D, args := #[] }], W1, { target := .fn (.func gf) lb, args := #[.func (.yield (D + 1)) #[] #[]] }, W1, gf, #[.func (.yield (D + 1)) #[] #[]] ++ lb, W1, ?_, ?_, fun _ _ => trivial, ?_, fun _ => hn, ?_⟩
 · have he := run_enterLoop_outer (P := P) (w := w) fn a.tmps ps assign body
   rw [hD] at he
   rw [← hW1, hrc]
   exact he
 · simp only [resolve, hg]
   simp [go_sem]
 · simp [invoke, go_sem, eg]
 · have hcall := hseq (D + 1)
     (fun pre W => I pre W ∧ W.heap[D + 1]? = some (.loop (rc .ready none)) ∧ W.heap[D]? = some (.deferred (some [])))
     W1 (by rw [hD]; exact b1)
     (fun s A h => by
      rw [hD]
      refine ⟨(hIr s A h.1).1, fun r hr => ?_⟩
      obtain ⟨h1, o, h2, _⟩ := (hIr s A h.1).2 r hr
      exact ⟨h1, (Array.getElem?_eq_some_iff.1 h2).1⟩)
     (fun s A C h hf => by
      rw [hD] at hf
      have l1 := (Array.getElem?_eq_some_iff.1 h.2.1).1
      have l2 := (Array.getElem?_eq_some_iff.1 h.2.2).1
      exact ⟨hIF s A C h.1 hf.I, (hf.2.1 _ l1 (.inr (.inr ⟨_, h.2.1, rfl⟩))).trans h.2.1, (hf.2.1 _ l2 (.inr (.inr ⟨_, h.2.2, rfl⟩))).trans h.2.2⟩) ?_ ⟨i1, dL, dD⟩
   · refine hcall.mono ?_
     rintro e W2 ⟨⟨v, rfl⟩, xs, hS, hi, hl, hk⟩
     have hend := run_endLoop (P := P) hl (by rw [hrc]; simp)
     have hpe : (rc LoopState.ready none).pending = none := by rw [hrc]
     rw [hpe] at hend
     exact ⟨none, _, hend, hdone D xs _ (Nat.le_refl _) hS (hput hi (by omega) hl rfl) ((World.putObj_heap_other (by omega)).trans hk)⟩
   · rintro pre x W ⟨hi, hl, hk⟩ hx hlen
     have hy := run_yield (P := P) (args := encs x) hl (by rw [hrc]; exact hps x)
     rw [hrc] at hy
     refine ⟨fn, _, assign, body, hy, roundIn_of_wpIn hfn (hassign (D + 1) x W _ ?_)⟩
     clear hy
     have hlt : D + 1 < W.heap.size := (Array.getElem?_eq_some_iff.1 hl).1
     refine ⟨_, run_beginRound hl (by rw [hrc]), ?_⟩
     obtain ⟨Wb, hWb⟩ : ∃ Wb, W.putObj (D + 1) (.loop { rc .ready none with state := .busy }) = Wb := ⟨_, rfl⟩
     have hl2 : Wb.heap[D + 1]? = some (.loop { rc .ready none with state := .busy }) := by rw [← hWb]; exact World.putObj_heap_same hlt
     have hk2 : Wb.heap[D]? = some (.deferred (some [])) := by rw [← hWb]; exact (World.putObj_heap_other (by omega)).trans hk
     have s2 : Kp D Bo Bw W Wb := by rw [← hWb]; exact Kp.putObj _ _ (by omega) hl rfl
     have ib : I pre Wb := by rw [← hWb]; exact hput hi (by omega) hl rfl
     have xb : Pt x Wb := hPt x W Wb hx fun b o ho hc => by
      rw [← hWb]
      by_cases e : b = D + 1
      · subst e
        rw [hl] at ho
        cases ho
        cases hc
      · exact (World.putObj_heap_other e).trans ho
     rw [hWb]
     refine wpIn_mono (hbody (D + 1) pre x Wb (by omega) hlen ib xb) fun e a3 W3 hp => ?_
     match e, hp with
     | .normal, ⟨k3, s3, i3⟩ =>
      have hl3 := hgrow k3 (by omega) hl2 rfl
      have he := run_endRound (P := P) none hl3
      refine ⟨_, W3.putObj (D + 1) (.loop (rc .ready none)), by rw [he, hrc]; rfl, rfl, ⟨hput i3 (by omega) hl3 rfl, World.putObj_heap_same (Array.getElem?_eq_some_iff.1 hl3).1, (World.putObj_heap_other (by omega)).trans (hgrow k3 (Nat.le_refl _) hk2 rfl)⟩, ?_⟩
      rw [hD]
      exact (s2.trans s3).trans (Kp.putObj _ _ (by omega) hl3 rfl)
end Go.Proofs.YtkfodkbgmpbmfaaGreat
namespace Go.Proofs.YtkfodkbgmpbmfaaGreat
open Go.RowKit Go.Shelf
set_option linter.unusedVariables false
attribute [local go_sem] Oper.semAt_some
theorem Kp.cell {D Bo Bw : Nat} {A C : World} (h : Kp D Bo Bw A C) {p : Addr} {v : Value} (hp : A.cell? p = some v) (h1 : p.block ≠ Bo) (h2 : p.block ≠ Bw) (h3 : p.block < D ∨ rowB Bo A ≠ some p.block) : C.cell? p = some v ∧ C.frozen? p = A.frozen? p := by
 have hp' := hp
 unfold World.cell? at hp'
 cases ho : A.heap[p.block]? with
 | none => rw [ho] at hp'; cases hp'
 | some o =>
  rw [ho] at hp'
  have hc : o.isCells = true := by cases o <;> simp_all [Obj.isCells]
  have := h.2.2 p.block o h1 h2 h3 ho hc
  refine ⟨?_, ?_⟩
  · rw [← hp]; unfold World.cell?; rw [ho, this]
  · unfold World.frozen?; rw [ho, this]
end Go.Proofs.YtkfodkbgmpbmfaaGreat
namespace Go.Proofs.YtkfodkbgmpbmfaaGreat
open Go.RowKit
section
variable {P : Program} {C : World → Prop} {a : Act} {o : Oper} {lp n : Nat}
def noDefer (ops : Array Oper) : Bool := ops.all fun o => match o.op with
 | .defer _ => false
 | _ => true
theorem noDefer_at {ops : Array Oper} (h : noDefer ops = true) {i : Nat} {o : Oper} (ho : ops[i]? = some o) : ∀ c, o.op ≠ .defer c := by
 intro c hc
 obtain ⟨hi, e⟩ := Array.getElem?_eq_some_iff.1 ho
 have := Array.all_eq_true.1 h i hi
 rw [e, hc] at this
 cases this
end
end Go.Proofs.YtkfodkbgmpbmfaaGreat
namespace Go.Proofs.YtkfodkbgmpbmfaaGreat
open Go.RowKit
section
variable {P : Program} (w : World)

theorem run_append_of_nil (base : Nat) (t ty e : TypeId) (i : TypeInfo) (size : Nat) (ht : P.underlying t = some (.slice e)) (hi : P.info? e = some i)
    (v : Value) (n : Nat) (xs : List Value) (hown : w.ownsRow base e size v n xs) (c : Nat) : (Builtin.append_ #[t, t] ty #[v, .slice none 0 c]).run P w = .ok v w := by
 rcases hown.2 with ⟨rfl, rfl⟩ | ⟨g, cap, cur, rfl, _, _, hnc, _⟩
 · simp [Builtin.append_, run_underlying ht, sizeOf, typeInfo, hi, Builtin.lenOf, Builtin.firstCells]
 · simp [Builtin.append_, run_underlying ht, sizeOf, typeInfo, hi, Builtin.lenOf, Builtin.firstCells, hnc, storeCells]

theorem run_append_any (base : Nat) (t ty e : TypeId) (i : TypeInfo) (z : Value) (size bytes : Nat) (ht : P.underlying t = some (.slice e)) (hi : P.info? e = some i) (hz : i.zero = some z)
    (hsize : i.size = size) (hby : i.bytes = bytes) (hzs : z.cells.size = size) (hsz : 0 < size)
    (v : Value) (n : Nat) (xs : List Value) (hown : w.ownsRow base e size v n xs)
    (B : Nat) (A : Option Addr) (m c : Nat) (news : List Value) (hr : Reads w B size A m news) (h1 : ∀ u ∈ news, u.oneCell' = true)
    (h63 : n + m ≤ maxLen) (hbytes : (n + m) * bytes ≤ 140737488355328) (hbase : base ≤ w.heap.size) :
    ∃ v' w', (Builtin.append_ #[t, t] ty #[v, .slice A m c]).run P w = .ok v' w' ∧ w'.ownsRow base e size v' (n + m) (xs ++ news) ∧ w.grownBy w' v.ownBlock ∧
     (v'.ownBlock = v.ownBlock ∨ v'.ownBlock = some w.heap.size) := by
 rcases A with _ | ad
 · have hm : m = 0 := by
     rcases Nat.eq_zero_or_pos m with h0 | h0
     · exact h0
     · obtain ⟨ad, h, _⟩ := hr.2 h0
       cases h
   subst hm
   have hn : news = [] := List.eq_nil_of_length_eq_zero (by simpa using hr.1)
   subst hn
   exact ⟨v, w, run_append_of_nil w base t ty e i size ht hi v n xs hown c, by simpa using hown, World.grownBy.refl w _, .inl rfl⟩
 · have hcells : ∀ j u, news[j]? = some u → w.cell? (ad.add j) = some u := by
     intro j u hu
     rcases Nat.eq_zero_or_pos m with h0 | h0
     · subst h0
       have hn : news = [] := List.eq_nil_of_length_eq_zero (by simpa using hr.1)
       subst hn
       simp at hu
     · obtain ⟨ad', h, _, hc⟩ := hr.2 h0
       injection h with h
       subst h
       exact hc j u hu
   obtain ⟨v', w', hrun, h2, h3, _, h5⟩ := run_append_own_at (P := P) w base t ty e i z size bytes ht hi hz hsize hby hzs hsz v n xs hown ad m c news hr.1 hcells h1 h63 hbytes hbase
   exact ⟨v', w', hrun, h2, h3, h5⟩

theorem wp_append_any {o : Oper} {a : Act} {K : Act → World → Prop} {Q : Exit → Act → World → Prop} (s x : Operand) (t : TypeId)
    (ho : o.op = .call { callee := .builtin .append, args := #[s, x], argTypes := #[t, t] })
    (base : Nat) (e : TypeId) (i : TypeInfo) (z : Value) (size bytes : Nat) (ht : P.underlying t = some (.slice e)) (hi : P.info? e = some i) (hz : i.zero = some z)
    (hsize : i.size = size) (hby : i.bytes = bytes) (hzs : z.cells.size = size) (hsz : 0 < size)
    (v : Value) (n : Nat) (xs : List Value) (hs : a.eval s = v) (hown : w.ownsRow base e size v n xs)
    (B : Nat) (A : Option Addr) (m c : Nat) (news : List Value) (hx : a.eval x = .slice A m c) (hr : Reads w B size A m news) (h1 : ∀ u ∈ news, u.oneCell' = true)
    (h63 : n + m ≤ maxLen) (hbytes : (n + m) * bytes ≤ 140737488355328) (hbase : base ≤ w.heap.size)
    (h : ∀ v' w', w'.ownsRow base e size v' (n + m) (xs ++ news) → w.grownBy w' v.ownBlock → (v'.ownBlock = v.ownBlock ∨ v'.ownBlock = some w.heap.size) → K (a.put o.dst v') w') : o.wp P a w K Q := by
 obtain ⟨v', w', hrun, h2, h3, h4⟩ := run_append_any (P := P) w base t o.type e i z size bytes ht hi hz hsize hby hzs hsz v n xs hown B A m c news hr h1 h63 hbytes hbase
 unfold Oper.wp execOp
 simp only [ho, resolve, invoke, builtin, Sem.run_bind, Sem.run_pure, Result.andThen_ok, List.map_toArray, List.map_cons, List.map_nil, hs, hx, hrun]
 exact h v' w' h2 h3 h4

theorem wpList_append_any {ops : Array Oper} {rest : List Oper} {o : Oper} {a : Act} {Q : Exit → Act → World → Prop} (hgd : o.guard = none) (s x : Operand) (t : TypeId)
    (ho : o.op = .call { callee := .builtin .append, args := #[s, x], argTypes := #[t, t] })
    (base : Nat) (e : TypeId) (i : TypeInfo) (z : Value) (size bytes : Nat) (ht : P.underlying t = some (.slice e)) (hi : P.info? e = some i) (hz : i.zero = some z)
    (hsize : i.size = size) (hby : i.bytes = bytes) (hzs : z.cells.size = size) (hsz : 0 < size)
    (v : Value) (n : Nat) (xs : List Value) (hs : a.eval s = v) (hown : w.ownsRow base e size v n xs)
    (B : Nat) (A : Option Addr) (m c : Nat) (news : List Value) (hx : a.eval x = .slice A m c) (hr : Reads w B size A m news) (h1 : ∀ u ∈ news, u.oneCell' = true)
    (h63 : n + m ≤ maxLen) (hbytes : (n + m) * bytes ≤ 140737488355328) (hbase : base ≤ w.heap.size)
    (h : ∀ v' w', w'.ownsRow base e size v' (n + m) (xs ++ news) → w.grownBy w' v.ownBlock → (v'.ownBlock = v.ownBlock ∨ v'.ownBlock = some w.heap.size) → wpList P ops Q rest (a.put o.dst v') w') : wpList P ops Q (o :: rest) a w :=
 wpList_plain hgd fun _ hK => wp_append_any w s x t ho base e i z size bytes ht hi hz hsize hby hzs hsz v n xs hs hown B A m c news hx hr h1 h63 hbytes hbase fun v' w' h2 h3 h4 => hK _ _ (h v' w' h2 h3 h4)

theorem step_append_any {ops : Array Oper} {o : Oper} {a : Act} {K : Act → World → Prop} {Q : Exit → Act → World → Prop} {E : Prop} (hgd : o.guard = none) (s x : Operand) (t : TypeId)
    (ho : o.op = .call { callee := .builtin .append, args := #[s, x], argTypes := #[t, t] })
    (base : Nat) (e : TypeId) (i : TypeInfo) (z : Value) (size bytes : Nat) (ht : P.underlying t = some (.slice e)) (hi : P.info? e = some i) (hz : i.zero = some z)
    (hsize : i.size = size) (hby : i.bytes = bytes) (hzs : z.cells.size = size) (hsz : 0 < size)
    (v : Value) (n : Nat) (xs : List Value) (hs : a.eval s = v) (hown : w.ownsRow base e size v n xs)
    (B : Nat) (A : Option Addr) (m c : Nat) (news : List Value) (hx : a.eval x = .slice A m c) (hr : Reads w B size A m news) (h1 : ∀ u ∈ news, u.oneCell' = true)
    (h63 : n + m ≤ maxLen) (hbytes : (n + m) * bytes ≤ 140737488355328) (hbase : base ≤ w.heap.size)
    (h : ∀ v' w', w'.ownsRow base e size v' (n + m) (xs ++ news) → w.grownBy w' v.ownBlock → (v'.ownBlock = v.ownBlock ∨ v'.ownBlock = some w.heap.size) → K (a.put o.dst v') w') :
    if Region.wanted o (yielded ops a.tmps) = true then Oper.wp P o a w K Q else E := by
 have hw : Region.wanted o (yielded ops a.tmps) = true := by simp [Region.wanted, hgd]
 rw [if_pos hw]
 exact wp_append_any w s x t ho base e i z size bytes ht hi hz hsize hby hzs hsz v n xs hs hown B A m c news hx hr h1 h63 hbytes hbase h
end
end Go.Proofs.YtkfodkbgmpbmfaaGreat
namespace Go.Proofs.YtkfodkbgmpbmfaaGreat
open Go.ChangeShapes Go.WideShapes Go.RowKit
set_option linter.unusedVariables false
def chV (c : Ch) : List Value := [.string c.name, .int .i64 c.ep, .int .i64 c.who, .bool c.al, .int .i64 c.kd, .int .i64 c.sc]
def flatC (cs : List Ch) : List Value := cs.flatMap chV
theorem row_slice {W : World} {base : Nat} {e : TypeId} {size : Nat} {v : Value} {n : Nat} {xs : List Value} (h : W.ownsRow base e size v n xs) : ∃ A c, v = .slice A n c := by
 rcases h.2 with ⟨rfl, rfl⟩ | ⟨g, cap, cur, rfl, _⟩
 · exact ⟨none, 0, rfl⟩
 · exact ⟨_, _, rfl⟩
theorem chan_inf : (Tryz.prog.info? 34).map (fun i => (i.zero, i.size, i.bytes)) = some (some (.agg #[.string ⟨#[]⟩, .int .i64 0, .int .i64 0, .bool false, .int .i64 0, .int .i64 0]), 6, 56) := by kernel_rfl
theorem chV_one (c : Ch) : ∀ u ∈ chV c, u.oneCell' = true := by
 intro u hu
 simp only [chV, List.mem_cons, List.not_mem_nil, or_false] at hu
 rcases hu with rfl | rfl | rfl | rfl | rfl | rfl <;> rfl
theorem flatC_snoc (cs : List Ch) (c : Ch) : flatC (cs ++ [c]) = flatC cs ++ chV c := by unfold flatC; simp
theorem flatC_at : ∀ (cs : List Ch) (j i : Nat), i < 6 → (flatC cs)[j * 6 + i]? = (cs[j]?).bind fun c => (chV c)[i]? := by
 intro cs
 induction cs with
 | nil => intro j i hi; simp [flatC]
 | cons c cs ih =>
  intro j i hi
  have hd : flatC (c :: cs) = chV c ++ flatC cs := rfl
  have hl : (chV c).length = 6 := rfl
  rw [hd]
  cases j with
  | zero =>
   rw [List.getElem?_append_left (by omega)]
   simp
  | succ j =>
   rw [List.getElem?_append_right (by omega), hl, show (j + 1) * 6 + i - 6 = j * 6 + i by omega, ih j i hi]
   simp
theorem chs_of_reads {w : World} {B n : Nat} {A : Option Addr} {rs : List Ch} (hl : rs.length = n) (hs : ∀ x ∈ rs, x.name.size ≤ maxLen) (h : Reads w B 6 A n (flatC rs)) : ChsAt w B A n rs := by
 refine ⟨hl, hs, fun hn => ?_⟩
 obtain ⟨ad, e, hb, hc⟩ := h.2 hn
 refine ⟨ad, e, hb, fun j x hx => ?_⟩
 have hat : ∀ i, i < 6 → (flatC rs)[j * 6 + i]? = (chV x)[i]? := fun i hi => by rw [flatC_at rs j i hi, hx]; rfl
 have h0 := hc (j * 6) (.string x.name) (by rw [show j * 6 = j * 6 + 0 from rfl, hat 0 (by omega)]; rfl)
 have h1 := hc (j * 6 + 1) (.int .i64 x.ep) (by rw [hat 1 (by omega)]; rfl)
 have h2 := hc (j * 6 + 2) (.int .i64 x.who) (by rw [hat 2 (by omega)]; rfl)
 have h3 := hc (j * 6 + 3) (.bool x.al) (by rw [hat 3 (by omega)]; rfl)
 have h4 := hc (j * 6 + 4) (.int .i64 x.kd) (by rw [hat 4 (by omega)]; rfl)
 have h5 := hc (j * 6 + 5) (.int .i64 x.sc) (by rw [hat 5 (by omega)]; rfl)
 rw [← Go.Deep.add_add, add_next] at h1 h2 h3 h4 h5
 exact ⟨h0, h1, h2, h3, h4, h5⟩
def OwnC (w : World) (base : Nat) (v : Value) (rs : List Ch) : Prop := w.ownsRow base 34 6 v rs.length (flatC rs)
theorem OwnC.at_ {w : World} {base : Nat} {v : Value} {rs : List Ch} (h : OwnC w base v rs) (hs : ∀ x ∈ rs, x.name.size ≤ maxLen) : ∃ A c, v = .slice A rs.length c ∧ ChsAt w w.heap.size A rs.length rs := by
 have h' := h
 rcases h.2 with ⟨rfl, hn⟩ | ⟨g, cap, cur, rfl, _⟩
 · refine ⟨none, 0, by rw [hn], rfl, hs, fun h0 => absurd h0 (by omega)⟩
 · exact ⟨_, _, rfl, chs_of_reads rfl hs (Reads.of_own h')⟩
end Go.Proofs.YtkfodkbgmpbmfaaGreat
