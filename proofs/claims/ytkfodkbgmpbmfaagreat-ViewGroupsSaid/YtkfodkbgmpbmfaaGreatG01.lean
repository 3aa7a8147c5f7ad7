/- Chapter 22, parts on the way: Yo Yt Opv Yu Grl -/
import Derived.WalkKit
import Derived.WalkSpells
import Derived.WalkLawsBesides
import Derived.Deep.QuietTactic
import Derived.BigQuiet
import Derived.Deep.RegionHeld
import Derived.StillTail
import Derived.Test.YtkfodkbgmpbmfaaGreatRows
import Derived.WalkMore
import Derived.Lib.Hide
import Derived.Laws.Strings
import Derived.Below
import Derived.Laws.OwnMore
import Derived.Deep.AppendLies
import Derived.Deep.Draws
import Derived.ChangeSame
import Derived.Deep.Slices
import Derived.Deep.Fields
import Derived.SizedLaws
import Derived.Lib.SmallJoins
import Derived.OpenShut
import Derived.RangeFuncNested
import Derived.RangeFuncBound
import Derived.RangeFuncCalls
import Derived.RangeFuncLeaves
import Derived.RangeFuncBox
import Derived.Shelf.Abstract
import Derived.Shelf.RegionOpen
import Derived.OwnWalkIn
import Derived.TacticsInMore
import Derived.LoopNIn
import Derived.LoopIn
import Derived.OrdersIn
import Derived.Maps.AppendAt
import Derived.RegionTactic
import Derived.OwnWalk
import Derived.Lib.SliceRun
import Derived.Deep.RegionHeld3
import Derived.Laws.EntriesVeiled
import Derived.Outline
import Derived.Laws.IdiomCopy
import Derived.RowKit
import Derived.Maps.Own
import Derived.Maps.OwnOps
import Derived.Maps.OwnSet
import Derived.Maps.Views
import Derived.Maps.RangeWalk
import Derived.DeepKeys4
import Derived.Maps.OwnIn
import Derived.Deep.OwnRows
import Derived.Deep.RegionLaw
import Derived.Deep.Cut
import Derived.Deep.CutRange
import Derived.Deep.DeepAppendWide
import Derived.Lib.Mul64
import Derived.Shelf.Spec.BitsCarry
import Derived.Laws.Bits64b
import Derived.BigRegion
import Derived.Shelf.SlSortCmp.WholeK
import Derived.Shelf.SlicesG.Cmp
import Derived.Test.YtkfodkbgmpbmfaaGreatProg
import Derived.Shelf.SlSortCmp.NoneTotal
import Derived.Laws.BytesString
import Derived.Deep.MidRow
import Derived.Laws.ResultCell
import Derived.Shelf.SlGeneric
import Derived.Ground.SlgmProg
import Derived.Shelf.SortM.Plain
import Derived.Sort.OwnSortedInts
import Derived.Laws.IdiomStrings
import Derived.ProofKit
import Derived.ChangeSlices
import Derived.Test.YtkfodkbgmpbmfaaGreatB01
import Derived.Test.YtkfodkbgmpbmfaaGreatB02
import Derived.Test.YtkfodkbgmpbmfaaGreatB03
import Derived.Test.YtkfodkbgmpbmfaaGreatB04
import Derived.Test.YtkfodkbgmpbmfaaGreatB05
import Derived.Test.YtkfodkbgmpbmfaaGreatB06
import Derived.Test.YtkfodkbgmpbmfaaGreatB07
import Derived.Test.YtkfodkbgmpbmfaaGreatB08
import Derived.Test.YtkfodkbgmpbmfaaGreatB09
import Derived.Test.YtkfodkbgmpbmfaaGreatB10
import Derived.Test.YtkfodkbgmpbmfaaGreatB11
import Derived.Test.YtkfodkbgmpbmfaaGreatB12
import Derived.Test.YtkfodkbgmpbmfaaGreatB13
import Derived.Test.YtkfodkbgmpbmfaaGreatB14
import Derived.Test.YtkfodkbgmpbmfaaGreatB15
import Derived.Test.YtkfodkbgmpbmfaaGreatB16
import Derived.Test.YtkfodkbgmpbmfaaGreatB17
import Derived.Test.YtkfodkbgmpbmfaaGreatB18
import Derived.Test.YtkfodkbgmpbmfaaGreatB19
import Derived.Test.YtkfodkbgmpbmfaaGreatB20
import Derived.Test.YtkfodkbgmpbmfaaGreatB21
import Derived.Test.YtkfodkbgmpbmfaaGreatB22
import Derived.Test.YtkfodkbgmpbmfaaGreatB23
import Derived.Test.YtkfodkbgmpbmfaaGreatB24
import Derived.Test.YtkfodkbgmpbmfaaGreatB25
import Derived.Test.YtkfodkbgmpbmfaaGreatB26
import Derived.Test.YtkfodkbgmpbmfaaGreatB27
import Derived.Test.YtkfodkbgmpbmfaaGreatB28
import Derived.Test.YtkfodkbgmpbmfaaGreatB29
import Derived.Test.YtkfodkbgmpbmfaaGreatB30
import Derived.Test.YtkfodkbgmpbmfaaGreatB31
import Derived.Test.YtkfodkbgmpbmfaaGreatB32
import Derived.Test.YtkfodkbgmpbmfaaGreatB33
import Derived.Test.YtkfodkbgmpbmfaaGreatB34
import Derived.Test.YtkfodkbgmpbmfaaGreatB35
import Derived.Test.YtkfodkbgmpbmfaaGreatB36
import Derived.Test.YtkfodkbgmpbmfaaGreatB37
import Derived.Test.YtkfodkbgmpbmfaaGreatB38
import Derived.Test.YtkfodkbgmpbmfaaGreatB39
import Derived.Test.YtkfodkbgmpbmfaaGreatB40
import Derived.Test.YtkfodkbgmpbmfaaGreatB41
import Derived.Test.YtkfodkbgmpbmfaaGreatB42
set_option linter.unusedVariables false
set_option linter.unusedSimpArgs false
namespace Go.Proofs.YtkfodkbgmpbmfaaGreat
open Go.RowKit Go.Shelf
set_option linter.unusedVariables false
set_option linter.unusedSimpArgs false
set_option maxRecDepth 100000
theorem Rch.trans {n : Nat} {H : Nat → Nat → Bool} {a b c : Nat} (h : Rch n H a b) (h2 : Rch n H b c) : Rch n H a c := h2 (Rch n H a) h (fun _ _ hx hy e => hx.step hy e)
theorem Rch.symm {n : Nat} {H : Nat → Nat → Bool} (hS : ∀ x y, H x y = H y x) {a b : Nat} (h : Rch n H a b) (ha : a < n) : Rch n H b a := by
 have : b < n ∧ Rch n H b a := h (fun x => x < n ∧ Rch n H x a) ⟨ha, Rch.refl n H a⟩ (fun x y hx hy e => ⟨hy, ((Rch.refl n H y).step hx.1 (by rw [hS]; exact e)).trans hx.2⟩)
 exact this.2
end Go.Proofs.YtkfodkbgmpbmfaaGreat
namespace Go.Proofs.YtkfodkbgmpbmfaaGreat
open Go.RowKit Go.Shelf
set_option linter.unusedVariables false
set_option linter.unusedSimpArgs false
set_option maxRecDepth 100000
theorem memI_cont (l : List Nat) (k : Nat) : (memI l).contains (k : Int) = l.contains k := by
 rw [Bool.eq_iff_iff, List.contains_iff_mem, List.contains_iff_mem]
 unfold memI
 rw [List.mem_map]
 constructor
 · rintro ⟨a, h, e⟩; obtain rfl := Int.ofNat.inj e; exact h
 · intro h; exact ⟨k, h, rfl⟩
end Go.Proofs.YtkfodkbgmpbmfaaGreat
namespace Go.Proofs.YtkfodkbgmpbmfaaGreat
open Go.ChangeShapes Go.WideShapes Go.ChangeAt Go.RowKit Go.Shelf Go.Deep Go.Joins Go.ChangeMaps
set_option linter.unusedVariables false
set_option linter.unusedSimpArgs false
set_option maxRecDepth 100000
section
variable {H : Type} {enc : TypeId × Value → H} {w : World} {base b0 : Nat} {spare : Nat → Bool} {held : Bool}
end
theorem allE_sq (p : Nat → Nat → Bool) (n : Nat) : (allE p n n).length ≤ n * n := by
 have h : ∀ a, (allE p n a).length ≤ a * n := by
  intro a
  induction a with
  | zero => simp [allE]
  | succ a ih =>
   have e : allE p n (a + 1) = allE p n a ++ rowE p a n := by unfold allE; rw [List.range_succ, List.flatMap_append]; simp
   have h2 : (rowE p a n).length ≤ n := by
    unfold rowE
    rw [List.length_map]
    have := List.length_filter_le (fun j => decide (a < j) && p a j) (List.range n)
    simpa using this
   rw [e, List.length_append, Nat.succ_mul]
   omega
 exact h n
theorem own_lk {w : World} {base n c : Nat} {A : Option Addr} {l : List (Int × Int)} (h : OwnE Bg.encL 2 62 w base (.slice A n c) l) (hn : l.length = n) : RowsE Bg.encL 2 w w.heap.size A n l := by
 obtain ⟨A4, c4, e, h2⟩ := OwnE.at_ Bg.encL_len h
 injection e with e1 e2 e3
 rw [e1, ← hn]
 exact h2
end Go.Proofs.YtkfodkbgmpbmfaaGreat
namespace Go.Proofs.YtkfodkbgmpbmfaaGreat
open Go.RowKit Go.Shelf
set_option linter.unusedVariables false
set_option linter.unusedSimpArgs false
set_option maxRecDepth 100000
theorem grp_len (n : Nat) (H : Nat → Nat → Bool) (a : Nat) : (grp n H a).length ≤ n := by
 unfold grp
 have := List.length_filter_le (fun b => @decide (Rch n H a b) (Classical.propDecidable _)) (List.range n)
 simpa using this
end Go.Proofs.YtkfodkbgmpbmfaaGreat
namespace Go.Proofs.YtkfodkbgmpbmfaaGreat
open Go.RowKit Go.Shelf
set_option linter.unusedVariables false
set_option linter.unusedSimpArgs false
set_option maxRecDepth 100000
theorem bothB_symm (x : Wd) (a b : Int) (nm : ByteArray) : bothB x a b nm = bothB x b a nm := by
 unfold bothB
 cases instS x a nm <;> cases instS x b nm <;> simp only []
 rename_i c d
 unfold sameC
 have e1 : decide (c.ch.ep = d.ch.ep) = decide (d.ch.ep = c.ch.ep) := by rw [decide_eq_decide]; exact eq_comm
 have e2 : decide (c.ch.who = d.ch.who) = decide (d.ch.who = c.ch.who) := by rw [decide_eq_decide]; exact eq_comm
 rw [e1, e2, Bool.and_comm (flowsK c.ch.kd)]
theorem agreedB_heldT {x : Wd} {a b : Int} {nm : ByteArray} (h : agreedB x a b nm = true) : heldB x a b = true := by
 cases hh : heldB x a b with
 | true => rfl
 | false => rw [regEq_off (.inl hh)] at h; cases h
theorem heldB_up {x : Wd} {a b : Int} (h : heldB x a b = true) : (upN x a).isSome = true ∧ (upN x b).isSome = true := by
 unfold heldB at h
 cases hu : upN x a with
 | none => rw [hu] at h; cases h
 | some u =>
  cases hv : upN x b with
  | none => rw [hu, hv] at h; cases h
  | some v => exact ⟨rfl, rfl⟩
theorem grp_mem {x : Wd} {g : List Nat} (hg : g ∈ groupsB x) : ∃ a0, a0 < x.nds.length ∧ upB x a0 = true ∧ g = grp x.nds.length (heldN x) a0 := grps_of _ _ _ _ (Nat.le_refl _) g hg
theorem grp_up {x : Wd} {g : List Nat} (hg : g ∈ groupsB x) {a : Nat} (ha : a ∈ g) : a < x.nds.length ∧ upB x a = true := by
 obtain ⟨a0, h0, hu, rfl⟩ := grp_mem hg
 obtain ⟨h1, h2⟩ := mem_grp.1 ha
 exact ⟨h1, h2 (fun b => upB x b = true) hu (fun p q _ _ e => (heldB_up e).2)⟩
theorem grp_step {x : Wd} {g : List Nat} (hg : g ∈ groupsB x) {a : Nat} (ha : a ∈ g) {p : Int} (h : heldB x a p = true) : (memI g).contains p = true := by
 obtain ⟨a0, h0, hu, rfl⟩ := grp_mem hg
 obtain ⟨h1, h2⟩ := mem_grp.1 ha
 obtain ⟨v, hv⟩ := Option.isSome_iff_exists.1 (heldB_up h).2
 obtain ⟨k, rfl, hk, _⟩ := upN_some hv
 rw [memI_cont, List.contains_iff_mem, mem_grp]
 exact ⟨hk, h2.step hk h⟩
theorem grp_rise {x : Wd} {g : List Nat} (hg : g ∈ groupsB x) : g.Pairwise (· < ·) := by
 obtain ⟨a0, _, _, rfl⟩ := grp_mem hg
 exact grp_rises _ _ _
def memOk (x : Wd) (nm : ByteArray) (g0 a : Nat) : Bool := (((upN x a).getD Nd0).halves.all fun h => agreedB x a h.peer nm) && bothB x a g0 nm
theorem all_same {α : Type} {p q : α → Bool} {l : List α} (h : ∀ a ∈ l, p a = q a) : l.all p = l.all q := by
 induction l with
 | nil => rfl
 | cons a l ih => rw [List.all_cons, List.all_cons, h a List.mem_cons_self, ih (fun b hb => h b (List.mem_cons_of_mem _ hb))]
theorem all_range {p : Nat → Bool} (l : List Nat) : (List.range l.length).all (fun i => match l[i]? with | none => true | some a => p a) = l.all p := by
 rw [Bool.eq_iff_iff, List.all_eq_true, List.all_eq_true]
 constructor
 · intro h a ha
   obtain ⟨i, hi, rfl⟩ := List.getElem_of_mem ha
   have := h i (List.mem_range.2 hi)
   rw [List.getElem?_eq_getElem hi] at this
   exact this
 · intro h i hi
   have hi := List.mem_range.1 hi
   rw [List.getElem?_eq_getElem hi]
   exact h _ (List.getElem_mem hi)
theorem grp_closed {x : Wd} {nm : ByteArray} {g : List Nat} (hg : g ∈ groupsB x) : closedB x (memI g) nm = g.all (memOk x nm (g.headD 0)) := by
 rw [← all_range]
 unfold closedB
 rw [memI_len]
 refine all_same (fun i hi => ?_)
 have hi := List.mem_range.1 hi
 rw [List.getElem?_eq_getElem hi]
 simp only []
 have hm : (memI g)[i]? = some ((g[i] : Nat) : Int) := by unfold memI; rw [List.getElem?_map, List.getElem?_eq_getElem hi]; rfl
 rw [closeB_at hm]
 have hin : g[i] ∈ g := List.getElem_mem hi
 have e1 : ((memI g).take i).contains ((g[i] : Nat) : Int) = false := by
  have e : (memI g).take i = memI (g.take i) := by unfold memI; rw [List.map_take]
  rw [e, memI_cont]
  cases hc : (g.take i).contains g[i] with
  | false => rfl
  | true =>
   exfalso
   rw [List.contains_iff_mem] at hc
   obtain ⟨j, hj, e⟩ := List.getElem_of_mem hc
   rw [List.length_take] at hj
   rw [List.getElem_take] at e
   have := List.pairwise_iff_getElem.1 (grp_rise hg) j i (by omega) hi (by omega)
   omega
 have e2 : (memI g).headD 0 = ((g.headD 0 : Nat) : Int) := by unfold memI; cases g <;> rfl
 have e3 : (((upN x ((g[i] : Nat) : Int)).getD Nd0).halves.all fun h => (memI g).contains h.peer && agreedB x ((g[i] : Nat) : Int) h.peer nm) = (((upN x ((g[i] : Nat) : Int)).getD Nd0).halves.all fun h => agreedB x ((g[i] : Nat) : Int) h.peer nm) := by
  refine all_same (fun h _ => ?_)
  cases ha : agreedB x ((g[i] : Nat) : Int) h.peer nm with
  | false => rw [Bool.and_false]
  | true => rw [grp_step hg hin (agreedB_heldT ha)]; rfl
 rw [e1, e2, e3, bothB_symm x _ ((g[i] : Nat) : Int)]
 unfold memOk
 rw [Bool.not_false, Bool.true_and, Bool.and_comm]
def cntI (l : List Nat) (n : Nat) : List Int := (List.range n).map fun j => ((l.count j : Nat) : Int)
def encIs (l : List Int) : List Value := l.map fun v => .int .i64 v
theorem cnt_enc {l : List Nat} {n j : Nat} (h : j < n) : (encIs (cntI l n))[j]? = some (.int .i64 ((l.count j : Nat) : Int)) := by
 unfold encIs cntI
 rw [List.getElem?_map, List.getElem?_map, List.getElem?_range h]
 rfl
theorem cnt_nil (n : Nat) : encIs (cntI [] n) = List.replicate n (.int .i64 0) := by
 unfold encIs cntI
 apply List.ext_getElem?
 intro j
 by_cases hj : j < n
 · rw [List.getElem?_map, List.getElem?_map, List.getElem?_range hj, List.getElem?_replicate, if_pos hj]
   rfl
 · rw [List.getElem?_eq_none (by simp; omega), List.getElem?_eq_none (by simp; omega)]
theorem cnt_set (l : List Nat) (n k : Nat) : encIs (cntI (l ++ [k]) n) = (encIs (cntI l n)).set k (.int .i64 (((l.count k : Nat) : Int) + 1)) := by
 apply List.ext_getElem?
 intro j
 rw [List.getElem?_set]
 by_cases hj : j < n
 · rw [cnt_enc hj]
   by_cases hk : k = j
   · subst hk
     have hl : k < (encIs (cntI l n)).length := by unfold encIs cntI; simpa using hj
     rw [if_pos rfl, if_pos hl, List.count_append, List.count_singleton_self]
     simp
   · rw [if_neg hk, cnt_enc hj, List.count_append, List.count_singleton]
     rw [if_neg (by simpa using hk)]
     simp
 · have h1 : (encIs (cntI (l ++ [k]) n))[j]? = none := List.getElem?_eq_none (by unfold encIs cntI; simp; omega)
   have h2 : (encIs (cntI l n))[j]? = none := List.getElem?_eq_none (by unfold encIs cntI; simp; omega)
   rw [h1]
   by_cases hk : k = j
   · subst hk
     rw [if_pos rfl, if_neg (by unfold encIs cntI; simp; omega)]
   · rw [if_neg hk, h2]
theorem count_nodup {l : List Nat} (h : l.Pairwise (· < ·)) (b : Nat) : l.count b = if b ∈ l then 1 else 0 := by
 have hn : l.Nodup := h.imp (fun h => Nat.ne_of_lt h)
 split
 · rename_i hb
   have h1 := List.nodup_iff_count.1 hn b
   have h2 := List.count_pos_iff.2 hb
   omega
 · rename_i hb
   exact List.count_eq_zero.2 hb
theorem grps_count {n : Nat} {H : Nat → Nat → Bool} {up : Nat → Bool} (hS : ∀ x y, H x y = H y x) : ∀ (k : Nat), k ≤ n → ∀ b, (grps n H up k).flatten.count b = if inG (grps n H up k) b = true then 1 else 0
 | 0, _, b => by simp [grps, inG]
 | k + 1, hk, b => by
  have ih := grps_count (n := n) (up := up) hS k (by omega) b
  by_cases hc : up k = true ∧ inG (grps n H up k) k = false
  · rw [grps_next_yes hc.1 hc.2, List.flatten_append, List.count_append, ih, inG_app]
    have e : [grp n H k].flatten = grp n H k := by simp
    rw [e, count_nodup (grp_rises n H k)]
    by_cases hb : b ∈ grp n H k
    · have hno : inG (grps n H up k) b = false := by
        cases hi : inG (grps n H up k) b with
        | false => rfl
        | true =>
         exfalso
         obtain ⟨hbn, hr⟩ := mem_grp.1 hb
         have hkn : k < n := by omega
         have h3 := (hr.symm hS hkn) (fun y => y < n ∧ inG (grps n H up k) y = true) ⟨hbn, hi⟩ (fun p q hp hq e => ⟨hq, grps_closed hS (by omega) hq hp.1 (by rw [hS]; exact e) hp.2⟩)
         rw [hc.2] at h3
         cases h3.2
      rw [if_pos hb, hno, List.contains_iff_mem.2 hb]
      rfl
    · have : (grp n H k).contains b = false := by
        cases h : (grp n H k).contains b with
        | false => rfl
        | true => exact absurd (List.contains_iff_mem.1 h) hb
      rw [if_neg hb, this, Bool.or_false, Nat.add_zero]
  · have e : grps n H up (k + 1) = grps n H up k := by
      refine grps_next_no ?_
      cases h1 : up k with
      | false => exact .inl rfl
      | true =>
       right
       cases h2 : inG (grps n H up k) k with
       | true => rfl
       | false => exact absurd ⟨h1, h2⟩ hc
    rw [e]
    exact ih
theorem grps_in {n : Nat} {H : Nat → Nat → Bool} {up : Nat → Bool} : ∀ (k : Nat), k ≤ n → ∀ b, b < k → up b = true → inG (grps n H up k) b = true
 | 0, _, b, hb, _ => absurd hb (by omega)
 | k + 1, hk, b, hb, hu => by
  by_cases hc : up k = true ∧ inG (grps n H up k) k = false
  · rw [grps_next_yes hc.1 hc.2, inG_app]
    rcases Nat.lt_or_eq_of_le (Nat.lt_succ_iff.1 hb) with h | h
    · rw [grps_in k (by omega) b h hu]; rfl
    · subst h
      rw [List.contains_iff_mem.2 (mem_grp.2 ⟨by omega, Rch.refl n H b⟩), Bool.or_true]
  · have e : grps n H up (k + 1) = grps n H up k := by
      refine grps_next_no ?_
      cases h1 : up k with
      | false => exact .inl rfl
      | true =>
       right
       cases h2 : inG (grps n H up k) k with
       | true => rfl
       | false => exact absurd ⟨h1, h2⟩ hc
    rw [e]
    rcases Nat.lt_or_eq_of_le (Nat.lt_succ_iff.1 hb) with h | h
    · exact grps_in k (by omega) b h hu
    · subst h
      cases h2 : inG (grps n H up b) b with
      | true => rfl
      | false => exact absurd ⟨hu, h2⟩ hc
theorem groups_count (x : Wd) {b : Nat} (hb : b < x.nds.length) : (groupsB x).flatten.count b = if upB x b = true then 1 else 0 := by
 unfold groupsB
 rw [grps_count (heldN_symm x) _ (Nat.le_refl _) b]
 cases hu : upB x b with
 | true => rw [grps_in _ (Nat.le_refl _) b hb hu]
 | false =>
  cases hi : inG (grps x.nds.length (heldN x) (upB x) x.nds.length) b with
  | false => rfl
  | true =>
   exfalso
   obtain ⟨g, hg, hm⟩ := inG_mem.1 hi
   have := (grp_up (show g ∈ groupsB x from hg) hm).2
   rw [hu] at this
   cases this
theorem pick_next {α : Type} {p : α → Bool} {l : List α} {k : Nat} {e : α} (h : l[k]? = some e) : ((l.take (k + 1)).filter p).length = ((l.take k).filter p).length + (if p e = true then 1 else 0) := by
 obtain ⟨hk, he⟩ := List.getElem?_eq_some_iff.1 h
 rw [← List.take_append_getElem hk, List.filter_append, List.length_append, he]
 cases hp : p e with
 | true => rw [List.filter_cons_of_pos hp]; rfl
 | false => rw [List.filter_cons_of_neg (by rw [hp]; decide)]; rfl
theorem pick_at {α : Type} {p : α → Bool} {l : List α} {k : Nat} {e : α} (h : l[k]? = some e) (hp : p e = true) : (l.filter p)[((l.take k).filter p).length]? = some e := by
 obtain ⟨hk, he⟩ := List.getElem?_eq_some_iff.1 h
 have e1 : l = l.take k ++ (l[k] :: l.drop (k + 1)) := by rw [List.getElem_cons_drop, List.take_append_drop]
 have e2 : l.filter p = (l.take k).filter p ++ (l[k] :: l.drop (k + 1)).filter p := by
  conv => lhs; rw [e1]
  rw [List.filter_append]
 rw [e2, he, List.filter_cons_of_pos hp, List.getElem?_append_right (Nat.le_refl _), Nat.sub_self]
 rfl
theorem take_flat {g : List Nat} {L : List (List Nat)} {k : Nat} (h : L[k]? = some g) : (L.take (k + 1)).flatten = (L.take k).flatten ++ g := by
 obtain ⟨hk, he⟩ := List.getElem?_eq_some_iff.1 h
 rw [← List.take_append_getElem hk, List.flatten_append, he]
 simp
theorem take_one {α : Type} {l : List α} {k : Nat} {a : α} (h : l[k]? = some a) : l.take (k + 1) = l.take k ++ [a] := by
 obtain ⟨hk, he⟩ := List.getElem?_eq_some_iff.1 h
 rw [← List.take_append_getElem hk, he]
theorem all_one {α : Type} {p : α → Bool} {l : List α} {k : Nat} {a : α} (h : l[k]? = some a) : (l.take (k + 1)).all p = ((l.take k).all p && p a) := by
 rw [take_one h, List.all_append]
 simp
end Go.Proofs.YtkfodkbgmpbmfaaGreat
