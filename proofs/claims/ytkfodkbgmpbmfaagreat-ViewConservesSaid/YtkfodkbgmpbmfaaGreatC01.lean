/- ViewConserves: of any fit world, any set and any name: if a set of nodes is closed, the sum of what they estimate is the sum of their inputs, or out of range; so it is of each group. For every input, without a condition. -/
import Derived.WalkKit
import Derived.WalkSpells
import Derived.WalkLawsBesides
import Derived.Deep.QuietTactic
import Derived.BigQuiet
import Derived.Deep.RegionHeld
import Derived.StillTail
import Derived.Test.YtkfodkbgmpbmfaaGreatRows
import Derived.WalkMore
import Derived.Lib.Hide
import Derived.Laws.Strings
import Derived.Below
import Derived.Laws.OwnMore
import Derived.Deep.AppendLies
import Derived.Deep.Draws
import Derived.ChangeSame
import Derived.Deep.Slices
import Derived.Deep.Fields
import Derived.SizedLaws
import Derived.Lib.SmallJoins
import Derived.OpenShut
import Derived.RangeFuncNested
import Derived.RangeFuncBound
import Derived.RangeFuncCalls
import Derived.RangeFuncLeaves
import Derived.RangeFuncBox
import Derived.Shelf.Abstract
import Derived.Shelf.RegionOpen
import Derived.OwnWalkIn
import Derived.TacticsInMore
import Derived.LoopNIn
import Derived.LoopIn
import Derived.OrdersIn
import Derived.Maps.AppendAt
import Derived.RegionTactic
import Derived.OwnWalk
import Derived.Lib.SliceRun
import Derived.Shelf.SlSortCmp.WholeK
import Derived.Shelf.SlicesG.Cmp
import Derived.Test.YtkfodkbgmpbmfaaGreatProg
import Derived.Deep.RegionHeld3
import Derived.Laws.EntriesVeiled
import Derived.Outline
import Derived.Laws.IdiomCopy
import Derived.RowKit
import Derived.Maps.OwnIn
import Derived.Maps.Own
import Derived.Maps.OwnOps
import Derived.Maps.OwnSet
import Derived.Maps.Views
import Derived.Maps.RangeWalk
import Derived.DeepKeys4
import Derived.Deep.OwnRows
import Derived.Deep.RegionLaw
import Derived.Deep.Cut
import Derived.Deep.CutRange
import Derived.Deep.DeepAppendWide
import Derived.Lib.Mul64
import Derived.Shelf.Spec.BitsCarry
import Derived.Laws.Bits64b
import Derived.BigRegion
import Derived.Shelf.SlSortCmp.NoneTotal
import Derived.Laws.BytesString
import Derived.Deep.MidRow
import Derived.Laws.ResultCell
import Derived.Laws.IdiomStrings
import Derived.ProofKit
import Derived.ChangeSlices
import Derived.Shelf.SlGeneric
import Derived.Ground.SlgmProg
import Derived.Shelf.SortM.Plain
import Derived.Sort.OwnSortedInts
import Derived.ChangeMaps5
import Derived.Test.YtkfodkbgmpbmfaaGreatB01
import Derived.Test.YtkfodkbgmpbmfaaGreatB02
import Derived.Test.YtkfodkbgmpbmfaaGreatB03
import Derived.Test.YtkfodkbgmpbmfaaGreatB04
import Derived.Test.YtkfodkbgmpbmfaaGreatB05
import Derived.Test.YtkfodkbgmpbmfaaGreatB06
import Derived.Test.YtkfodkbgmpbmfaaGreatB07
import Derived.Test.YtkfodkbgmpbmfaaGreatB08
import Derived.Test.YtkfodkbgmpbmfaaGreatB09
import Derived.Test.YtkfodkbgmpbmfaaGreatB10
import Derived.Test.YtkfodkbgmpbmfaaGreatB11
import Derived.Test.YtkfodkbgmpbmfaaGreatB12
import Derived.Test.YtkfodkbgmpbmfaaGreatB13
import Derived.Test.YtkfodkbgmpbmfaaGreatB14
import Derived.Test.YtkfodkbgmpbmfaaGreatB15
import Derived.Test.YtkfodkbgmpbmfaaGreatB16
import Derived.Test.YtkfodkbgmpbmfaaGreatB17
import Derived.Test.YtkfodkbgmpbmfaaGreatB18
import Derived.Test.YtkfodkbgmpbmfaaGreatB19
import Derived.Test.YtkfodkbgmpbmfaaGreatB20
import Derived.Test.YtkfodkbgmpbmfaaGreatB21
import Derived.Test.YtkfodkbgmpbmfaaGreatB22
import Derived.Test.YtkfodkbgmpbmfaaGreatB23
import Derived.Test.YtkfodkbgmpbmfaaGreatB24
import Derived.Test.YtkfodkbgmpbmfaaGreatB25
import Derived.Test.YtkfodkbgmpbmfaaGreatB26
import Derived.Test.YtkfodkbgmpbmfaaGreatB27
import Derived.Test.YtkfodkbgmpbmfaaGreatB28
import Derived.Test.YtkfodkbgmpbmfaaGreatB29
import Derived.Test.YtkfodkbgmpbmfaaGreatB30
import Derived.Test.YtkfodkbgmpbmfaaGreatB31
import Derived.Test.YtkfodkbgmpbmfaaGreatB32
import Derived.Test.YtkfodkbgmpbmfaaGreatB33
import Derived.Test.YtkfodkbgmpbmfaaGreatB34
import Derived.Test.YtkfodkbgmpbmfaaGreatB35
import Derived.Test.YtkfodkbgmpbmfaaGreatB36
import Derived.Test.YtkfodkbgmpbmfaaGreatB37
import Derived.Test.YtkfodkbgmpbmfaaGreatB38
import Derived.Test.YtkfodkbgmpbmfaaGreatB39
import Derived.Test.YtkfodkbgmpbmfaaGreatB40
import Derived.Test.YtkfodkbgmpbmfaaGreatB41
import Derived.Test.YtkfodkbgmpbmfaaGreatB42
set_option linter.unusedVariables false
set_option linter.unusedSimpArgs false
namespace Go.Proofs.YtkfodkbgmpbmfaaGreat
set_option linter.unusedVariables false
theorem ltN_irrefl (a : ByteArray) : ltN a a = false := bl_irrefl _
end Go.Proofs.YtkfodkbgmpbmfaaGreat
namespace Go.Proofs.YtkfodkbgmpbmfaaGreat
open Go.ChangeShapes Go.WideShapes Go.ChangeAt Go.RowKit Go.Shelf Go.Deep Go.Joins Go.ChangeMaps
set_option linter.unusedVariables false
set_option linter.unusedSimpArgs false
set_option maxRecDepth 100000
section
variable {H : Type} {enc : TypeId × Value → H} {w : World} {base b0 : Nat} {spare : Nat → Bool} {held : Bool}
theorem open_set {ts : List TypeId} {ds : List (DataW H)} (hsz : (DataW.weightsEach Tryz.prog ts ds).all (· ≤ reachBytes) = true) {v : Value} {d : DataW H} {p : List MemPlace} {j : Nat} (ht : ts[j]? = some 42) (hd : ds[j]? = some d)
    (hv : Value.okWide Tryz.prog w .any b0 42 v) (h : DataW.Trod enc Tryz.prog w base spare held 42 v d p) :
    ∃ (A : Option Addr) (n c : Nat) (set : List Int), v = .slice A n c ∧ RowsE encI 1 w w.heap.size A n set ∧ n ≤ c ∧ n ≤ 70368744177664 := by
 obtain ⟨A0, n0, c0, rfl⟩ := okWide_slice Tryz.underlying42 hv
 obtain ⟨fuel, hf⟩ := h
 have hf' : DataW.trod enc Tryz.prog w base spare held fuel 42 [.slice A0 n0 c0] = some (d, p) := by simpa [Value.cells] using hf
 obtain ⟨A, n, c, rs, e, hnc, hr, hx⟩ := trod_rowsD (enc2 := encI) (k := 1) (Q := fun _ _ => True) (fun _ => rfl) (by decide) 0 Tryz.underlying42 k_int (fun _ _ _ h => by obtain ⟨y, e⟩ := wtrod_int h; exact ⟨y, e, trivial⟩) hf'
 have hz : SzOk 42 d := fun z hz => by
  have := List.all_eq_true.1 hsz _ (DataW.weights_mem_each ht hd z hz)
  simpa using this
 have h3 := (hz.len Tryz.underlying42 (b := 8) (by kernel_rfl) hx).1
 exact ⟨A, n, c, rs, e, hr, hnc, by omega⟩
end
end Go.Proofs.YtkfodkbgmpbmfaaGreat
namespace Go.Proofs.YtkfodkbgmpbmfaaGreat
open Go.RowKit Go.Shelf
set_option linter.unusedVariables false
set_option linter.unusedSimpArgs false
set_option maxRecDepth 100000
theorem grp_len (n : Nat) (H : Nat → Nat → Bool) (a : Nat) : (grp n H a).length ≤ n := by
 unfold grp
 have := List.length_filter_le (fun b => @decide (Rch n H a b) (Classical.propDecidable _)) (List.range n)
 simpa using this
end Go.Proofs.YtkfodkbgmpbmfaaGreat
namespace Go.Proofs.YtkfodkbgmpbmfaaGreat
open Go.RowKit Go.Shelf
set_option linter.unusedVariables false
set_option linter.unusedSimpArgs false
set_option maxRecDepth 100000
theorem sum_add (f g : Int → Int) : ∀ l : List Int, (l.map fun b => f b + g b).sum = (l.map f).sum + (l.map g).sum
 | [] => rfl
 | b :: l => by
  have h := sum_add f g l
  simp only [List.map_cons, List.sum_cons]
  omega
theorem sum_neg (f : Int → Int) : ∀ l : List Int, (l.map fun b => - f b).sum = - (l.map f).sum
 | [] => rfl
 | b :: l => by
  have h := sum_neg f l
  simp only [List.map_cons, List.sum_cons]
  omega
theorem sum_zero : ∀ l : List Int, (l.map fun _ => (0 : Int)).sum = 0
 | [] => rfl
 | b :: l => by
  have h := sum_zero l
  simp only [List.map_cons, List.sum_cons]
  omega
theorem sum_same {f g : Int → Int} {l : List Int} (h : ∀ b ∈ l, f b = g b) : (l.map f).sum = (l.map g).sum := by rw [List.map_congr_left h]
theorem sum_swap (F : Int → Int → Int) (m : List Int) : ∀ l : List Int, (l.map fun a => (m.map fun b => F a b).sum).sum = (m.map fun b => (l.map fun a => F a b).sum).sum
 | [] => by
  have h := sum_zero m
  simp only [List.map_nil, List.sum_nil]
  exact h.symm
 | a :: l => by
  have h := sum_swap F m l
  have h2 := sum_add (fun b => F a b) (fun b => (l.map fun a => F a b).sum) m
  simp only [List.map_cons, List.sum_cons]
  omega
theorem sum_anti (F : Int → Int → Int) (l : List Int) (h : ∀ a ∈ l, ∀ b ∈ l, F a b = - F b a) : (l.map fun a => (l.map fun b => F a b).sum).sum = 0 := by
 have h1 := sum_swap F l l
 have h2 : (l.map fun a => (l.map fun b => F a b).sum).sum = (l.map fun a => - (l.map fun b => F b a).sum).sum := by
  refine sum_same (fun a ha => ?_)
  have h4 := sum_neg (fun b => F b a) l
  have h5 := sum_same (f := fun b => F a b) (g := fun b => - F b a) (fun b hb => h a ha b hb)
  omega
 have h3 := sum_neg (fun b => (l.map fun a => F a b).sum) l
 omega
theorem sum_one (v p : Int) : ∀ S : List Int, S.Nodup → p ∈ S → (S.map fun b => if b = p then v else 0).sum = v
 | [], _, h => by cases h
 | c :: S, hn, h => by
  obtain ⟨h1, h2⟩ := List.nodup_cons.1 hn
  simp only [List.map_cons, List.sum_cons]
  by_cases hc : c = p
  · subst hc
    have h3 := sum_same (f := fun b => if b = c then v else 0) (g := fun _ => 0) (l := S) (fun b hb => if_neg (by rintro rfl; exact h1 hb))
    have h4 := sum_zero S
    rw [if_pos rfl]
    omega
  · have h3 := sum_one v p S h2 (by rcases List.mem_cons.1 h with h | h; (· exact absurd h.symm hc); exact h)
    rw [if_neg hc]
    omega
theorem sum_sel (f : Int → Int) (S : List Int) (hS : S.Nodup) : ∀ P : List Int, P.Nodup → (∀ p ∈ P, p ∈ S) → (P.map f).sum = (S.map fun b => if b ∈ P then f b else 0).sum
 | [], _, _ => by
  have h3 := sum_same (f := fun b => if b ∈ ([] : List Int) then f b else 0) (g := fun _ => 0) (l := S) (fun b hb => if_neg (by simp))
  have h4 := sum_zero S
  simp only [List.map_nil, List.sum_nil]
  omega
 | p :: P, hn, h => by
  obtain ⟨h1, h2⟩ := List.nodup_cons.1 hn
  have e2 := sum_sel f S hS P h2 (fun q hq => h q (List.mem_cons_of_mem _ hq))
  have e1 := sum_one (f p) p S hS (h p List.mem_cons_self)
  have e4 := sum_add (fun b => if b = p then f p else 0) (fun b => if b ∈ P then f b else 0) S
  have e3 : (S.map fun b => if b ∈ p :: P then f b else 0).sum = (S.map fun b => (if b = p then f p else 0) + (if b ∈ P then f b else 0)).sum := by
   refine sum_same (fun b hb => ?_)
   by_cases hb : b = p
   · subst hb
     rw [if_pos rfl, if_neg h1, if_pos List.mem_cons_self]
     omega
   · by_cases hP : b ∈ P
     · rw [if_neg hb, if_pos hP, if_pos (List.mem_cons_of_mem _ hP)]
       omega
     · rw [if_neg hb, if_neg hP, if_neg (by simp [hb, hP])]
       rfl
  rw [e3, e4, e1, List.map_cons, List.sum_cons, e2]
theorem outR_zero (a b : Int) : Rg.outR 0 0 0 a b = 0 := by
 unfold Rg.outR
 split <;> (try split) <;> rfl
theorem ltN_isL {nm : ByteArray} {x y : Ln} (hx : isL nm x = true) (h : ltN x.name y.name = true) : isL nm y = false := by
 cases hy : isL nm y with
 | false => rfl
 | true =>
  exfalso
  unfold isL at hx hy
  have e1 : x.name.toList = nm.toList := by simpa using hx
  have e2 : y.name.toList = nm.toList := by simpa using hy
  unfold ltN at h
  rw [e1, ← e2] at h
  have := ltN_irrefl y.name
  unfold ltN at this
  rw [this] at h
  cases h
theorem lines_out (id p : Int) (nm : ByteArray) : ∀ (ls : List Ln), ls.Pairwise (fun a b => ltN a.name b.name = true) →
    (((ls.filter (isL nm)).map fun l => (p, Rg.outR l.ver l.wr l.flow id p)).map Prod.snd).sum = Rg.outR (getLn ls nm).ver (getLn ls nm).wr (getLn ls nm).flow id p
 | [], _ => by rw [show getLn [] nm = Ln0 from rfl]; exact (outR_zero id p).symm
 | x :: ls, h => by
  obtain ⟨h1, h2⟩ := List.pairwise_cons.1 h
  cases hx : isL nm x with
  | true =>
   have e : ls.filter (isL nm) = [] := List.filter_eq_nil_iff.2 (fun y hy => by rw [ltN_isL hx (h1 y hy)]; decide)
   have e2 : getLn (x :: ls) nm = x := by unfold getLn; rw [List.find?_cons_of_pos hx]; rfl
   rw [List.filter_cons_of_pos hx, e, e2]
   simp
  | false =>
   have e2 : getLn (x :: ls) nm = getLn ls nm := by unfold getLn; rw [List.find?_cons_of_neg (by rw [hx]; decide)]
   rw [List.filter_cons_of_neg (by rw [hx]; decide), e2]
   exact lines_out id p nm ls h2
theorem outs_sum (id : Int) (nm : ByteArray) : ∀ (hs : List Hf), (∀ h ∈ hs, h.lines.Pairwise (fun a b => ltN a.name b.name = true)) →
    sumO (outsN id hs nm) = (hs.map fun h => Rg.outR (getLn h.lines nm).ver (getLn h.lines nm).wr (getLn h.lines nm).flow id h.peer).sum
 | [], _ => rfl
 | h :: hs, hp => by
  have ih := outs_sum id nm hs (fun x hx => hp x (List.mem_cons_of_mem _ hx))
  have h1 := lines_out id h.peer nm h.lines (hp h List.mem_cons_self)
  rw [List.map_cons, List.sum_cons, ← h1, ← ih]
  unfold sumO outsN
  rw [List.flatMap_cons, List.map_append, List.sum_append]
def regO (u : Nd) (nm : ByteArray) (p : Int) : Int := Rg.outR (regN u p nm).ver (regN u p nm).wr (regN u p nm).flow u.id p
theorem outs_peers {u : Nd} {i : Nat} (fu : FitNd i u) (nm : ByteArray) : sumO (outsN u.id u.halves nm) = ((u.halves.map Hf.peer).map (regO u nm)).sum := by
 rw [outs_sum u.id nm u.halves (fun h hh => (fu.hs.2 h hh).2.2.1), List.map_map]
 congr 1
 refine List.map_congr_left (fun h hh => ?_)
 obtain ⟨k, hk, e⟩ := List.getElem_of_mem hh
 have hg := getH_hit fu.hs.1 (List.getElem?_eq_getElem hk)
 rw [e] at hg
 show _ = regO u nm h.peer
 unfold regO regN
 rw [hg]
 rfl
theorem peers_nodup {u : Nd} {i : Nat} (fu : FitNd i u) : (u.halves.map Hf.peer).Nodup := by
 refine List.Pairwise.map Hf.peer (R := fun a b => a.peer < b.peer) ?_ fu.hs.1
 intro a b h e
 rw [e] at h
 omega
theorem outR_anti (v wr f a b : Int) : Rg.outR v wr f a b = - Rg.outR v wr f b a := by
 have e : Rg.fitB v wr f a b = Rg.fitB v wr f b a := by
  unfold Rg.fitB
  have h1 : decide (a = b) = decide (b = a) := by rw [decide_eq_decide]; exact eq_comm
  rw [h1, Bool.and_comm (Rg.nodeB a), Bool.or_comm (decide (wr = a))]
 unfold Rg.outR
 rw [← e]
 by_cases h : Rg.fitB v wr f a b = true
 · have hne : a ≠ b := by
     rintro rfl
     unfold Rg.fitB at h
     simp at h
   rw [if_pos h, if_pos h]
   by_cases hl : a < b
   · rw [if_pos hl, if_neg (by omega)]; omega
   · rw [if_neg hl, if_pos (by omega)]
 · rw [if_neg h, if_neg h]; rfl
def takeF (x : Wd) (nm : ByteArray) (a b : Int) : Int := match upN x a with
 | none => 0
 | some u => if b ∈ u.halves.map Hf.peer then regO u nm b else 0
theorem upN_id {x : Wd} (fw : FitW x) {a : Int} {u : Nd} (h : upN x a = some u) : u.id = a ∧ ∃ i : Nat, FitNd i u := by
 obtain ⟨k, e, _, h2, _⟩ := upN_some h
 have := fw.nd k u h2
 exact ⟨by rw [this.id, e], k, this⟩
theorem agreed_peer {x : Wd} (fw : FitW x) {a b : Int} {nm : ByteArray} {u : Nd} (hu : upN x a = some u) (h : agreedB x a b nm = true) :
    ∃ v, upN x b = some v ∧ a ∈ v.halves.map Hf.peer ∧ b ∈ u.halves.map Hf.peer ∧ regO u nm b = - regO v nm a := by
 unfold agreedB at h
 rw [hu] at h
 cases hv : upN x b with
 | none => rw [hv] at h; cases h
 | some v =>
  rw [hv] at h
  simp only [Bool.and_eq_true] at h
  obtain ⟨h1, _, h3⟩ := h
  unfold heldB at h1
  rw [hu, hv] at h1
  simp only [Bool.and_eq_true] at h1
  obtain ⟨_, h4, h5⟩ := h1
  obtain ⟨eu, _⟩ := upN_id fw hu
  obtain ⟨ev, _⟩ := upN_id fw hv
  have hm : ∀ {y z : Nd}, namesB y z = true → z.id ∈ y.halves.map Hf.peer := by
   intro y z hn
   unfold namesB at hn
   cases hg : getH y.halves z.id with
   | none => rw [hg] at hn; cases hn
   | some g =>
    obtain ⟨g1, g2⟩ := getH_mem hg
    exact List.mem_map.2 ⟨g, g1, g2⟩
  have m1 := hm h4
  have m2 := hm h5
  rw [eu] at m2
  rw [ev] at m1
  refine ⟨v, rfl, m2, m1, ?_⟩
  unfold regEq at h3
  simp only [Bool.and_eq_true, decide_eq_true_eq] at h3
  rw [eu, ev] at h3
  obtain ⟨r1, r2, r3⟩ := h3
  unfold regO
  rw [eu, ev, r1, r2, r3]
  exact outR_anti ..
theorem closed_nodup {x : Wd} {set : List Int} {nm : ByteArray} (h : closedB x set nm = true) : set.Nodup := by
 refine List.pairwise_iff_getElem.2 (fun i j hi hj hij e => ?_)
 unfold closedB at h
 rw [List.all_eq_true] at h
 have hc := h j (List.mem_range.2 hj)
 rw [closeB_at (List.getElem?_eq_getElem hj)] at hc
 simp only [Bool.and_eq_true, Bool.not_eq_true'] at hc
 have h1 := hc.1
 have hm : set[j] ∈ set.take j := by
  rw [← e]
  exact List.mem_of_getElem? (i := i) (by rw [List.getElem?_take_of_lt hij]; exact List.getElem?_eq_getElem hi)
 rw [List.contains_iff_mem.2 hm] at h1
 cases h1
theorem closed_mem {x : Wd} {set : List Int} {nm : ByteArray} (h : closedB x set nm = true) {a : Int} (ha : a ∈ set) : bothB x (set.headD 0) a nm = true ∧ ∀ g ∈ ((upN x a).getD Nd0).halves, g.peer ∈ set ∧ agreedB x a g.peer nm = true := by
 obtain ⟨j, hj, rfl⟩ := List.getElem_of_mem ha
 unfold closedB at h
 rw [List.all_eq_true] at h
 have hc := h j (List.mem_range.2 hj)
 rw [closeB_at (List.getElem?_eq_getElem hj)] at hc
 simp only [Bool.and_eq_true] at hc
 refine ⟨hc.2.1, fun g hg => ?_⟩
 have h2 := List.all_eq_true.1 hc.2.2 g hg
 simp only [Bool.and_eq_true] at h2
 exact ⟨List.contains_iff_mem.1 h2.1, h2.2⟩
theorem closed_up {x : Wd} {set : List Int} {nm : ByteArray} (h : closedB x set nm = true) {a : Int} (ha : a ∈ set) : ∃ u s, upN x a = some u ∧ findS u.chans nm = some s ∧ flowsK s.ch.kd = true := by
 have h1 := (closed_mem h ha).1
 unfold bothB at h1
 cases hc : instS x (set.headD 0) nm with
 | none => rw [hc] at h1; cases h1
 | some c =>
  cases hd : instS x a nm with
  | none => rw [hc, hd] at h1; cases h1
  | some d =>
   rw [hc, hd] at h1
   unfold sameC at h1
   simp only [Bool.and_eq_true] at h1
   unfold instS at hd
   cases hu : upN x a with
   | none => rw [hu] at hd; cases hd
   | some u => rw [hu] at hd; exact ⟨u, d, rfl, hd, h1.2.2.2⟩
theorem closed_takes {x : Wd} (fw : FitW x) {set : List Int} {nm : ByteArray} (h : closedB x set nm = true) :
    (set.map fun a => sumO (outsN ((upN x a).getD Nd0).id ((upN x a).getD Nd0).halves nm)).sum = 0 := by
 have hn := closed_nodup h
 have h0 := sum_anti (takeF x nm) set (fun a ha b hb => by
  obtain ⟨u, _, hu, _⟩ := closed_up h ha
  obtain ⟨v, _, hv, _⟩ := closed_up h hb
  obtain ⟨eu, _⟩ := upN_id fw hu
  obtain ⟨ev, _⟩ := upN_id fw hv
  have hU := (closed_mem h ha).2
  have hV := (closed_mem h hb).2
  rw [hu] at hU
  rw [hv] at hV
  simp only [Option.getD_some] at hU hV
  unfold takeF
  rw [hu, hv]
  simp only []
  by_cases hb2 : b ∈ u.halves.map Hf.peer
  · obtain ⟨g, hg, e⟩ := List.mem_map.1 hb2
    obtain ⟨v2, hv2, m1, _, hr⟩ := agreed_peer fw hu (by have := (hU g hg).2; rw [e] at this; exact this)
    obtain rfl := Option.some.inj (hv.symm.trans hv2)
    rw [if_pos hb2, if_pos m1, hr]
  · have hna : a ∉ v.halves.map Hf.peer := by
      intro hm
      obtain ⟨g, hg, e⟩ := List.mem_map.1 hm
      obtain ⟨u2, hu2, m1, _, hr⟩ := agreed_peer fw hv (by have := (hV g hg).2; rw [e] at this; exact this)
      obtain rfl := Option.some.inj (hu.symm.trans hu2)
      exact hb2 m1
    rw [if_neg hb2, if_neg hna]; rfl)
 rw [← h0]
 refine sum_same (fun a ha => ?_)
 obtain ⟨u, _, hu, _⟩ := closed_up h ha
 obtain ⟨_, i, fu⟩ := upN_id fw hu
 have hU := (closed_mem h ha).2
 rw [hu] at hU
 simp only [Option.getD_some] at hU
 rw [hu]
 simp only [Option.getD_some]
 rw [outs_peers fu nm, sum_sel (regO u nm) set hn _ (peers_nodup fu) (fun p hp => by obtain ⟨g, hg, e⟩ := List.mem_map.1 hp; rw [← e]; exact (hU g hg).1)]
 refine sum_same (fun b hb => ?_)
 unfold takeF
 rw [hu]
theorem wrap64_add (a b : Int) : wrap64 (wrap64 a + b) = wrap64 (a + b) := by unfold wrap64; omega
theorem sums_all {x : Wd} {nm : ByteArray} : ∀ (l : List Int) (X Y : Int), (∀ a ∈ l, (sumErr x nm a).2.2 = 0 ∨ (sumErr x nm a).2.2 = 10) →
    (sumsB x nm l (wrap64 X) (wrap64 Y)).2.2 = 10 ∨ ((sumsB x nm l (wrap64 X) (wrap64 Y)) = (wrap64 (X + (l.map fun a => (sumErr x nm a).1).sum), wrap64 (Y + (l.map fun a => (sumErr x nm a).2.1).sum), 0) ∧ ∀ a ∈ l, (sumErr x nm a).2.2 = 0)
 | [], X, Y, _ => .inr ⟨by simp [sumsB], fun a h => by cases h⟩
 | a :: l, X, Y, h => by
  rcases h a List.mem_cons_self with e | e
  · have ih := sums_all l (X + (sumErr x nm a).1) (Y + (sumErr x nm a).2.1) (fun b hb => h b (List.mem_cons_of_mem _ hb))
    have e2 : sumsB x nm (a :: l) (wrap64 X) (wrap64 Y) = sumsB x nm l (wrap64 (X + (sumErr x nm a).1)) (wrap64 (Y + (sumErr x nm a).2.1)) := by
     show (if _ then _ else _) = _
     rw [if_pos e, wrap64_add, wrap64_add]
    rw [e2]
    rcases ih with ih | ⟨ih, ih2⟩
    · exact .inl ih
    · refine .inr ⟨?_, fun b hb => ?_⟩
      · rw [ih, List.map_cons, List.sum_cons, List.map_cons, List.sum_cons, Int.add_assoc, Int.add_assoc]
      · rcases List.mem_cons.1 hb with rfl | hb
        · exact e
        · exact ih2 b hb
  · left
    show ((if _ then _ else _ : Int × Int × Int)).2.2 = 10
    rw [if_neg (by rw [e]; decide)]
    exact e
theorem closed_sums {x : Wd} (fw : FitW x) {set : List Int} {nm : ByteArray} (h : closedB x set nm = true) :
    (sumsB x nm set 0 0).2.2 = 10 ∨ ((sumsB x nm set 0 0).2.2 = 0 ∧ (sumsB x nm set 0 0).1 = (sumsB x nm set 0 0).2.1) := by
 have hE : ∀ a ∈ set, ∃ u s, upN x a = some u ∧ sumErr x nm a = ((estN u s nm).1, s.inp, (estN u s nm).2) := by
  intro a ha
  obtain ⟨u, s, hu, hs, hf⟩ := closed_up h ha
  obtain ⟨k, e, hk, _⟩ := upN_some hu
  refine ⟨u, s, hu, ?_⟩
  unfold sumErr
  rw [if_neg (by omega), hu]
  simp only []
  rw [hs]
  simp only []
  rw [if_pos hf]
 have hT : ∀ v : Int, (tellN v).2 = 0 ∧ (tellN v).1 = v ∨ (tellN v).2 = 10 := by
  intro v
  unfold tellN
  split
  · exact .inl ⟨rfl, rfl⟩
  · exact .inr rfl
 have h1 := sums_all (x := x) (nm := nm) set 0 0 (fun a ha => by
  obtain ⟨u, s, _, e⟩ := hE a ha
  rw [e]
  rcases hT (s.inp - sumO (outsN u.id u.halves nm)) with h2 | h2
  · exact .inl h2.1
  · exact .inr h2)
 rw [show wrap64 0 = 0 by unfold wrap64; omega] at h1
 rcases h1 with h1 | ⟨h1, h2⟩
 · exact .inl h1
 · right
   have h3 := closed_takes fw h
   have h4 : (set.map fun a => (sumErr x nm a).2.1).sum = (set.map fun a => (sumErr x nm a).1 + sumO (outsN ((upN x a).getD Nd0).id ((upN x a).getD Nd0).halves nm)).sum := by
    refine sum_same (fun a ha => ?_)
    obtain ⟨u, s, hu, e⟩ := hE a ha
    have h5 := h2 a ha
    rw [e] at h5 ⊢
    rw [hu]
    simp only [Option.getD_some]
    rcases hT (s.inp - sumO (outsN u.id u.halves nm)) with h6 | h6
    · have h7 : (estN u s nm).1 = s.inp - sumO (outsN u.id u.halves nm) := h6.2
      rw [h7]
      omega
    · have h7 : (estN u s nm).2 = 10 := h6
      rw [h7] at h5
      cases h5
   have h5 := sum_add (fun a => (sumErr x nm a).1) (fun a => sumO (outsN ((upN x a).getD Nd0).id ((upN x a).getD Nd0).halves nm)) set
   rw [h1]
   refine ⟨rfl, ?_⟩
   show wrap64 _ = wrap64 _
   congr 1
   omega
end Go.Proofs.YtkfodkbgmpbmfaaGreat
namespace Go.Proofs.YtkfodkbgmpbmfaaGreat
open Go.RowKit Go.Shelf
set_option linter.unusedVariables false
set_option linter.unusedSimpArgs false
set_option maxRecDepth 100000
set_option maxHeartbeats 8000000 in
theorem whole_any (x : Wd) (nm : ByteArray) (A : Option Addr) (n c : Nat) (set : List Int) (w : World) (hx : WdOk w x) (hs : RowsE encI 1 w w.heap.size A n set) (hnc : n ≤ c) (hm : n ≤ 70368744177664) :
    Calls Tryz.prog 28 #[WdV x, .slice A n c, .string nm] w fun e w' => e = .returned (.bool true) ∧ Below w.heap.size w w' := by
 have CC := Lib.hid (fun W (hb : Below w.heap.size w W) => vclosed_any x nm A n c set W (hx.below hb) ((hs.below hb).more hb.size) hnc hm)
 have cs := (fun W (hb : Below w.heap.size w W) => vsums_any x nm A n c set W (hx.below hb) ((hs.below hb).more hb.size) hm)
 have hz := fun h => closed_sums hx.fit (set := set) (nm := nm) h
 generalize closedB x set nm = cl at CC hz
 generalize sumsB x nm set 0 0 = q at cs hz
 obtain ⟨q1, q2, q3⟩ := q
 have CS := Lib.hid cs
 simp only [] at hz
 have HZ := Lib.hid hz
 clear cs hx hs hnc hm hz
 obtain ⟨na, nn, nc, ua, un, uc, da, dn, dc, nx, la, ll, lc, sa, sl, sc, lost, nds, ups⟩ := x
 go_enter Tryz.func28, Tryz.ntmps28
 go_wp2_with (fail)
 refine (CC.out _ Qb).mono ?_; rintro e w1 ⟨rfl, hb1⟩
 have hk1 : KeptC w [(⟨w.heap.size, 0, none⟩, .slice na nn nc), (⟨w.heap.size, 1, none⟩, .slice ua un uc), (⟨w.heap.size, 2, none⟩, .slice da dn dc), (⟨w.heap.size, 3, none⟩, .int .i64 nx), (⟨w.heap.size, 4, none⟩, .slice la ll lc), (⟨w.heap.size, 5, none⟩, .slice sa sl sc), (⟨w.heap.size, 6, none⟩, .int .i64 lost)] [] w1 := by
  refine KeptC.below ?_ hb1
  exact Qk
 simp only [KeptC, List.forall_mem_cons] at hk1; obtain ⟨kb1, ⟨kc1_0, kc1_1, kc1_2, kc1_3, kc1_4, kc1_5, kc1_6, _⟩, _⟩ := hk1
 have hz1 : w.heap.size < w1.heap.size := cell_lt kc1_0
 clear hb1 CC
 cases cl with
 | false =>
  go_wp2
  go_ret
  exact ⟨rfl, kb1⟩
 | true =>
  have hz2 := HZ.out rfl
  clear HZ
  go_wp2_with (fail)
  refine (CS.out _ (Qb1 kb1)).mono ?_; rintro e w2 ⟨rfl, hb2⟩
  have hs2 := hb2.size
  rcases hz2 with h1 | ⟨h1, h2⟩
  · subst h1
    go_wp2
    go_ret
    exact ⟨rfl, (Qb2 hb2 kb1)⟩
  · subst h1 h2
    go_wp2
    go_ret
    exact ⟨rfl, (Qb2 hb2 kb1)⟩
end Go.Proofs.YtkfodkbgmpbmfaaGreat
namespace Go.Proofs.YtkfodkbgmpbmfaaGreat
open Go.ChangeShapes Go.WideShapes Go.ChangeAt Go.RowKit Go.Shelf Go.Deep Go.Joins Go.ChangeMaps
set_option linter.unusedVariables false
set_option linter.unusedSimpArgs false
set_option maxRecDepth 100000
set_option maxHeartbeats 16000000 in
theorem viewConserves_any (x : Wd) (dks : List Sl) (dgs : List Bg.Dg) (svs : List Bg.LK) (A : Option Addr) (n c : Nat) (set : List Int) (nm : ByteArray) (w : World) (hx : WdAll w x dks dgs svs) (hs : RowsE encI 1 w w.heap.size A n set) (hnc : n ≤ c) (hm70 : n ≤ 70368744177664) :
    Calls Tryz.prog 5 #[WdV x, .slice A n c, .string nm] w fun e w' => e = .returned (.bool true) ∧ Below w.heap.size w w' := by
 have CF := Lib.hid (fun W (hb : Below w.heap.size w W) => wdfit_any x dks dgs svs W (hx.below hb))
 have HOK := Lib.hid (fun (h : FitW x) => (⟨hx.cells, h⟩ : WdOk w x))
 have HSS := Lib.hid hs
 clear hx hs
 go_enter Tryz.func5, Tryz.ntmps5
 go_wp2_with (fail)
 refine (CF.out _ Qb).mono ?_; rintro e w1 ⟨bo, rfl, hF, hb1⟩
 have hk1 : KeptC w [(⟨w.heap.size, 0, none⟩, .slice x.na x.nn x.nc), (⟨w.heap.size, 1, none⟩, .slice x.ua x.un x.uc), (⟨w.heap.size, 2, none⟩, .slice x.da x.dn x.dc), (⟨w.heap.size, 3, none⟩, .int .i64 x.nx), (⟨w.heap.size, 4, none⟩, .slice x.la x.ll x.lc), (⟨w.heap.size, 5, none⟩, .slice x.sa x.sl x.sc), (⟨w.heap.size, 6, none⟩, .int .i64 x.lost)] [] w1 := by
  refine KeptC.below ?_ hb1
  exact Qk
 simp only [KeptC, List.forall_mem_cons] at hk1; obtain ⟨kb1, ⟨kc1_0, kc1_1, kc1_2, kc1_3, kc1_4, kc1_5, kc1_6, _⟩, _⟩ := hk1
 have hz1 : w.heap.size < w1.heap.size := cell_lt kc1_0
 clear hb1 CF
 cases bo with
 | false =>
  clear HOK hF
  go_wp2_with (fail)
  refine (awake_any _).mono ?_; rintro e w2 ⟨rfl, hb2⟩
  go_wp2
  go_ret
  exact ⟨rfl, (Qb2 hb2 kb1)⟩
 | true =>
  have hok := HOK.out (hF rfl)
  clear HOK hF
  have CW := Lib.hid (fun W (hb : Below w.heap.size w W) => whole_any x nm A n c set W (hok.below hb) ((HSS.out.below hb).more hb.size) hnc hm70)
  have CG := Lib.hid (fun W (hb : Below w.heap.size w W) => vgroups_any x W (hok.below hb))
  have CV := Lib.hid (fun (A : Option Addr) (n c : Nat) (set : List Int) W (hb : Below w.heap.size w W) (hs : RowsE encI 1 W W.heap.size A n set) (hnc : n ≤ c) (hm70 : n ≤ 70368744177664) => whole_any x nm A n c set W (hok.below hb) hs hnc hm70)
  have HGL : Hid (∀ m ∈ groupsB x, m.length ≤ 1000) := Lib.hid (fun m hm => by
   obtain ⟨a, _, _, e⟩ := grps_of x.nds.length (heldN x) (upB x) x.nds.length (Nat.le_refl _) m hm
   have h1 := grp_len x.nds.length (heldN x) a
   have h2 := hok.fit.n1
   rw [e]; omega)
  have HGN : Hid ((groupsB x).length ≤ 1000) := Lib.hid (by have h1 := grps_len x.nds.length (heldN x) (upB x) x.nds.length; have h2 := hok.fit.n1; unfold groupsB; omega)
  generalize groupsB x = LG at CG HGL HGN
  clear hok HSS hnc hm70
  obtain ⟨na, nn, nc, ua, un, uc, da, dn, dc, nx, la, ll, lc, sa, sl, sc, lost, nds, ups⟩ := x
  simp only [] at kc1_0 kc1_1 kc1_2 kc1_3 kc1_4 kc1_5 kc1_6
  go_wp2_with (fail)
  refine (CW.out _ (Qb1 kb1)).mono ?_; rintro e w2 ⟨rfl, hb2⟩
  have hk2 : KeptC w [(⟨w.heap.size, 0, none⟩, .slice na nn nc), (⟨w.heap.size, 1, none⟩, .slice ua un uc), (⟨w.heap.size, 2, none⟩, .slice da dn dc), (⟨w.heap.size, 3, none⟩, .int .i64 nx), (⟨w.heap.size, 4, none⟩, .slice la ll lc), (⟨w.heap.size, 5, none⟩, .slice sa sl sc), (⟨w.heap.size, 6, none⟩, .int .i64 lost)] [] w2 := by
   refine KeptC.below ?_ hb2
   exact Qk1 kb1
  simp only [KeptC, List.forall_mem_cons] at hk2; obtain ⟨kb2, ⟨kc2_0, kc2_1, kc2_2, kc2_3, kc2_4, kc2_5, kc2_6, _⟩, _⟩ := hk2
  have hz2 : w.heap.size < w2.heap.size := cell_lt kc2_0
  clear hb2 CW kb1 hz1 kc1_0 kc1_1 kc1_2 kc1_3 kc1_4 kc1_5 kc1_6
  go_wp2_with (fail)
  refine (CG.out _ (Qb1 kb2)).mono ?_; rintro e w3 ⟨GA, GN, GC, gs, rfl, hm, hg, hb3⟩
  have hk3 : KeptC w [(⟨w.heap.size, 0, none⟩, .slice na nn nc), (⟨w.heap.size, 1, none⟩, .slice ua un uc), (⟨w.heap.size, 2, none⟩, .slice da dn dc), (⟨w.heap.size, 3, none⟩, .int .i64 nx), (⟨w.heap.size, 4, none⟩, .slice la ll lc), (⟨w.heap.size, 5, none⟩, .slice sa sl sc), (⟨w.heap.size, 6, none⟩, .int .i64 lost)] [] w3 := by
   refine KeptC.below ?_ hb3
   exact Qk1 kb2
  simp only [KeptC, List.forall_mem_cons] at hk3; obtain ⟨kb3, ⟨kc3_0, kc3_1, kc3_2, kc3_3, kc3_4, kc3_5, kc3_6, _⟩, _⟩ := hk3
  have hz3 : w.heap.size < w3.heap.size := cell_lt kc3_0
  have HG := Lib.hid hg
  have HGM : Hid (∀ g ∈ gs, g.n ≤ 1000) := Lib.hid (fun g hgg => by
   have h1 := HGL.out g.mem (by rw [← hm]; exact List.mem_map.2 ⟨g, hgg, rfl⟩)
   have h2 := (hg.2 g hgg).1.1
   rw [memI_len] at h2
   omega)
  have hGN : GN ≤ 1000 := by
   have h1 := HGN.out
   rw [← hm, List.length_map] at h1
   have h2 := hg.1.1
   omega
  have CX : Hid (∀ (g : Gr), g ∈ gs → ∀ W, Below w3.heap.size w3 W → Calls Tryz.prog 28 #[.agg #[.slice na nn nc, .slice ua un uc, .slice da dn dc, .int .i64 nx, .slice la ll lc, .slice sa sl sc, .int .i64 lost], .slice g.a g.n g.c, .string nm] W fun e w' => e = .returned (.bool true) ∧ Below W.heap.size W w') := Lib.hid (fun g hgg W hb =>
   CV.out g.a g.n g.c (memI g.mem) W (kb3.trans (hb.mono kb3.size)) (((hg.2 g hgg).1.below hb).more hb.size) (hg.2 g hgg).2 (by have := HGM.out g hgg; omega))
  have HKB := Lib.hid kb3
  clear hb3 CG CV kb2 hz2 hm hg HGL HGN kc2_0 kc2_1 kc2_2 kc2_3 kc2_4 kc2_5 kc2_6
  go_wp2
  go_loopw [8] (fun i w' => ∃ (k : Nat), k ≤ GN ∧ i = .int .i64 k ∧ KeptC w3 [(⟨w.heap.size, 0, none⟩, .slice na nn nc), (⟨w.heap.size, 1, none⟩, .slice ua un uc), (⟨w.heap.size, 2, none⟩, .slice da dn dc), (⟨w.heap.size, 3, none⟩, .int .i64 nx), (⟨w.heap.size, 4, none⟩, .slice la ll lc), (⟨w.heap.size, 5, none⟩, .slice sa sl sc), (⟨w.heap.size, 6, none⟩, .int .i64 lost)] [] w') (fun i _ => GN - (intOf i).toNat)
  case atStart => exact ⟨0, Nat.zero_le _, rfl, Qk⟩
  case round =>
   obtain ⟨k, hk, rfl, hK⟩ := hrel
   clear kb3 kc3_0 kc3_1 kc3_2 kc3_3 kc3_4 kc3_5 kc3_6
   simp only [KeptC, List.forall_mem_cons] at hK; obtain ⟨kb0, ⟨kc0_0, kc0_1, kc0_2, kc0_3, kc0_4, kc0_5, kc0_6, _⟩, _⟩ := hK
   have hs0 := kb0.size
   have hz0 : w.heap.size < wr.heap.size := cell_lt kc0_0
   by_cases hlt : k < GN
   rotate_left
   · obtain rfl : k = GN := by omega
     have HB : Hid (Below w.heap.size w wr) := Lib.hid (HKB.out.trans (kb0.mono HKB.out.size))
     go_wp2_with (fail)
     refine (awake_any _).mono ?_; rintro e w4 ⟨rfl, hb4⟩
     go_wp2
     (try rw [Exit.noGoto_ret])
     go_ret
     exact ⟨rfl, HB.out.trans (hb4.mono HB.out.size)⟩
   · obtain ⟨ad, g, rfl, hab, hx, g2⟩ := HG.out.1.at hlt
     have CY := Lib.hid (CX.out g (List.mem_of_getElem? hx))
     obtain ⟨P, hP⟩ : ∃ P, ad.add (k * 1) = P := ⟨_, rfl⟩
     rw [hP] at g2 hab
     rw [Nat.mul_one] at hP
     have e0 : wr.cell? P = some (.slice g.a g.n g.c) := (kb0.cell (p := P) hab).trans (by have := g2 0 _ rfl; rwa [Bg.add_z P] at this)
     have hPw : P.block < wr.heap.size := by omega
     have hwk : IntKind.i64.wrap ((k : Int) + 1) = (k : Int) + 1 := by rw [IntKind.wrap_i64]; omega
     clear g2 hx
     go_wp2_with (fail)
     refine wp_region_quietC_lit (KeptC w3 [(⟨w.heap.size, 0, none⟩, .slice na nn nc), (⟨w.heap.size, 1, none⟩, .slice ua un uc), (⟨w.heap.size, 2, none⟩, .slice da dn dc), (⟨w.heap.size, 3, none⟩, .int .i64 nx), (⟨w.heap.size, 4, none⟩, .slice la ll lc), (⟨w.heap.size, 5, none⟩, .slice sa sl sc), (⟨w.heap.size, 6, none⟩, .int .i64 lost), (P, .slice g.a g.n g.c)] []) (by kernel_rfl) (by kernel_rfl) ?_ ?_
     · refine KeptC.drewn ?_
       exact Qk1 kb0
     repeat (first
      | go_big_quiet_skip
      | (go_big_quiet_want; (apply quietC_run); (· intro w' hw'; (have hk' := hw'; simp only [KeptC, List.forall_mem_cons] at hk'; go_split_ands); go_simp; first | done | rfl); (simp only [Act.put, List.setIfInBounds_toArray, List.set_cons_zero, List.set_cons_succ]; go_big_quiet_on))
      | (go_big_quiet_want; (apply quietC_call); (· intro w' hw'; go_simp; first | done | exact ⟨rfl, rfl⟩ | rfl); (· intro w' hw'; first | ((with_reducible refine (CY.out _ hw'.lowV).mono ?_); rintro e w2 ⟨rfl, hb⟩; exact ⟨rfl, hw'.below hb⟩)); (simp only [Act.put, List.setIfInBounds_toArray, List.set_cons_zero, List.set_cons_succ]; go_big_quiet_on)))
     refine wpQuiet_nil ?_
     intro w9 hk9
     (have hk' := hk9; simp only [KeptC, List.forall_mem_cons] at hk'; go_split_ands); have hkB9 := hk9.1
     clear hk9 e0 kc0_0 kc0_1 kc0_2 kc0_3 kc0_4 kc0_5 kc0_6
     go_wp2
     go_roundw
     case rel => exact ⟨k + 1, by omega, by go_num, (Qk1 hkB9)⟩
     case measure => simp [intOf]; omega
theorem viewConserves_lifted (os : Os) (started : os.Started) (H : Type) (enc : TypeId × Value → H) :
    ReturnsInHanded {} Tryz.checked os 5 .any (Rows.viewConservesSpec.pre6 enc Tryz.prog Tryz.f5 Rows.viewConservesRow.domain false) (Rows.viewConservesSpec.post enc Tryz.prog Tryz.f5 false true false false) := by
 refine returnsInHanded_of_change_sized (C := Tryz.checked) own started (by kernel_rfl) Tryz.func5
  (ChangeSpec.witness6 (enc := enc) (C := Tryz.checked) false ⟨#[], #[.agg #[.slice none 0 0, .slice none 0 0, .slice none 0 0, .int .i64 0, .slice none 0 0, .slice none 0 0, .int .i64 0], .slice none 0 0, .string ⟨#[]⟩], []⟩ 8 (by kernel_rfl) (by kernel_rfl) (by kernel_rfl) (by kernel_rfl)) ?_
 intro W base args ds gs before hval hW _ hsz _
 have hW' := hW
 obtain ⟨p, q, hA, hV, rfl, hfz, hnd⟩ := hW
 obtain ⟨rfl, rfl⟩ := trodVars_none hV
 rw [Tryz.params5] at hA hval
 obtain ⟨v0, vs0, d0, ds0, p0, q0, hargs, rfl, rfl, h0, r0⟩ := trodAll_cons hA
 obtain ⟨v1, vs1, d1, ds1, p1, q1, rfl, rfl, rfl, h1, r1⟩ := trodAll_cons r0
 obtain ⟨v2, vs2, d2, ds2, p2, q2, rfl, rfl, rfl, h2, r2⟩ := trodAll_cons r1
 obtain ⟨rfl, rfl, rfl⟩ := trodAll_nil r2
 obtain rfl : args = #[v0, v1, v2] := by cases args; simp_all
 obtain ⟨x, dks, dgs, svs, rfl, hx⟩ := open_world hsz (j := 0) rfl rfl (hval 0 _ v0 rfl rfl) h0
 obtain ⟨A, n, c, set, rfl, hs, hnc, hm70⟩ := open_set hsz (j := 1) rfl rfl (hval 1 _ v1 rfl rfl) h1
 obtain ⟨nm, rfl, _, _, wx⟩ := open_string Tryz.underlying9 (hval 2 _ v2 rfl rfl) h2
 refine (viewConserves_any x dks dgs svs A n c set nm W hx hs hnc hm70).mono fun e W' ⟨he, hg⟩ => ?_
 subst he
 exact ⟨_, rfl, law_post laidOut rfl (by kernel_rfl) rfl Tryz.underlying4 rfl hW' hg⟩

theorem viewConserves_holds : Rows.ViewConservesSaid :=
 OpenClaim.holds_of_wide 5 Tryz.f5 rfl rfl rfl rfl rfl rfl rfl ⟨rfl, rfl, rfl, rfl, rfl⟩ rfl rfl rfl rfl rfl (by kernel_rfl) Tryz.func5 (by kernel_rfl)
  (of_decide_eq_true (by kernel_rfl)) (by unfold Func.isWrapper; first | (rw [if_pos (by decide +kernel)]; kernel_rfl) | (rw [if_neg (by decide +kernel)]; exact ⟨rfl, rfl⟩))
  (fun os started H enc _ => viewConserves_lifted os started H enc)

end Go.Proofs.YtkfodkbgmpbmfaaGreat
