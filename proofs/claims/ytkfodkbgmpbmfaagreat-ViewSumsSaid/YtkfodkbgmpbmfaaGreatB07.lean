/- Chapter 22, parts on the way: BgL BgA BgB BgE BgT RfA BgW RfE RfD BgN FtL -/
import Derived.Maps.Own
import Derived.Maps.OwnOps
import Derived.Maps.OwnSet
import Derived.Maps.Views
import Derived.Maps.RangeWalk
import Derived.DeepKeys4
import Derived.OpenShut
import Derived.Lib.Hide
import Derived.Maps.AppendAt
import Derived.Maps.OwnIn
import Derived.WalkKit
import Derived.WalkSpells
import Derived.WalkLawsBesides
import Derived.Deep.OwnRows
import Derived.Deep.RegionLaw
import Derived.Laws.IdiomCopy
import Derived.Deep.Cut
import Derived.Deep.CutRange
import Derived.Deep.DeepAppendWide
import Derived.Test.YtkfodkbgmpbmfaaGreatB01
import Derived.Test.YtkfodkbgmpbmfaaGreatB02
import Derived.Test.YtkfodkbgmpbmfaaGreatB03
import Derived.Test.YtkfodkbgmpbmfaaGreatB05
set_option linter.unusedVariables false
set_option linter.unusedSimpArgs false
namespace Go.Proofs.YtkfodkbgmpbmfaaGreat.Bg
open Go.RowKit
set_option linter.unusedVariables false
theorem add_z (p : Addr) : p.add 0 = p := by unfold Addr.add; split <;> simp_all
theorem add_next (a : Addr) (i : Nat) : a.add (i + 1) = ⟨a.block, a.off + (i + 1), none⟩ := by simp [Addr.add]
structure Dg where
 num : Int
 frm : Int
 dst : Int
 body : ByteArray
def Dg0 : Dg := ⟨0, 0, 0, ⟨#[]⟩⟩
def encD (d : Dg) : List Value := [.int .i64 d.num, .int .i64 d.frm, .int .i64 d.dst, .string d.body]
abbrev LK := Int × Int
def encL (x : LK) : List Value := [.int .i64 x.1, .int .i64 x.2]
theorem encD_len (d : Dg) : (encD d).length = 4 := rfl
theorem encL_len (d : LK) : (encL d).length = 2 := rfl
theorem encL_one (d : LK) : ∀ u ∈ encL d, u.oneCell' = true := by
 intro u hu
 simp only [encL, List.mem_cons, List.not_mem_nil, or_false] at hu
 rcases hu with rfl | rfl <;> rfl
abbrev lAgg (x : LK) : Value := .agg #[.int .i64 x.1, .int .i64 x.2]
def i64B (x : Int) : Prop := -9223372036854775808 ≤ x ∧ x < 9223372036854775808
def lnk (a b : Int) : LK := (min a b, max a b)
def ltL (x y : LK) : Bool := decide (x.1 < y.1) || (decide (x.1 = y.1) && decide (x.2 < y.2))
theorem ltL_irrefl (x : LK) : ltL x x = false := by unfold ltL; simp
theorem ltL_trans {x y z : LK} (h : ltL x y = true) (k : ltL y z = true) : ltL x z = true := by
 unfold ltL at *
 simp only [Bool.or_eq_true, Bool.and_eq_true, decide_eq_true_eq] at *
 omega
theorem ltL_total {x y : LK} (h : ltL x y = false) (k : ltL y x = false) : x = y := by
 unfold ltL at *
 simp only [Bool.or_eq_false_iff, Bool.and_eq_false_iff, decide_eq_false_iff_not] at *
 obtain ⟨a, b⟩ := x
 obtain ⟨c, d⟩ := y
 simp only [Prod.mk.injEq] at *
 omega
def RiseL (l : List LK) : Prop := l.Pairwise (fun x y => ltL x y = true)
theorem rise_ext : ∀ {l m : List LK}, RiseL l → RiseL m → (∀ x, x ∈ l ↔ x ∈ m) → l = m
 | [], [], _, _, _ => rfl
 | [], y :: m, _, _, h => absurd ((h y).2 (by simp)) (by simp)
 | x :: l, [], _, _, h => absurd ((h x).1 (by simp)) (by simp)
 | x :: l, y :: m, hl, hm, h => by
  obtain ⟨h1, h2⟩ := List.pairwise_cons.1 hl
  obtain ⟨k1, k2⟩ := List.pairwise_cons.1 hm
  have e : x = y := by
   rcases List.mem_cons.1 ((h x).1 (by simp)) with e | hx
   · exact e
   · rcases List.mem_cons.1 ((h y).2 (by simp)) with e | hy
     · exact e.symm
     · have a := k1 x hx
       have b := h1 y hy
       have := ltL_trans a b
       rw [ltL_irrefl] at this
       cases this
  subst e
  have hh : ∀ z, z ∈ l ↔ z ∈ m := fun z => by
   constructor
   · intro hz
     rcases List.mem_cons.1 ((h z).1 (List.mem_cons_of_mem _ hz)) with e | hm'
     · subst e
       have := h1 z hz
       rw [ltL_irrefl] at this
       cases this
     · exact hm'
   · intro hz
     rcases List.mem_cons.1 ((h z).2 (List.mem_cons_of_mem _ hz)) with e | hm'
     · subst e
       have := k1 z hz
       rw [ltL_irrefl] at this
       cases this
     · exact hm'
  rw [rise_ext h2 k2 hh]
structure BS where
 nx : Int
 ls : List Dg
 sv : List LK
def sevB (s : BS) (a b : Int) : Bool := s.sv.any (fun x => x == lnk a b)
def putS (s : BS) (a b : Int) (t : ByteArray) : BS × Int × Int :=
 if sevB s a b then (s, 0, 34) else if 65536 ≤ s.ls.length ∨ 4611686018427387904 ≤ s.nx then (s, 0, 30) else (⟨s.nx + 1, s.ls ++ [⟨s.nx + 1, a, b, t⟩], s.sv⟩, s.nx + 1, 0)
end Go.Proofs.YtkfodkbgmpbmfaaGreat.Bg
namespace Go.Proofs.YtkfodkbgmpbmfaaGreat.Bg
open Go.RowKit Go.Maps
set_option linter.unusedVariables false
set_option linter.unusedSimpArgs false
set_option maxRecDepth 100000
theorem bcell {W w1 : World} (hb : Below W.heap.size W w1) : (∀ b o, b < W.heap.size → w1.cell? ⟨b, o, none⟩ = W.cell? ⟨b, o, none⟩) ∧ (∀ b o, b < W.heap.size → w1.frozen? ⟨b, o, none⟩ = W.frozen? ⟨b, o, none⟩) :=
 ⟨fun b o h => hb.cell (p := ⟨b, o, none⟩) h, fun b o h => hb.frozen (p := ⟨b, o, none⟩) h⟩
/-! ### there, pair, New, Len -/
end Go.Proofs.YtkfodkbgmpbmfaaGreat.Bg
namespace Go.Proofs.YtkfodkbgmpbmfaaGreat.Bg
open Go.RowKit Go.Shelf
set_option linter.unusedVariables false
set_option linter.unusedSimpArgs false
set_option maxRecDepth 100000
attribute [local go_sem] Oper.semAt_some
theorem row_grown {W w1 : World} {base : Nat} {e : TypeId} {size : Nat} {v : Value} {n : Nat} {xs : List Value} (h : W.ownsRow base e size v n xs) (hg : W.grownBy w1 v.ownBlock) (hb : base ≤ W.heap.size) : Below base W w1 := by
 refine (Below.refl base W).grown hg hb fun j ej => ?_
 rcases h.2 with ⟨rfl, _⟩ | ⟨g, cap, cur, rfl, hb, _⟩
 · simp [Value.ownBlock] at ej
 · simp [Value.ownBlock] at ej
   omega
end Go.Proofs.YtkfodkbgmpbmfaaGreat.Bg
namespace Go.Proofs.YtkfodkbgmpbmfaaGreat.Bg
open Go.RowKit
set_option linter.unusedVariables false
set_option linter.unusedSimpArgs false
set_option maxRecDepth 100000
theorem bytesList_inj {a b : ByteArray} (h : a.toList = b.toList) : a = b := by
 rw [ByteArray.toList_eq, ByteArray.toList_eq] at h
 exact Go.WideShapes.bytes_inj h
end Go.Proofs.YtkfodkbgmpbmfaaGreat.Bg
namespace Go.Proofs.YtkfodkbgmpbmfaaGreat.Bg
open Go.RowKit Go.Shelf
set_option linter.unusedVariables false
set_option linter.unusedSimpArgs false
set_option maxRecDepth 100000
theorem _root_.Go.Proofs.YtkfodkbgmpbmfaaGreat.KeptC.low {w0 w' : World} {l : List (Addr × Value)} {F : List Addr} (h : KeptC w0 l F w') : Below w0.heap.size w0 w' := h.1
end Go.Proofs.YtkfodkbgmpbmfaaGreat.Bg
namespace Go.Proofs.YtkfodkbgmpbmfaaGreat.Bg
open Go.RowKit Go.Shelf
set_option linter.unusedVariables false
set_option linter.unusedSimpArgs false
set_option maxRecDepth 100000
/-! ### link, place, severed -/
def plc : Option Nat → Int
 | some i => i
 | none => -1
end Go.Proofs.YtkfodkbgmpbmfaaGreat.Bg
namespace Go.Proofs.YtkfodkbgmpbmfaaGreat.Bg
open Go.RowKit Go.Shelf
set_option linter.unusedVariables false
set_option linter.unusedSimpArgs false
set_option maxRecDepth 100000
theorem aw2 : putS ⟨1, [⟨1, 1, 2, ⟨#[97]⟩⟩], []⟩ 2 1 ⟨#[98]⟩ = (⟨2, [⟨1, 1, 2, ⟨#[97]⟩⟩, ⟨2, 2, 1, ⟨#[98]⟩⟩], []⟩, 2, 0) := by rfl
end Go.Proofs.YtkfodkbgmpbmfaaGreat.Bg
namespace Go.Proofs.YtkfodkbgmpbmfaaGreat.Bg
open Go.RowKit Go.Shelf
set_option linter.unusedVariables false
set_option linter.unusedSimpArgs false
set_option maxRecDepth 100000
theorem _root_.Go.Proofs.YtkfodkbgmpbmfaaGreat.RowsE.take {α : Type} {enc : α → List Value} {k : Nat} {w : World} {B n i : Nat} {A : Option Addr} {rs : List α} (h : RowsE enc k w B A n rs) (hi : i ≤ n) : RowsE enc k w B A i (rs.take i) :=
 ⟨by rw [List.length_take, h.1]; omega, fun h0 => by
  obtain ⟨ad, e, hB, hc⟩ := h.2 (by omega)
  refine ⟨ad, e, hB, fun j x hx => hc j x ?_⟩
  rw [List.getElem?_take] at hx
  split at hx
  · exact hx
  · cases hx⟩
end Go.Proofs.YtkfodkbgmpbmfaaGreat.Bg
namespace Go.Proofs.YtkfodkbgmpbmfaaGreat.Bg
open Go.RowKit Go.Shelf
set_option linter.unusedVariables false
set_option linter.unusedSimpArgs false
set_option maxRecDepth 100000
set_option maxHeartbeats 1000000 in
theorem less_any (x y : LK) (w : World) :
    Calls Tryz.prog 70 #[lAgg x, lAgg y] w fun e w' => e = .returned (.bool (ltL x y)) ∧ Below w.heap.size w w' := by
 obtain ⟨a, b⟩ := x
 obtain ⟨c, d⟩ := y
 unfold ltL
 simp only []
 cases h1 : decide (a < c) with
 | true =>
  have h1' : a < c := of_decide_eq_true h1
  simp only [Bool.true_or]
  go_enter Tryz.func70, Tryz.ntmps70
  go_wp2
  go_ret
  exact ⟨rfl, Qb⟩
 | false =>
  have h1' : ¬ a < c := of_decide_eq_false h1
  cases h2 : decide (a = c) with
  | false =>
   have h2' : ¬ a = c := of_decide_eq_false h2
   have h2b : (a == c) = false := by simpa using h2'
   simp only [Bool.false_or, Bool.false_and]
   go_enter Tryz.func70, Tryz.ntmps70
   go_wp2
   go_ret
   exact ⟨rfl, Qb⟩
  | true =>
   have h2' : a = c := of_decide_eq_true h2
   subst h2'
   simp only [Bool.false_or, Bool.true_and]
   cases h3 : decide (b < d) with
   | true =>
    have h3' : b < d := of_decide_eq_true h3
    go_enter Tryz.func70, Tryz.ntmps70
    go_wp2
    go_ret
    exact ⟨rfl, Qb⟩
   | false =>
    have h3' : ¬ b < d := of_decide_eq_false h3
    go_enter Tryz.func70, Tryz.ntmps70
    go_wp2
    go_ret
    exact ⟨rfl, Qb⟩
end Go.Proofs.YtkfodkbgmpbmfaaGreat.Bg
namespace Go.Proofs.YtkfodkbgmpbmfaaGreat.Bg
open Go.RowKit Go.Shelf
set_option linter.unusedVariables false
set_option linter.unusedSimpArgs false
set_option maxRecDepth 100000
attribute [local go_sem] Oper.semAt_some
abbrev mAgg (nx : Int) (lv sv : Value) : Value := .agg #[.int .i64 nx, lv, sv]
end Go.Proofs.YtkfodkbgmpbmfaaGreat.Bg
namespace Go.Proofs.YtkfodkbgmpbmfaaGreat.Bg
set_option linter.unusedVariables false
def okD (nx : Int) (ls : List Dg) (t : Nat) : Bool :=
 match ls[t]? with
 | none => true
 | some d => !decide (d.num < 1) && !decide (nx < d.num) && (match t with
  | 0 => true
  | u + 1 => match ls[u]? with
   | none => true
   | some e => !decide (d.num ≤ e.num))
def okK (sv : List LK) (t : Nat) : Bool :=
 match sv[t]? with
 | none => true
 | some x => !decide (x.2 ≤ x.1) && (match t with
  | 0 => true
  | u + 1 => match sv[u]? with
   | none => true
   | some y => ltL y x)
def fitB (s : BS) : Bool := !decide (s.nx < 0) && !decide (4611686018427387904 < s.nx) && !decide (65536 < s.ls.length) && (List.range s.ls.length).all (okD s.nx s.ls) && (List.range s.sv.length).all (okK s.sv)
theorem okD_zero {nx : Int} {ls : List Dg} {d : Dg} (h : ls[0]? = some d) : okD nx ls 0 = (!decide (d.num < 1) && !decide (nx < d.num)) := by unfold okD; rw [h]; simp
theorem okD_succ {nx : Int} {ls : List Dg} {d e : Dg} {u : Nat} (h : ls[u + 1]? = some d) (he : ls[u]? = some e) : okD nx ls (u + 1) = (!decide (d.num < 1) && !decide (nx < d.num) && !decide (d.num ≤ e.num)) := by unfold okD; rw [h]; simp only [he]
theorem okK_zero {sv : List LK} {x : LK} (h : sv[0]? = some x) : okK sv 0 = !decide (x.2 ≤ x.1) := by unfold okK; rw [h]; simp
theorem okK_succ {sv : List LK} {x y : LK} {u : Nat} (h : sv[u + 1]? = some x) (he : sv[u]? = some y) : okK sv (u + 1) = (!decide (x.2 ≤ x.1) && ltL y x) := by unfold okK; rw [h]; simp only [he]
theorem all_next {p : Nat → Bool} {k : Nat} (h : (List.range k).all p = true) (hk : p k = true) : (List.range (k + 1)).all p = true := by rw [List.range_succ, List.all_append, h]; simp [hk]
theorem all_stop {p : Nat → Bool} {k n : Nat} (hk : k < n) (h : p k = false) : (List.range n).all p = false := by
 rw [List.all_eq_false]
 exact ⟨k, List.mem_range.2 hk, by rw [h]; simp⟩
theorem fit_head {s : BS} (h : s.nx < 0 ∨ 4611686018427387904 < s.nx ∨ 65536 < s.ls.length) : fitB s = false := by
 unfold fitB
 rcases h with h | h | h <;> simp [h]
theorem fit_stopD {s : BS} {k : Nat} (hk : k < s.ls.length) (h : okD s.nx s.ls k = false) : fitB s = false := by unfold fitB; rw [all_stop hk h]; simp
theorem fit_stopK {s : BS} {k : Nat} (hk : k < s.sv.length) (h : okK s.sv k = false) : fitB s = false := by unfold fitB; rw [all_stop hk h]; simp
theorem fit_all {s : BS} (h0 : 0 ≤ s.nx) (h1 : s.nx ≤ 4611686018427387904) (h2 : s.ls.length ≤ 65536) (h3 : (List.range s.ls.length).all (okD s.nx s.ls) = true) (h4 : (List.range s.sv.length).all (okK s.sv) = true) : fitB s = true := by
 unfold fitB
 rw [h3, h4]
 simp only [Bool.and_true, Bool.and_eq_true, Bool.not_eq_true', decide_eq_false_iff_not]
 omega
end Go.Proofs.YtkfodkbgmpbmfaaGreat.Bg
