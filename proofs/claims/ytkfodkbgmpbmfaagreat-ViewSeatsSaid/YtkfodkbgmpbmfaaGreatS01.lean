/- Chapter 22, parts on the way: Quiet Reg Num NumQ NumS VwO VwX VwY Yc Yd -/
import Derived.WalkKit
import Derived.WalkSpells
import Derived.WalkLawsBesides
import Derived.Deep.QuietTactic
import Derived.BigQuiet
import Derived.Deep.RegionHeld
import Derived.StillTail
import Derived.Test.YtkfodkbgmpbmfaaGreatRows
import Derived.Lib.Hide
import Derived.Lib.Mul64
import Derived.Shelf.Spec.BitsCarry
import Derived.Laws.Bits64b
import Derived.Below
import Derived.Laws.OwnMore
import Derived.Deep.AppendLies
import Derived.Deep.Draws
import Derived.WalkMore
import Derived.Laws.Strings
import Derived.ChangeSame
import Derived.Deep.Slices
import Derived.Deep.Fields
import Derived.SizedLaws
import Derived.Lib.SmallJoins
import Derived.OpenShut
import Derived.RangeFuncNested
import Derived.RangeFuncBound
import Derived.RangeFuncCalls
import Derived.RangeFuncLeaves
import Derived.RangeFuncBox
import Derived.Shelf.Abstract
import Derived.Shelf.RegionOpen
import Derived.OwnWalkIn
import Derived.TacticsInMore
import Derived.LoopNIn
import Derived.LoopIn
import Derived.OrdersIn
import Derived.Maps.AppendAt
import Derived.RegionTactic
import Derived.OwnWalk
import Derived.Lib.SliceRun
import Derived.Deep.RegionHeld3
import Derived.Laws.EntriesVeiled
import Derived.Outline
import Derived.Laws.IdiomCopy
import Derived.RowKit
import Derived.Maps.OwnIn
import Derived.Maps.Own
import Derived.Maps.OwnOps
import Derived.Maps.OwnSet
import Derived.Maps.Views
import Derived.Maps.RangeWalk
import Derived.DeepKeys4
import Derived.Deep.OwnRows
import Derived.Deep.RegionLaw
import Derived.Deep.Cut
import Derived.Deep.CutRange
import Derived.Deep.DeepAppendWide
import Derived.BigRegion
import Derived.Shelf.SlSortCmp.WholeK
import Derived.Shelf.SlicesG.Cmp
import Derived.Test.YtkfodkbgmpbmfaaGreatProg
import Derived.Shelf.SlSortCmp.NoneTotal
import Derived.Laws.BytesString
import Derived.Deep.MidRow
import Derived.Laws.ResultCell
import Derived.Test.YtkfodkbgmpbmfaaGreatB01
import Derived.Test.YtkfodkbgmpbmfaaGreatB02
import Derived.Test.YtkfodkbgmpbmfaaGreatB03
import Derived.Test.YtkfodkbgmpbmfaaGreatB04
import Derived.Test.YtkfodkbgmpbmfaaGreatB05
import Derived.Test.YtkfodkbgmpbmfaaGreatB06
import Derived.Test.YtkfodkbgmpbmfaaGreatB07
import Derived.Test.YtkfodkbgmpbmfaaGreatB08
import Derived.Test.YtkfodkbgmpbmfaaGreatB09
import Derived.Test.YtkfodkbgmpbmfaaGreatB10
import Derived.Test.YtkfodkbgmpbmfaaGreatB11
import Derived.Test.YtkfodkbgmpbmfaaGreatB12
import Derived.Test.YtkfodkbgmpbmfaaGreatB13
import Derived.Test.YtkfodkbgmpbmfaaGreatB14
import Derived.Test.YtkfodkbgmpbmfaaGreatB15
import Derived.Test.YtkfodkbgmpbmfaaGreatB16
import Derived.Test.YtkfodkbgmpbmfaaGreatB17
import Derived.Test.YtkfodkbgmpbmfaaGreatB18
import Derived.Test.YtkfodkbgmpbmfaaGreatB19
import Derived.Test.YtkfodkbgmpbmfaaGreatB20
import Derived.Test.YtkfodkbgmpbmfaaGreatB21
import Derived.Test.YtkfodkbgmpbmfaaGreatB22
import Derived.Test.YtkfodkbgmpbmfaaGreatB23
import Derived.Test.YtkfodkbgmpbmfaaGreatB24
import Derived.Test.YtkfodkbgmpbmfaaGreatB25
import Derived.Test.YtkfodkbgmpbmfaaGreatB26
import Derived.Test.YtkfodkbgmpbmfaaGreatB27
import Derived.Test.YtkfodkbgmpbmfaaGreatB28
import Derived.Test.YtkfodkbgmpbmfaaGreatB29
import Derived.Test.YtkfodkbgmpbmfaaGreatB30
import Derived.Test.YtkfodkbgmpbmfaaGreatB31
import Derived.Test.YtkfodkbgmpbmfaaGreatB32
import Derived.Test.YtkfodkbgmpbmfaaGreatB33
import Derived.Test.YtkfodkbgmpbmfaaGreatB34
import Derived.Test.YtkfodkbgmpbmfaaGreatB35
import Derived.Test.YtkfodkbgmpbmfaaGreatB36
import Derived.Test.YtkfodkbgmpbmfaaGreatB37
import Derived.Test.YtkfodkbgmpbmfaaGreatB38
import Derived.Test.YtkfodkbgmpbmfaaGreatB39
import Derived.Test.YtkfodkbgmpbmfaaGreatB40
import Derived.Test.YtkfodkbgmpbmfaaGreatB41
import Derived.Test.YtkfodkbgmpbmfaaGreatB42
set_option linter.unusedVariables false
set_option linter.unusedSimpArgs false
namespace Go.Proofs.YtkfodkbgmpbmfaaGreat
section
variable {P : Program} {C : World → Prop} {a : Act} {o : Oper} {K : Act → Prop} {v : Value}
end

/-! ### Reads and calls in whatever order, then a tail (stores) in one forced order -/
section
variable {P : Program} {ops : Array Oper} {md : Region.Mode} {C : World → Prop}
theorem wpAny_of_headQ {n g : Nat} {L : Array Bool → Act → Prop} {Q' : Exit → Act → World → Prop} (hL : ∀ listed a w, C w → L listed a → wpAny P md ops Q' g listed a w) :
    ∀ (f : Nat) (listed : Array Bool) (a : Act) (w : World), C w → wpHeadQ P md ops C n L f listed a → wpAny P md ops Q' (f + g) listed a w
 | 0, listed, a, w, hw, h => by rw [Nat.zero_add]; exact hL _ _ _ hw h
 | f + 1, listed, a, w, hw, h => by
  rw [show f + 1 + g = (f + g) + 1 by omega]
  exact ⟨fun h0 => absurd h0 h.1, fun i hi => wpOp_of_qOp hw (fun a' w' hw' h' => wpAny_of_headQ hL f _ a' w' hw' h') (h.2 i hi).2⟩
theorem wp_region_quietC_tail {id : Nat} {Q : Exit → Act → World → Prop} {a : Act} {w : World} {l : List Oper} (C : World → Prop) (n : Nat) (hm : P.follows .mixedOrders = true) (hB : Region.lexTailB .any l.toArray n = true)
    (hC : C { w with drawn := w.drawn + 1 }) (h : wpQuiet P l.toArray C (fun a' => ∀ w', C w' → wpList P l.toArray Q (l.drop n) a' w') (l.take n) a) : (Code.region id l.toArray true).wp P Q a w := by
 simp only [Region.lexTailB, Bool.and_eq_true, decide_eq_true_eq] at hB
 obtain ⟨⟨⟨⟨hsel, hn⟩, hs⟩, hc⟩, hlex⟩ := hB
 have hn' : n < l.length := by simpa using hn
 have htl : (l.take n).length = n := by simp; omega
 have hdl : (l.drop n).length = l.toArray.size - n := by simp
 have inv0 : HeadInv .any l.toArray n (Array.replicate l.toArray.size false) :=
  ⟨by simp, fun j oj _ hl => (by rw [getD_replicate_false] at hl; cases hl), fun t _ ht => getD_in (by simpa using ht) (getD_replicate_false _ _)⟩
 have H := wpHeadQ_lex (md := .any) (g := l.toArray.size - n) hsel hs hc hn (l.take n) 0 _ a (fun j hj => by
  have hj' : j < n := by rw [htl] at hj; exact hj
  simp [hj']) (by simpa using htl) inv0 (by rw [htl]; exact hlex) h
 refine wp_region_any hm ?_
 have := wpAny_of_headQ (Q' := Q) (g := l.toArray.size - n) (fun listed a' w' hw' hL => by
  have := wpAny_of_seq (md := .any) (Q' := Q) (l.drop n) n listed a' w' (fun j => by simp [List.getElem?_drop]) (by rw [hdl]; exact hL.1) (hL.2 w' hw')
  rwa [hdl] at this) _ _ _ _ hC H
 rw [htl, show n + (l.toArray.size - n) = l.toArray.size by omega] at this
 exact this
end
open Go.RowKit
end Go.Proofs.YtkfodkbgmpbmfaaGreat
namespace Go.Proofs.YtkfodkbgmpbmfaaGreat.Rg
open Go.RowKit

set_option maxHeartbeats 1000000 in
theorem rout_any (v wr f a b : Int) (w : World) :
    Calls Tryz.prog 193 #[.agg #[.int .i64 v, .int .i64 wr, .int .i64 f], .int .i64 a, .int .i64 b] w fun e w' => e = .returned (.int .i64 (outR v wr f a b)) ∧ Below w.heap.size w w' := by
 by_cases h : fitB v wr f a b = true
 · obtain ⟨g1, g2, g3, g4⟩ := fitB_bd h
   by_cases h2 : a < b
   all_goals
    go_enter Tryz.func193, Tryz.ntmps193
    go_wp2_with (fail)
    refine (rfit_any _ _ _ _ _ _).mono ?_; rintro e w1 ⟨rfl, hb1⟩; obtain ⟨hc1, hf1⟩ := bcell hb1; have hz1 := hb1.size; (try simp at hz1)
    go_wp2
    go_ret
    exact ⟨by first | (simp [outR, h, h2]; done) | (simp [outR, h]; intros; omega), (Qb1 hb1)⟩
 · go_enter Tryz.func193, Tryz.ntmps193
   go_wp2_with (fail)
   refine (rfit_any _ _ _ _ _ _).mono ?_; rintro e w1 ⟨rfl, hb1⟩; obtain ⟨hc1, hf1⟩ := bcell hb1; have hz1 := hb1.size; (try simp at hz1)
   go_wp2
   go_ret
   exact ⟨by simp [outR, h], (Qb1 hb1)⟩
end Go.Proofs.YtkfodkbgmpbmfaaGreat.Rg
namespace Go.Proofs.YtkfodkbgmpbmfaaGreat.Rg
open Go.RowKit
theorem ret_u64 {a b : Int} (h : a = b) : Ending.returned (.int .u64 a) = .returned (.int .u64 b) := by rw [h]
def plusW (a b : W) : W × Bool := if okW a b then (addW a b, true) else (zeroW, false)
def lessW (a b : W) : Bool := decide (a.hi < b.hi) || decide (a.hi = b.hi) && decide (a.lo < b.lo)
set_option maxHeartbeats 1000000 in
theorem wrless_any (u1 v1 u2 v2 : Int) (w : World) :
    Calls Tryz.prog 177 #[.agg #[.int .u64 u1, .int .u64 v1], .agg #[.int .u64 u2, .int .u64 v2]] w fun e w' => e = .returned (.bool (lessW ⟨u1, v1⟩ ⟨u2, v2⟩)) ∧ Below w.heap.size w w' := by
 go_enter Tryz.func177, Tryz.ntmps177
 go_wp2
 all_goals go_ret
 all_goals exact ⟨by simp_all [lessW] <;> omega, Qb⟩
set_option maxHeartbeats 1000000 in
theorem wrsum_any (u1 v1 u2 v2 : Int) (w : World) (h1 : Word u1) (h2' : Word v1) (h3 : Word u2) (h4 : Word v2) :
    Calls Tryz.prog 103 #[.agg #[.int .u64 u1, .int .u64 v1], .agg #[.int .u64 u2, .int .u64 v2]] w fun e w' => e = .returned (.agg #[.int .u64 (addW ⟨u1, v1⟩ ⟨u2, v2⟩).hi, .int .u64 (addW ⟨u1, v1⟩ ⟨u2, v2⟩).lo]) ∧ Below w.heap.size w w' := by
 obtain ⟨a1, a2⟩ := h1; obtain ⟨b1, b2⟩ := h2'; obtain ⟨c1, c2⟩ := h3; obtain ⟨d1, d2⟩ := h4
 go_enter Tryz.func103, Tryz.ntmps103
 go_wp2
 all_goals refine bodyPost_ret (v := .agg #[.int .u64 (addW ⟨u1, v1⟩ ⟨u2, v2⟩).hi, .int .u64 (addW ⟨u1, v1⟩ ⟨u2, v2⟩).lo]) ?_ rfl ⟨rfl, Qb⟩
 all_goals simp only [IntKind.wrap_u64] at *
 all_goals simp [results, Tryz.results103, go_sem, addW, addH, IntKind.wrap_u64]
 all_goals omega
theorem less_sum {u1 v1 u2 v2 : Int} (h1 : Word u1) (h2' : Word v1) (h3 : Word u2) (h4 : Word v2) : lessW ⟨(addW ⟨u1, v1⟩ ⟨u2, v2⟩).hi, (addW ⟨u1, v1⟩ ⟨u2, v2⟩).lo⟩ ⟨u1, v1⟩ = !okW ⟨u1, v1⟩ ⟨u2, v2⟩ := by
 obtain ⟨a1, a2⟩ := h1; obtain ⟨b1, b2⟩ := h2'; obtain ⟨c1, c2⟩ := h3; obtain ⟨d1, d2⟩ := h4
 rw [Bool.eq_iff_iff]
 simp only [lessW, okW, Bool.or_eq_true, Bool.and_eq_true, decide_eq_true_eq, Bool.not_eq_true', decide_eq_false_iff_not]
 simp only [addW, addH]
 omega
set_option maxHeartbeats 1000000 in
theorem wrplus_any (u1 v1 u2 v2 : Int) (w : World) (h1 : Word u1) (h2' : Word v1) (h3 : Word u2) (h4 : Word v2) :
    Calls Tryz.prog 143 #[.agg #[.int .u64 u1, .int .u64 v1], .agg #[.int .u64 u2, .int .u64 v2]] w fun e w' => e = .returned (.tuple #[.agg #[.int .u64 ((plusW ⟨u1, v1⟩ ⟨u2, v2⟩).1).hi, .int .u64 ((plusW ⟨u1, v1⟩ ⟨u2, v2⟩).1).lo], .bool (plusW ⟨u1, v1⟩ ⟨u2, v2⟩).2]) ∧ Below w.heap.size w w' := by
 have c1 := fun w => wrsum_any u1 v1 u2 v2 w h1 h2' h3 h4
 have c2 := wrless_any (addW ⟨u1, v1⟩ ⟨u2, v2⟩).hi (addW ⟨u1, v1⟩ ⟨u2, v2⟩).lo u1 v1
 have hk : lessW ⟨(addW ⟨u1, v1⟩ ⟨u2, v2⟩).hi, (addW ⟨u1, v1⟩ ⟨u2, v2⟩).lo⟩ ⟨u1, v1⟩ = !okW ⟨u1, v1⟩ ⟨u2, v2⟩ := less_sum h1 h2' h3 h4
 rw [hk] at c2
 clear hk
 unfold plusW
 generalize addW ⟨u1, v1⟩ ⟨u2, v2⟩ = s at c1 c2
 obtain ⟨x, y⟩ := s
 cases hk : okW ⟨u1, v1⟩ ⟨u2, v2⟩ with
 | false =>
  rw [hk] at c2
  have C1 := Lib.hid c1
  have C2 := Lib.hid c2
  clear c1 c2 hk
  go_enter Tryz.func143, Tryz.ntmps143
  go_wp2_with (fail)
  refine (C1.out _).mono ?_; rintro e w1 ⟨rfl, hb1⟩; obtain ⟨hc1, hf1⟩ := bcell hb1; have hz1 := hb1.size; (try simp at hz1); have hz1_0 : w.heap.size < w1.heap.size := (by omega); have hz1_1 : w.heap.size + 1 < w1.heap.size := (by omega); have hz1_2 : w.heap.size + 1 + 1 < w1.heap.size := (by omega)
  go_wp2_with (fail)
  refine (C2.out _).mono ?_; rintro e w2 ⟨rfl, hb2⟩; obtain ⟨hc2, hf2⟩ := bcell hb2; have hz2 := hb2.size; (try simp at hz2); have hz2_0 : w.heap.size < w2.heap.size := (by omega); have hz2_1 : w.heap.size + 1 < w2.heap.size := (by omega); have hz2_2 : w.heap.size + 1 + 1 < w2.heap.size := (by omega); have hz2_3 : w1.heap.size < w2.heap.size := (by omega)
  go_wp2
  refine bodyPost_ret (v := .tuple #[.agg #[.int .u64 0, .int .u64 0], .bool false]) (by simp [results, Tryz.results143, go_sem, *]) rfl ⟨by simp [zeroW], (Qb2 hb1 hb2)⟩
 | true =>
  rw [hk] at c2
  have C1 := Lib.hid c1
  have C2 := Lib.hid c2
  clear c1 c2 hk
  go_enter Tryz.func143, Tryz.ntmps143
  go_wp2_with (fail)
  refine (C1.out _).mono ?_; rintro e w1 ⟨rfl, hb1⟩; obtain ⟨hc1, hf1⟩ := bcell hb1; have hz1 := hb1.size; (try simp at hz1); have hz1_0 : w.heap.size < w1.heap.size := (by omega); have hz1_1 : w.heap.size + 1 < w1.heap.size := (by omega); have hz1_2 : w.heap.size + 1 + 1 < w1.heap.size := (by omega)
  go_wp2_with (fail)
  refine (C2.out _).mono ?_; rintro e w2 ⟨rfl, hb2⟩; obtain ⟨hc2, hf2⟩ := bcell hb2; have hz2 := hb2.size; (try simp at hz2); have hz2_0 : w.heap.size < w2.heap.size := (by omega); have hz2_1 : w.heap.size + 1 < w2.heap.size := (by omega); have hz2_2 : w.heap.size + 1 + 1 < w2.heap.size := (by omega); have hz2_3 : w1.heap.size < w2.heap.size := (by omega)
  go_wp2
  refine bodyPost_ret (v := .tuple #[.agg #[.int .u64 x, .int .u64 y], .bool true]) (by simp [results, Tryz.results143, go_sem, *]) rfl ⟨by simp [zeroW], (Qb2 hb1 hb2)⟩
def absI (x : Int) : Int := (x.natAbs : Int)
set_option maxHeartbeats 1000000 in
theorem nsize_any (x : Int) (w : World) (h0 : -9223372036854775808 ≤ x) (h1 : x < 9223372036854775808) :
    Calls Tryz.prog 105 #[.int .i64 x] w fun e w' => e = .returned (.int .u64 (absI x)) ∧ w = w' := by
 go_enter Tryz.func105, Tryz.ntmps105
 go_wp2
 all_goals go_ret
 all_goals exact ⟨ret_u64 (by simp only [absI, IntKind.wrap_u64]; omega), rfl⟩
namespace Mul64
end Mul64
end Go.Proofs.YtkfodkbgmpbmfaaGreat.Rg
namespace Go.Proofs.YtkfodkbgmpbmfaaGreat.Rg
open Go.RowKit
theorem sq_split (n : Nat) : n * n = (n / 4294967296) * (n / 4294967296) * 18446744073709551616 + (n / 4294967296) * (n % 4294967296) * 8589934592 + (n % 4294967296) * (n % 4294967296) := by
 have h := Lib.split_mul (n / 4294967296) (n % 4294967296) (n / 4294967296) (n % 4294967296) 4294967296
 have e : n / 4294967296 * 4294967296 + n % 4294967296 = n := by omega
 rw [e, Nat.mul_comm (n % 4294967296) (n / 4294967296)] at h
 refine h.trans ?_
 generalize n / 4294967296 * (n / 4294967296) = a
 generalize n / 4294967296 * (n % 4294967296) = b
 generalize n % 4294967296 * (n % 4294967296) = c
 clear h e
 omega
theorem sq_plus (n : Nat) (hn : n < 18446744073709551616) :
    plusW ⟨((n / 4294967296 * (n / 4294967296) : Nat) : Int), ((n % 4294967296 * (n % 4294967296) : Nat) : Int)⟩
     ⟨((n / 4294967296 * (n % 4294967296) / 2147483648 : Nat) : Int), ((n / 4294967296 * (n % 4294967296) * 8589934592 % 18446744073709551616 : Nat) : Int)⟩ = (wideN (n * n), true) := by
 have ha := Lib.half_mul_le (a := n / 4294967296) (b := n / 4294967296) (by omega) (by omega)
 have hb := Lib.half_mul_le (a := n / 4294967296) (b := n % 4294967296) (by omega) (by omega)
 have hc := Lib.half_mul_le (a := n % 4294967296) (b := n % 4294967296) (by omega) (by omega)
 have hl : n * n < 18446744073709551616 * 18446744073709551616 := Nat.mul_lt_mul'' hn hn
 rw [wideN, sq_split n] at *
 generalize n / 4294967296 * (n / 4294967296) = a at *
 generalize n / 4294967296 * (n % 4294967296) = b at *
 generalize n % 4294967296 * (n % 4294967296) = c at *
 have hk : okW ⟨(a : Int), (c : Int)⟩ ⟨((b / 2147483648 : Nat) : Int), ((b * 8589934592 % 18446744073709551616 : Nat) : Int)⟩ = true := by
  simp only [okW, decide_eq_true_eq]; simp only [addH]; omega
 simp only [plusW, hk, if_true, addW, addH, Prod.mk.injEq, W.mk.injEq, and_true]
 omega
set_option maxHeartbeats 1000000 in
theorem square_any (n : Nat) (hn : n < 18446744073709551616) (w : World) :
    Calls Tryz.prog 104 #[.int .u64 n] w fun e w' => e = .returned (.agg #[.int .u64 (wideN (n * n)).hi, .int .u64 (wideN (n * n)).lo]) ∧ Below w.heap.size w w' := by
 have ha := Lib.half_mul_le (a := n / 4294967296) (b := n / 4294967296) (by omega) (by omega)
 have hb := Lib.half_mul_le (a := n / 4294967296) (b := n % 4294967296) (by omega) (by omega)
 have hc := Lib.half_mul_le (a := n % 4294967296) (b := n % 4294967296) (by omega) (by omega)
 have ha' : n / 4294967296 * (n / 4294967296) < 18446744073709551616 := by omega
 have hb' : n / 4294967296 * (n % 4294967296) < 18446744073709551616 := by omega
 have hc' : n % 4294967296 * (n % 4294967296) < 18446744073709551616 := by omega
 have c1 := fun w => wrplus_any ((n / 4294967296 * (n / 4294967296) : Nat) : Int) ((n % 4294967296 * (n % 4294967296) : Nat) : Int)
     ((n / 4294967296 * (n % 4294967296) / 2147483648 : Nat) : Int) ((n / 4294967296 * (n % 4294967296) * 8589934592 % 18446744073709551616 : Nat) : Int) w ⟨by omega, by omega⟩ ⟨by omega, by omega⟩ ⟨by omega, by omega⟩ ⟨by omega, by omega⟩
 rw [sq_plus n hn] at c1
 generalize wideN (n * n) = s at c1
 obtain ⟨x, y⟩ := s
 have C1 := Lib.hid c1
 clear c1 ha hb hc
 go_enter Tryz.func104, Tryz.ntmps104
 go_wp2_with (fail)
 simp only [Mul64.maskN n hn, Mul64.divN, Mul64.mulN, Mul64.wrapN _ ha', Mul64.wrapN _ hb', Mul64.wrapN _ hc']
 refine (C1.out _).mono ?_; rintro e w1 ⟨rfl, hb1⟩; obtain ⟨hc1, hf1⟩ := bcell hb1; have hz1 := hb1.size; (try simp at hz1); have hz1_0 : w.heap.size < w1.heap.size := (by omega); have hz1_1 : w.heap.size + 1 < w1.heap.size := (by omega); have hz1_2 : w.heap.size + 1 + 1 < w1.heap.size := (by omega)
 go_wp2
 have q0 : w1.cell? ⟨w.heap.size, 0, none⟩ = some (.int .u64 0) := (hc1 _ _ (by simp; omega)).trans (by go_simp)
 have q1 : w1.cell? ⟨w.heap.size, 1, none⟩ = some (.int .u64 0) := (hc1 _ _ (by simp; omega)).trans (by go_simp)
 refine bodyPost_ret (v := .agg #[.int .u64 x, .int .u64 y]) (by simp [results, Tryz.results104, go_sem, q0, q1, hz1_0]) rfl ⟨by simp, (Qb1 hb1)⟩
end Go.Proofs.YtkfodkbgmpbmfaaGreat.Rg
namespace Go.Proofs.YtkfodkbgmpbmfaaGreat.Rg
open Go.RowKit
theorem nsizeB {x : Int} (h0 : -9223372036854775808 ≤ x) (h1 : x < 9223372036854775808) (w : World) :
    Calls Tryz.prog 105 #[.int .i64 x] w fun e w' => e = .returned (.int .u64 (absI x)) ∧ Below w.heap.size w w' :=
 (nsize_any x w h0 h1).mono fun _ _ h => ⟨h.1, h.2 ▸ Below.refl _ _⟩
theorem rsqone {x : Int} (h0 : -9223372036854775808 ≤ x) (h1 : x < 9223372036854775808) (w : World) :
    Calls Tryz.prog 104 #[.int .u64 (absI x)] w fun e w' => e = .returned (.agg #[.int .u64 (sqOne x).hi, .int .u64 (sqOne x).lo]) ∧ Below w.heap.size w w' :=
 square_any x.natAbs (by omega) w
set_option maxHeartbeats 1000000 in
theorem rsquares_any (A : Option Addr) (n c : Nat) (xs : List Int) (w : World) (hn : xs.length = n) (hr : Reads w w.heap.size 1 A n (xs.map (Value.int .i64))) (hb : i64s xs) (hm : n ≤ maxLen) :
    Calls Tryz.prog 68 #[.slice A n c] w fun e w' => e = .returned (.agg #[.int .u64 (sqL xs).hi, .int .u64 (sqL xs).lo]) ∧ Below w.heap.size w w' := by
 unfold maxLen at hm
 subst hn
 go_enter Tryz.func68, Tryz.ntmps68
 go_wp2
 go_loopw [4] (fun i w' => ∃ k : Nat, k ≤ xs.length ∧ i = .int .i64 k ∧ KeptC w [(⟨w.heap.size, 0, none⟩, .int .u64 0), (⟨w.heap.size, 1, none⟩, .int .u64 0), (⟨w.heap.size + 1, 0, none⟩, .int .u64 (sqL (xs.take k)).hi), (⟨w.heap.size + 1, 1, none⟩, .int .u64 (sqL (xs.take k)).lo)] [⟨w.heap.size, 0, none⟩, ⟨w.heap.size, 1, none⟩, ⟨w.heap.size + 1, 0, none⟩, ⟨w.heap.size + 1, 1, none⟩] w') (fun i _ => xs.length - (intOf i).toNat)
 case atStart => exact ⟨0, Nat.zero_le _, rfl, by rw [show sqL (xs.take 0) = ⟨0, 0⟩ from rfl]; exact Qk⟩
 case round =>
  obtain ⟨k, hk, rfl, hK⟩ := hrel
  simp only [KeptC, List.forall_mem_cons] at hK; obtain ⟨kb0, ⟨kc0_0, kc0_1, kc0_2, kc0_3, _⟩, ⟨kz0_0, kg0_0⟩, ⟨kz0_1, kg0_1⟩, ⟨kz0_2, kg0_2⟩, ⟨kz0_3, kg0_3⟩, _⟩ := hK
  have hr' := hr.below kb0
  by_cases hlt : k < xs.length
  · have HS := Lib.hid (sqL_snoc xs k hlt)
    obtain ⟨ad, u, rfl, hab, hx, hc⟩ := hr'.at_ hlt
    obtain rfl : Value.int .i64 xs[k] = u := by simpa [List.getElem?_eq_getElem hlt] using hx
    obtain ⟨b0, b1⟩ := hb xs[k] (List.getElem_mem hlt)
    have ok1 := sqL_ok (xs.take k)
    have ok2 := sqOne_ok b0 b1
    have cm := fun w => rsqone b0 b1 w
    have cs := fun w => nsizeB b0 b1 w
    clear hx hr hr'
    generalize xs[k] = x at *
    generalize sqL (xs.take k) = s at *
    generalize sqOne x = q at *
    generalize absI x = m at *
    obtain ⟨sh, sl⟩ := s
    obtain ⟨qh, ql⟩ := q
    have ca := fun w => wrsum_any sh sl qh ql w ok1.1 ok1.2 ok2.1 ok2.2
    generalize addW ⟨sh, sl⟩ ⟨qh, ql⟩ = r at *
    obtain ⟨rh, rl⟩ := r
    have CA := Lib.hid ca; have CM := Lib.hid cm; have CS := Lib.hid cs
    clear ca cm cs ok1 ok2
    go_wp2_with (fail)
    refine wp_region_quietC_tail (KeptC w [(⟨w.heap.size, 0, none⟩, .int .u64 0), (⟨w.heap.size, 1, none⟩, .int .u64 0), (⟨w.heap.size + 1, 0, none⟩, .int .u64 sh), (⟨w.heap.size + 1, 1, none⟩, .int .u64 sl), (ad.add k, .int .i64 x)] [⟨w.heap.size, 0, none⟩, ⟨w.heap.size, 1, none⟩, ⟨w.heap.size + 1, 0, none⟩, ⟨w.heap.size + 1, 1, none⟩]) 8 (by kernel_rfl) (by kernel_rfl) ?_ ?_
    · refine KeptC.drewn ?_
      exact Qk1 kb0
    simp only [List.take_succ_cons, List.take_zero, List.drop_succ_cons, List.drop_zero]
    repeat (first
     | go_big_quiet_skip
     | (go_big_quiet_want; (apply quietC_run); (· intro w' hw'; (have hk' := hw'; simp only [KeptC, List.forall_mem_cons] at hk'; go_split_ands); go_simp; first | done | rfl); (simp only [Act.put, List.setIfInBounds_toArray, List.set_cons_zero, List.set_cons_succ]; go_big_quiet_on))
     | (go_big_quiet_want; (apply quietC_call); (· intro w' hw'; go_simp; first | done | exact ⟨rfl, rfl⟩ | rfl); (· intro w' hw'; first | ((with_reducible refine (CA.out _).mono ?_); rintro e w2 ⟨rfl, hb⟩; exact ⟨rfl, hw'.below hb⟩) | ((with_reducible refine (CM.out _).mono ?_); rintro e w2 ⟨rfl, hb⟩; exact ⟨rfl, hw'.below hb⟩) | ((with_reducible refine (CS.out _).mono ?_); rintro e w2 ⟨rfl, hb⟩; exact ⟨rfl, hw'.below hb⟩)); (simp only [Act.put, List.setIfInBounds_toArray, List.set_cons_zero, List.set_cons_succ]; go_big_quiet_on)))
    refine wpQuiet_nil ?_
    intro w1 hk1
    (have hk' := hk1; simp only [KeptC, List.forall_mem_cons] at hk'; go_split_ands); have hkB1 := hk1.1
    have hz1_0 : w.heap.size < w1.heap.size := cell_lt (a := ⟨w.heap.size, 0, none⟩) (by assumption)
    have hz1_1 : w.heap.size + 1 < w1.heap.size := cell_lt (a := ⟨w.heap.size + 1, 0, none⟩) (by assumption)
    go_wp2
    go_roundw
    case rel => exact ⟨k + 1, by omega, by go_num, by rw [HS.out]; exact (Qk1 hkB1)⟩
    case measure => simp [intOf]; omega
  · have hke : k = xs.length := by omega
    subst hke
    rw [List.take_length] at *
    generalize hs : sqL xs = s at *
    obtain ⟨sh, sl⟩ := s
    have HX := Lib.hid hs
    clear hr hr' hs
    go_wp2
    refine bodyPost_ret (v := .agg #[.int .u64 sh, .int .u64 sl]) (by simp [results, Tryz.results68, go_sem, *]) rfl ⟨by rw [HX.out], (Qb1 kb0)⟩
end Go.Proofs.YtkfodkbgmpbmfaaGreat.Rg
namespace Go.Proofs.YtkfodkbgmpbmfaaGreat
open Go.RowKit
set_option linter.unusedVariables false
set_option linter.unusedSimpArgs false
set_option maxRecDepth 100000
set_option maxHeartbeats 4000000 in
theorem rup_any (x : Wd) (a : Int) (w : World) (hx : WdOk w x) :
    Calls Tryz.prog 45 #[WdV x, .int .i64 a] w fun e w' => e = .returned (.bool (upN x a).isSome) ∧ Below w.heap.size w w' := by
 have hl := hx.len
 have hn1 := hx.fit.n1
 by_cases h0 : 0 ≤ a
 · obtain ⟨k, rfl⟩ : ∃ k : Nat, a = k := ⟨a.toNat, by omega⟩
   by_cases hk : k < x.nn
   · obtain ⟨ad, b, hA, hab, hub, hc⟩ := hx.up hk
     obtain ⟨ad2, y, hA2, hab2, hy, h8, hnd⟩ := hx.nd hk
     have HU : Hid ((upN x k).isSome = b) := Lib.hid (by rw [upN_at (by omega) hub hy]; cases b <;> rfl)
     obtain ⟨na, nn, nc, ua, un, uc, da, dn, dc, nx, la, ll, lc, sa, sl, sc, lost, nds, ups⟩ := x
     simp only [] at *
     obtain ⟨e1, rfl⟩ := hl
     subst hA
     obtain ⟨P, hP⟩ : ∃ P, ad.add k = P := ⟨_, rfl⟩
     rw [hP] at hc hab
     have hkb : k < maxLen := by unfold maxLen; omega
     clear hx e1 h8 hnd hy hA2 hub hab2
     go_enter Tryz.func45, Tryz.ntmps45
     go_wp2
     go_ret
     exact ⟨by rw [HU.out]; rfl, Qb⟩
   · have HU : Hid ((upN x k).isSome = false) := Lib.hid (by rw [upN_ge (by omega)]; rfl)
     obtain ⟨na, nn, nc, ua, un, uc, da, dn, dc, nx, la, ll, lc, sa, sl, sc, lost, nds, ups⟩ := x
     simp only [] at *
     clear hx hl
     go_enter Tryz.func45, Tryz.ntmps45
     go_wp2
     go_ret
     exact ⟨by rw [HU.out]; rfl, Qb⟩
 · have HU : Hid ((upN x a).isSome = false) := Lib.hid (by rw [upN_ge (by omega)]; rfl)
   obtain ⟨na, nn, nc, ua, un, uc, da, dn, dc, nx, la, ll, lc, sa, sl, sc, lost, nds, ups⟩ := x
   simp only [] at *
   clear hx hl
   go_enter Tryz.func45, Tryz.ntmps45
   go_wp2
   go_ret
   exact ⟨by rw [HU.out]; rfl, Qb⟩
end Go.Proofs.YtkfodkbgmpbmfaaGreat
namespace Go.Proofs.YtkfodkbgmpbmfaaGreat
open Go.RowKit
set_option linter.unusedVariables false
set_option linter.unusedSimpArgs false
set_option maxRecDepth 100000
set_option maxHeartbeats 8000000 in
theorem rinst_any (x : Wd) (a : Int) (nm : ByteArray) (w : World) (hx : WdOk w x) :
    Calls Tryz.prog 11 #[WdV x, .int .i64 a, .string nm] w fun e w' => e = .returned (.tuple #[ChV ((instS x a nm).getD St0).ch, .bool (instS x a nm).isSome]) ∧ Below w.heap.size w w' := by
 have CU := Lib.hid (fun W (hb : Below w.heap.size w W) => rup_any x a W (hx.below hb))
 cases hu : upN x a with
 | none =>
  have e1 : instS x a nm = none := by unfold instS; rw [hu]; rfl
  rw [hu] at CU
  rw [e1]
  clear hx e1
  go_enter Tryz.func11, Tryz.ntmps11
  go_wp2_with (fail)
  refine (CU.out _ Qb).mono ?_; rintro e w1 ⟨rfl, hb1⟩
  have hk1 : KeptC w [(⟨w.heap.size + 1, 0, none⟩, .string ⟨#[]⟩), (⟨w.heap.size + 1, 1, none⟩, .int .i64 0), (⟨w.heap.size + 1, 2, none⟩, .int .i64 0), (⟨w.heap.size + 1, 3, none⟩, .bool false), (⟨w.heap.size + 1, 4, none⟩, .int .i64 0), (⟨w.heap.size + 1, 5, none⟩, .int .i64 0)] [⟨w.heap.size + 1, 0, none⟩, ⟨w.heap.size + 1, 1, none⟩, ⟨w.heap.size + 1, 2, none⟩, ⟨w.heap.size + 1, 3, none⟩, ⟨w.heap.size + 1, 4, none⟩, ⟨w.heap.size + 1, 5, none⟩] w1 := by
   refine KeptC.below ?_ hb1
   exact Qk
  simp only [KeptC, List.forall_mem_cons] at hk1; obtain ⟨kb1, ⟨kc1_0, kc1_1, kc1_2, kc1_3, kc1_4, kc1_5, _⟩, ⟨kz1_0, kg1_0⟩, ⟨kz1_1, kg1_1⟩, ⟨kz1_2, kg1_2⟩, ⟨kz1_3, kg1_3⟩, ⟨kz1_4, kg1_4⟩, ⟨kz1_5, kg1_5⟩, _⟩ := hk1
  have hz1 : w.heap.size + 1 < w1.heap.size := cell_lt kc1_0
  clear hb1 CU
  simp only [Option.isSome_none]
  go_wp2
  refine bodyPost_ret (v := .tuple #[ChV Ch0, .bool false]) (by simp [results, Tryz.results11, go_sem, *]) rfl ⟨rfl, (Qb1 kb1)⟩
 | some u =>
  obtain ⟨hc, hcn⟩ := hx.chs a
  have e1 : instS x a nm = findS u.chans nm := by unfold instS; rw [hu]; rfl
  obtain ⟨k, rfl, hk, hy, _⟩ := upN_some hu
  have hl := hx.len
  have hn1 := hx.fit.n1
  obtain ⟨ad, u2, hA, hab, hu2, h8, hnd⟩ := hx.nd (k := k) (by omega)
  obtain rfl := Option.some.inj (hy.symm.trans hu2)
  rw [hu] at CU hc hcn
  simp only [Option.getD_some] at hc hcn
  rw [e1]
  have CF := Lib.hid (fun W (hb : Below w.heap.size w W) => srfind_any u.ca u.cn u.cc u.chans nm W ((hc.below hb).more hb.size) (by omega))
  generalize (findS u.chans nm).getD St0 = y at CF ⊢
  generalize (findS u.chans nm).isSome = ok at CF ⊢
  obtain ⟨⟨ys, ye, ym, ya, yk, yc⟩, yh, yi, ⟨yp, yv, yo, yg⟩, ⟨yq, yu, yr, yt⟩⟩ := y
  simp only [] at CF ⊢
  have hkn : k < x.nn := by omega
  obtain ⟨na, nn, nc, ua, un, uc, da, dn, dc, nx, la, ll, lc, sa, sl, sc, lost, nds, ups⟩ := x
  simp only [] at *
  subst hA
  obtain ⟨P, hP⟩ : ∃ P, ad.add (k * 8) = P := ⟨_, rfl⟩
  rw [hP] at h8 hab
  obtain ⟨c0, c1, c2, c3, c4, c5, c6, c7⟩ := h8
  clear hx hc e1 hu hy hu2 hnd hl c0 c1 c2 c3 c4 c5 c6 hk
  go_enter Tryz.func11, Tryz.ntmps11
  go_wp2_with (fail)
  refine (CU.out _ Qb).mono ?_; rintro e w1 ⟨rfl, hb1⟩
  have hk1 : KeptC w [(⟨w.heap.size, 0, none⟩, .slice (some ad) nn nc), (⟨w.heap.size + 1, 0, none⟩, .string ⟨#[]⟩), (⟨w.heap.size + 1, 1, none⟩, .int .i64 0), (⟨w.heap.size + 1, 2, none⟩, .int .i64 0), (⟨w.heap.size + 1, 3, none⟩, .bool false), (⟨w.heap.size + 1, 4, none⟩, .int .i64 0), (⟨w.heap.size + 1, 5, none⟩, .int .i64 0)] [⟨w.heap.size + 1, 0, none⟩, ⟨w.heap.size + 1, 1, none⟩, ⟨w.heap.size + 1, 2, none⟩, ⟨w.heap.size + 1, 3, none⟩, ⟨w.heap.size + 1, 4, none⟩, ⟨w.heap.size + 1, 5, none⟩] w1 := by
   refine KeptC.below ?_ hb1
   exact Qk
  simp only [KeptC, List.forall_mem_cons] at hk1; obtain ⟨kb1, ⟨kc1_0, kc1_1, kc1_2, kc1_3, kc1_4, kc1_5, kc1_6, _⟩, ⟨kz1_0, kg1_0⟩, ⟨kz1_1, kg1_1⟩, ⟨kz1_2, kg1_2⟩, ⟨kz1_3, kg1_3⟩, ⟨kz1_4, kg1_4⟩, ⟨kz1_5, kg1_5⟩, _⟩ := hk1
  have hz1 : w.heap.size + 1 < w1.heap.size := cell_lt kc1_1
  have hz1a : w.heap.size < w1.heap.size := cell_lt kc1_0
  have d7 : w1.cell? ⟨P.block, P.off + 7, none⟩ = some (.slice u.ca u.cn u.cc) := (kb1.cell (p := ⟨P.block, P.off + 7, none⟩) hab).trans c7
  have hPw : P.block < w1.heap.size := by omega
  clear hb1 CU c7
  simp only [Option.isSome_some]
  go_wp2_with (fail)
  refine (CF.out _ (Qb1 kb1)).mono ?_; rintro e w2 ⟨rfl, hb2⟩
  have hk2 : KeptC w [(⟨w.heap.size + 1, 0, none⟩, .string ⟨#[]⟩), (⟨w.heap.size + 1, 1, none⟩, .int .i64 0), (⟨w.heap.size + 1, 2, none⟩, .int .i64 0), (⟨w.heap.size + 1, 3, none⟩, .bool false), (⟨w.heap.size + 1, 4, none⟩, .int .i64 0), (⟨w.heap.size + 1, 5, none⟩, .int .i64 0)] [⟨w.heap.size + 1, 0, none⟩, ⟨w.heap.size + 1, 1, none⟩, ⟨w.heap.size + 1, 2, none⟩, ⟨w.heap.size + 1, 3, none⟩, ⟨w.heap.size + 1, 4, none⟩, ⟨w.heap.size + 1, 5, none⟩] w2 := by
   refine KeptC.below ?_ hb2
   exact Qk1 kb1
  simp only [KeptC, List.forall_mem_cons] at hk2; obtain ⟨kb2, ⟨kc2_0, kc2_1, kc2_2, kc2_3, kc2_4, kc2_5, _⟩, ⟨kz2_0, kg2_0⟩, ⟨kz2_1, kg2_1⟩, ⟨kz2_2, kg2_2⟩, ⟨kz2_3, kg2_3⟩, ⟨kz2_4, kg2_4⟩, ⟨kz2_5, kg2_5⟩, _⟩ := hk2
  have hz2 : w.heap.size + 1 < w2.heap.size := cell_lt kc2_0
  clear hb2 CF kc1_0 kc1_1 kc1_2 kc1_3 kc1_4 kc1_5 kc1_6 kz1_0 kg1_0 kz1_1 kg1_1 kz1_2 kg1_2 kz1_3 kg1_3 kz1_4 kg1_4 kz1_5 kg1_5
  go_wp2
  refine bodyPost_ret (v := .tuple #[.agg #[.string ys, .int .i64 ye, .int .i64 ym, .bool ya, .int .i64 yk, .int .i64 yc], .bool ok]) (by simp [results, Tryz.results11, go_sem, *]) rfl ⟨rfl, (Qb1 kb2)⟩
end Go.Proofs.YtkfodkbgmpbmfaaGreat
namespace Go.Proofs.YtkfodkbgmpbmfaaGreat
open Go.RowKit
set_option linter.unusedVariables false
set_option linter.unusedSimpArgs false
set_option maxRecDepth 100000
set_option maxHeartbeats 4000000 in
theorem same_any (ys : ByteArray) (ye ym : Int) (ya : Bool) (yk yc : Int) (zs : ByteArray) (ze zm : Int) (za : Bool) (zk zc : Int) (w : World) :
    Calls Tryz.prog 89 #[.agg #[.string ys, .int .i64 ye, .int .i64 ym, .bool ya, .int .i64 yk, .int .i64 yc], .agg #[.string zs, .int .i64 ze, .int .i64 zm, .bool za, .int .i64 zk, .int .i64 zc]] w fun e w' => e = .returned (.bool (sameV ye ym yk ze zm zk)) ∧ Below w.heap.size w w' := by
 unfold sameV
 go_enter Tryz.func89, Tryz.ntmps89
 cases h1 : (ye == ze) with
 | false =>
  go_wp2
  go_ret
  exact ⟨by first | rfl | (simp only [h1]; rfl), Qb⟩
 | true =>
  cases h2 : (ym == zm) with
  | false =>
   go_wp2
   go_ret
   exact ⟨by first | rfl | (simp only [h1, h2]; rfl), Qb⟩
  | true =>
   go_wp2_with (fail)
   refine (srflows_any yk _).mono ?_; rintro e w3 ⟨rfl, hb3⟩
   have hk3 : KeptC w [(⟨w.heap.size + 1, 4, none⟩, .int .i64 zk)] [] w3 := by
    refine KeptC.below ?_ hb3
    exact Qk
   simp only [KeptC, List.forall_mem_cons] at hk3; obtain ⟨kb3, ⟨kc3_0, _⟩, _⟩ := hk3
   clear hb3
   obtain ⟨F1, hF1⟩ : ∃ F, (decide (1 ≤ yk) && decide (yk ≤ 3)) = F := ⟨_, rfl⟩
   rw [hF1]
   have HF1 := Lib.hid hF1
   clear hF1
   cases F1 with
   | false =>
    go_wp2
    go_ret
    exact ⟨by first | (simp only [HF1.out]; rfl) | (simp only [h1, h2, HF1.out]; rfl), (Qb1 kb3)⟩
   | true =>
    go_wp2_with (fail)
    refine (srflows_any zk _).mono ?_; rintro e w4 ⟨rfl, hb4⟩
    have hs3 := kb3.size
    have kb4 : Below w.heap.size w w4 := (Qb2 hb4 kb3)
    clear hb4
    obtain ⟨F2, hF2⟩ : ∃ F, (decide (1 ≤ zk) && decide (zk ≤ 3)) = F := ⟨_, rfl⟩
    rw [hF2]
    have HF2 := Lib.hid hF2
    clear hF2
    go_wp2
    go_ret
    exact ⟨by first | (simp only [HF1.out, HF2.out]; rfl) | (simp only [h1, h2, HF1.out, HF2.out]; rfl), (Qb1 kb4)⟩
set_option maxHeartbeats 4000000 in
theorem rboth_any (x : Wd) (a b : Int) (nm : ByteArray) (w : World) (hx : WdOk w x) :
    Calls Tryz.prog 52 #[WdV x, .int .i64 a, .int .i64 b, .string nm] w fun e w' => e = .returned (.bool (bothB x a b nm)) ∧ Below w.heap.size w w' := by
 have C1 := Lib.hid (fun W (hb : Below w.heap.size w W) => rinst_any x a nm W (hx.below hb))
 have C2 := Lib.hid (fun W (hb : Below w.heap.size w W) => rinst_any x b nm W (hx.below hb))
 clear hx
 rw [bothB_eq]
 generalize (instS x a nm).getD St0 = y at C1 ⊢
 generalize (instS x a nm).isSome = k1 at C1 ⊢
 generalize (instS x b nm).getD St0 = z at C2 ⊢
 generalize (instS x b nm).isSome = k2 at C2 ⊢
 obtain ⟨⟨ys, ye, ym, ya, yk, yc⟩, _, _, _, _⟩ := y
 obtain ⟨⟨zs, ze, zm, za, zk, zc⟩, _, _, _, _⟩ := z
 simp only [] at C1 C2 ⊢
 have CS := Lib.hid (fun W => same_any ys ye ym ya yk yc zs ze zm za zk zc W)
 generalize sameV ye ym yk ze zm zk = r at CS ⊢
 go_enter Tryz.func52, Tryz.ntmps52
 go_wp2_with (fail)
 refine (C1.out _ Qb).mono ?_; rintro e w1 ⟨rfl, hb1⟩
 have hk1 : KeptC w [(⟨w.heap.size, 0, none⟩, .slice x.na x.nn x.nc), (⟨w.heap.size, 1, none⟩, .slice x.ua x.un x.uc), (⟨w.heap.size, 2, none⟩, .slice x.da x.dn x.dc), (⟨w.heap.size, 3, none⟩, .int .i64 x.nx), (⟨w.heap.size, 4, none⟩, .slice x.la x.ll x.lc), (⟨w.heap.size, 5, none⟩, .slice x.sa x.sl x.sc), (⟨w.heap.size, 6, none⟩, .int .i64 x.lost)] [] w1 := by
  refine KeptC.below ?_ hb1
  exact Qk
 simp only [KeptC, List.forall_mem_cons] at hk1; obtain ⟨kb1, ⟨kc1_0, kc1_1, kc1_2, kc1_3, kc1_4, kc1_5, kc1_6, _⟩, _⟩ := hk1
 have hz1 : w.heap.size < w1.heap.size := cell_lt kc1_0
 clear hb1 C1
 go_wp2_with (fail)
 refine (C2.out _ (Qb1 kb1)).mono ?_; rintro e w2 ⟨rfl, hb2⟩
 have hk2 : KeptC w [(⟨w1.heap.size, 0, none⟩, .string ys), (⟨w1.heap.size, 1, none⟩, .int .i64 ye), (⟨w1.heap.size, 2, none⟩, .int .i64 ym), (⟨w1.heap.size, 3, none⟩, .bool ya), (⟨w1.heap.size, 4, none⟩, .int .i64 yk), (⟨w1.heap.size, 5, none⟩, .int .i64 yc)] [] w2 := by
  refine KeptC.below ?_ hb2
  exact Qk1 kb1
 simp only [KeptC, List.forall_mem_cons] at hk2; obtain ⟨kb2, ⟨kc2_0, kc2_1, kc2_2, kc2_3, kc2_4, kc2_5, _⟩, _⟩ := hk2
 have hz2 : w1.heap.size < w2.heap.size := cell_lt kc2_0
 clear hb2 C2 kc1_0 kc1_1 kc1_2 kc1_3 kc1_4 kc1_5 kc1_6
 cases k1 with
 | false =>
  go_wp2
  go_ret
  exact ⟨rfl, (Qb1 kb2)⟩
 | true =>
  cases k2 with
  | false =>
   go_wp2
   go_ret
   exact ⟨rfl, (Qb1 kb2)⟩
  | true =>
   go_wp2_with (fail)
   refine (CS.out _).mono ?_; rintro e w3 ⟨rfl, hb3⟩
   have hs2 := kb2.size
   have kb3 : Below w.heap.size w w3 := (Qb2 hb3 kb2)
   clear hb3
   go_wp2
   go_ret
   exact ⟨rfl, (Qb1 kb3)⟩
end Go.Proofs.YtkfodkbgmpbmfaaGreat
namespace Go.Proofs.YtkfodkbgmpbmfaaGreat
open Go.RowKit Go.Shelf
set_option linter.unusedVariables false
set_option linter.unusedSimpArgs false
set_option maxRecDepth 100000
set_option maxHeartbeats 4000000 in
theorem rchan_none (y : Nd) (nm : ByteArray) (w : World) (hy : StsAt w w.heap.size y.ca y.cn y.chans) (hm : y.cn ≤ 1000) (hf : findS y.chans nm = none) :
    Calls Tryz.prog 96 #[NdV y, .string nm, .bool true] w fun e w' => e = .returned (.tuple #[.agg (stV St0).toArray, .int .i64 (flE y.chans nm)]) ∧ Below w.heap.size w w' := by
 have cf := (fun W (hb : Below w.heap.size w W) => srfind_any y.ca y.cn y.cc y.chans nm W ((hy.below hb).more hb.size) (by omega))
 rw [hf] at cf
 simp only [Option.getD_some, Option.getD_none, Option.isSome_some, Option.isSome_none] at cf
 have CF := Lib.hid cf
 clear cf hy hm
 obtain ⟨e0, he⟩ : ∃ e, flE y.chans nm = e := ⟨_, rfl⟩
 rw [he]
 unfold flE at he
 rw [hf] at he
 simp only [] at he
 obtain ⟨id, boot, ticks, wa, wn, wc, turn, sa, sn, sc, ha, hn, hc, ca, cn, cc, want, seen, halves, chans⟩ := y
 simp only [] at CF ⊢
 clear hf
 have HLa : Hid (LocE stV ((w.alloc (.cells #[.int .i64 id, .int .i64 boot, .int .i64 ticks, .slice wa wn wc, .int .i64 turn, .slice sa sn sc, .slice ha hn hc, .slice ca cn cc] 56)).alloc (.cells #[.string ⟨#[]⟩, .int .i64 0, .int .i64 0, .bool false, .int .i64 0, .int .i64 0, .bool false, .int .i64 0, .bool false, .int .i64 0, .int .i64 0, .int .i64 0, .bool false, .int .i64 0, .int .i64 0, .int .i64 0] 96)) (w.heap.size + 1)) := Lib.hid (by have h := LocE.fresh (enc := stV) (w.alloc (.cells #[.int .i64 id, .int .i64 boot, .int .i64 ticks, .slice wa wn wc, .int .i64 turn, .slice sa sn sc, .slice ha hn hc, .slice ca cn cc] 56)) #[.string ⟨#[]⟩, .int .i64 0, .int .i64 0, .bool false, .int .i64 0, .int .i64 0, .bool false, .int .i64 0, .bool false, .int .i64 0, .int .i64 0, .int .i64 0, .bool false, .int .i64 0, .int .i64 0, .int .i64 0] 96 St0 rfl; simpa using h)
 go_enter Tryz.func96, Tryz.ntmps96
 go_wp2_with (fail)
 refine (CF.out _ Qb).mono ?_; rintro e w1 ⟨rfl, hb1⟩
 have HL1 := Lib.hid (HLa.out.below hb1)
 have HB1 : Hid (Below w.heap.size w w1) := Lib.hid (Qb1 hb1)
 have hs1 : w.heap.size + 1 < w1.heap.size := HL1.out.1
 clear hb1 HLa
 have HLb : Hid (LocE stV (w1.alloc (.cells #[.string ⟨#[]⟩, .int .i64 0, .int .i64 0, .bool false, .int .i64 0, .int .i64 0, .bool false, .int .i64 0, .bool false, .int .i64 0, .int .i64 0, .int .i64 0, .bool false, .int .i64 0, .int .i64 0, .int .i64 0] 96)) w1.heap.size) := Lib.hid (LocE.fresh (enc := stV) w1 #[.string ⟨#[]⟩, .int .i64 0, .int .i64 0, .bool false, .int .i64 0, .int .i64 0, .bool false, .int .i64 0, .bool false, .int .i64 0, .int .i64 0, .int .i64 0, .bool false, .int .i64 0, .int .i64 0, .int .i64 0] 96 St0 rfl)
 have HLc := Lib.hid (HL1.out.below ((Below.refl _ _).alloc (Nat.le_refl _) (.cells #[.string ⟨#[]⟩, .int .i64 0, .int .i64 0, .bool false, .int .i64 0, .int .i64 0, .bool false, .int .i64 0, .bool false, .int .i64 0, .int .i64 0, .int .i64 0, .bool false, .int .i64 0, .int .i64 0, .int .i64 0] 96)))
 have HB2 : Hid (Below w.heap.size w (w1.alloc (.cells #[.string ⟨#[]⟩, .int .i64 0, .int .i64 0, .bool false, .int .i64 0, .int .i64 0, .bool false, .int .i64 0, .bool false, .int .i64 0, .int .i64 0, .int .i64 0, .bool false, .int .i64 0, .int .i64 0, .int .i64 0] 96))) := Lib.hid (Qb1 HB1.out)
 go_upto_region 2 with ((with_reducible show wpList _ _ _ (_ :: _) _ _); refine wpList_store_lay rfl 96 (.tmp 8) (.tmp 15) rfl w1.heap.size 0 (stV St0).toArray rfl rfl (HLb.out.there stV_len) (by kernel_rfl) (all_oneCell_toArray (stV_one St0)) (fun w' => LocX stV w' w1.heap.size St0 ∧ LocE stV w' (w.heap.size + 1) ∧ Below w.heap.size w w') ⟨HLb.out.layX stV_len St0 rfl, HLc.out.otherS (by omega) _ _, Below.setCells (by omega) _ _ _ HB2.out⟩ ?_; rintro w2 ⟨hX2, hL2, hB2⟩; have HX2 := Lib.hid hX2; have HL2 := Lib.hid hL2; have HB3 := Lib.hid hB2; clear hX2 hL2 hB2 HLb HLc HB2)
 subst he
 go_wp2_with (first | ((with_reducible show wpList _ _ _ (_ :: _) _ _); refine wpList_load_mid rfl 96 (.tmp 8) rfl w1.heap.size 0 rfl (stV St0) _ HX2.out.range Tryz.underlying96 rfl (by kernel_rfl) ?_) | ((with_reducible show wpList _ _ _ (_ :: _) _ _); refine wpList_store_lay rfl 96 (.tmp 6) (.tmp 19) rfl (w.heap.size + 1) 0 (stV St0).toArray rfl rfl (HL2.out.there stV_len) (by kernel_rfl) (all_oneCell_toArray (stV_one St0)) (fun w' => w'.rangeAt (w.heap.size + 1) 0 (stV St0) ∧ Below w.heap.size w w') ⟨World.rangeAt_setCells_same _ _ _ _ (HL2.out.there stV_len), Below.setCells (by omega) _ _ _ HB3.out⟩ ?_; rintro wz ⟨hYz, hBz⟩))
 refine bodyPost_ret (results_cell_mid2 (p := 6) (u := 7) (ty := 96) rfl _ _ (w.heap.size + 1) (stV St0) _ rfl hYz Tryz.underlying96 rfl (by kernel_rfl)) rfl ⟨?_, hBz⟩
 rfl
set_option maxHeartbeats 4000000 in
theorem rchan_some (y : Nd) (nm : ByteArray) (w : World) (hy : StsAt w w.heap.size y.ca y.cn y.chans) (hm : y.cn ≤ 1000) (s : St) (hf : findS y.chans nm = some s) :
    Calls Tryz.prog 96 #[NdV y, .string nm, .bool true] w fun e w' => e = .returned (.tuple #[.agg (stV s).toArray, .int .i64 (flE y.chans nm)]) ∧ Below w.heap.size w w' := by
 have cf := (fun W (hb : Below w.heap.size w W) => srfind_any y.ca y.cn y.cc y.chans nm W ((hy.below hb).more hb.size) (by omega))
 rw [hf] at cf
 simp only [Option.getD_some, Option.getD_none, Option.isSome_some, Option.isSome_none] at cf
 have CF := Lib.hid cf
 clear cf hy hm
 obtain ⟨e0, he⟩ : ∃ e, flE y.chans nm = e := ⟨_, rfl⟩
 rw [he]
 unfold flE at he
 rw [hf] at he
 simp only [] at he
 obtain ⟨id, boot, ticks, wa, wn, wc, turn, sa, sn, sc, ha, hn, hc, ca, cn, cc, want, seen, halves, chans⟩ := y
 simp only [] at CF ⊢
 clear hf
 have HLa : Hid (LocE stV ((w.alloc (.cells #[.int .i64 id, .int .i64 boot, .int .i64 ticks, .slice wa wn wc, .int .i64 turn, .slice sa sn sc, .slice ha hn hc, .slice ca cn cc] 56)).alloc (.cells #[.string ⟨#[]⟩, .int .i64 0, .int .i64 0, .bool false, .int .i64 0, .int .i64 0, .bool false, .int .i64 0, .bool false, .int .i64 0, .int .i64 0, .int .i64 0, .bool false, .int .i64 0, .int .i64 0, .int .i64 0] 96)) (w.heap.size + 1)) := Lib.hid (by have h := LocE.fresh (enc := stV) (w.alloc (.cells #[.int .i64 id, .int .i64 boot, .int .i64 ticks, .slice wa wn wc, .int .i64 turn, .slice sa sn sc, .slice ha hn hc, .slice ca cn cc] 56)) #[.string ⟨#[]⟩, .int .i64 0, .int .i64 0, .bool false, .int .i64 0, .int .i64 0, .bool false, .int .i64 0, .bool false, .int .i64 0, .int .i64 0, .int .i64 0, .bool false, .int .i64 0, .int .i64 0, .int .i64 0] 96 St0 rfl; simpa using h)
 go_enter Tryz.func96, Tryz.ntmps96
 go_wp2_with (fail)
 refine (CF.out _ Qb).mono ?_; rintro e w1 ⟨rfl, hb1⟩
 have HL1 := Lib.hid (HLa.out.below hb1)
 have HB1 : Hid (Below w.heap.size w w1) := Lib.hid (Qb1 hb1)
 have hs1 : w.heap.size + 1 < w1.heap.size := HL1.out.1
 clear hb1 HLa
 have HLb : Hid (LocE stV (w1.alloc (.cells #[.string ⟨#[]⟩, .int .i64 0, .int .i64 0, .bool false, .int .i64 0, .int .i64 0, .bool false, .int .i64 0, .bool false, .int .i64 0, .int .i64 0, .int .i64 0, .bool false, .int .i64 0, .int .i64 0, .int .i64 0] 96)) w1.heap.size) := Lib.hid (LocE.fresh (enc := stV) w1 #[.string ⟨#[]⟩, .int .i64 0, .int .i64 0, .bool false, .int .i64 0, .int .i64 0, .bool false, .int .i64 0, .bool false, .int .i64 0, .int .i64 0, .int .i64 0, .bool false, .int .i64 0, .int .i64 0, .int .i64 0] 96 St0 rfl)
 have HLc := Lib.hid (HL1.out.below ((Below.refl _ _).alloc (Nat.le_refl _) (.cells #[.string ⟨#[]⟩, .int .i64 0, .int .i64 0, .bool false, .int .i64 0, .int .i64 0, .bool false, .int .i64 0, .bool false, .int .i64 0, .int .i64 0, .int .i64 0, .bool false, .int .i64 0, .int .i64 0, .int .i64 0] 96)))
 have HB2 : Hid (Below w.heap.size w (w1.alloc (.cells #[.string ⟨#[]⟩, .int .i64 0, .int .i64 0, .bool false, .int .i64 0, .int .i64 0, .bool false, .int .i64 0, .bool false, .int .i64 0, .int .i64 0, .int .i64 0, .bool false, .int .i64 0, .int .i64 0, .int .i64 0] 96))) := Lib.hid (Qb1 HB1.out)
 go_upto_region 2 with ((with_reducible show wpList _ _ _ (_ :: _) _ _); refine wpList_store_lay rfl 96 (.tmp 8) (.tmp 15) rfl w1.heap.size 0 (stV s).toArray rfl rfl (HLb.out.there stV_len) (by kernel_rfl) (all_oneCell_toArray (stV_one s)) (fun w' => LocX stV w' w1.heap.size s ∧ LocE stV w' (w.heap.size + 1) ∧ Below w.heap.size w w') ⟨HLb.out.layX stV_len s rfl, HLc.out.otherS (by omega) _ _, Below.setCells (by omega) _ _ _ HB2.out⟩ ?_; rintro w2 ⟨hX2, hL2, hB2⟩; have HX2 := Lib.hid hX2; have HL2 := Lib.hid hL2; have HB3 := Lib.hid hB2; clear hX2 hL2 hB2 HLb HLc HB2)
 have CK : Hid (∀ W, Calls Tryz.prog 29 #[.int .i64 s.ch.kd] W fun x w' => x = .returned (.bool (flowsK s.ch.kd)) ∧ Below W.heap.size W w') := Lib.hid (fun W => srflows_any s.ch.kd W)
 generalize flowsK s.ch.kd = fk at CK he
 have c4 := (HX2.out.2 4 _ rfl).1
 have hs2 : w1.heap.size < w2.heap.size := HX2.out.1
 go_wp2_with (fail)
 refine (CK.out _).mono ?_; rintro e w3 ⟨rfl, hb3⟩
 have HX3 := Lib.hid (HX2.out.below hb3 hs2)
 have HL3 := Lib.hid (HL2.out.below hb3)
 have HB4 : Hid (Below w.heap.size w w3) := Lib.hid (HB3.out.trans (hb3.mono HB3.out.size))
 clear hb3 c4
 cases fk with
 | false =>
  simp only [Bool.false_eq_true, if_false] at he
  subst he
  go_wp2_with (first | ((with_reducible show wpList _ _ _ (_ :: _) _ _); refine wpList_load_mid rfl 96 (.tmp 8) rfl w1.heap.size 0 rfl (stV s) _ HX3.out.range Tryz.underlying96 rfl (by kernel_rfl) ?_) | ((with_reducible show wpList _ _ _ (_ :: _) _ _); refine wpList_store_lay rfl 96 (.tmp 6) (.tmp 26) rfl (w.heap.size + 1) 0 (stV s).toArray rfl rfl (HL3.out.there stV_len) (by kernel_rfl) (all_oneCell_toArray (stV_one s)) (fun w' => w'.rangeAt (w.heap.size + 1) 0 (stV s) ∧ Below w.heap.size w w') ⟨World.rangeAt_setCells_same _ _ _ _ (HL3.out.there stV_len), Below.setCells (by omega) _ _ _ HB4.out⟩ ?_; rintro wz ⟨hYz, hBz⟩))
  refine bodyPost_ret (results_cell_mid2 (p := 6) (u := 7) (ty := 96) rfl _ _ (w.heap.size + 1) (stV s) _ rfl hYz Tryz.underlying96 rfl (by kernel_rfl)) rfl ⟨?_, hBz⟩
  rfl
 | true =>
  simp only [if_true] at he
  subst he
  go_wp2_with (first | ((with_reducible show wpList _ _ _ (_ :: _) _ _); refine wpList_load_mid rfl 96 (.tmp 8) rfl w1.heap.size 0 rfl (stV s) _ HX3.out.range Tryz.underlying96 rfl (by kernel_rfl) ?_) | ((with_reducible show wpList _ _ _ (_ :: _) _ _); refine wpList_store_lay rfl 96 (.tmp 6) (.tmp 27) rfl (w.heap.size + 1) 0 (stV s).toArray rfl rfl (HL3.out.there stV_len) (by kernel_rfl) (all_oneCell_toArray (stV_one s)) (fun w' => w'.rangeAt (w.heap.size + 1) 0 (stV s) ∧ Below w.heap.size w w') ⟨World.rangeAt_setCells_same _ _ _ _ (HL3.out.there stV_len), Below.setCells (by omega) _ _ _ HB4.out⟩ ?_; rintro wz ⟨hYz, hBz⟩))
  refine bodyPost_ret (results_cell_mid2 (p := 6) (u := 7) (ty := 96) rfl _ _ (w.heap.size + 1) (stV s) _ rfl hYz Tryz.underlying96 rfl (by kernel_rfl)) rfl ⟨?_, hBz⟩
  rfl
theorem rchan_any (y : Nd) (nm : ByteArray) (w : World) (hy : StsAt w w.heap.size y.ca y.cn y.chans) (hm : y.cn ≤ 1000) :
    Calls Tryz.prog 96 #[NdV y, .string nm, .bool true] w fun e w' => e = .returned (.tuple #[.agg (stV ((findS y.chans nm).getD St0)).toArray, .int .i64 (flE y.chans nm)]) ∧ Below w.heap.size w w' := by
 cases hf : findS y.chans nm with
 | none => exact rchan_none y nm w hy hm hf
 | some s => exact rchan_some y nm w hy hm s hf
end Go.Proofs.YtkfodkbgmpbmfaaGreat
namespace Go.Proofs.YtkfodkbgmpbmfaaGreat
open Go.RowKit Go.Shelf
set_option linter.unusedVariables false
set_option linter.unusedSimpArgs false
set_option maxRecDepth 100000
theorem step_app1H {P : Program} {α : Type} {enc : α → List Value} {k bytes : Nat} (hk : ∀ x, (enc x).length = k) (h1 : ∀ x, ∀ u ∈ enc x, u.oneCell' = true) (hk0 : 0 < k) {ops : Array Oper} {o : Oper} {a : Act} {w : World} {K : Act → World → Prop} {Q : Exit → Act → World → Prop} {E : Prop} (hgd : o.guard = none) (s x : Operand) (t e : TypeId)
    (ho : o.op = .call { callee := .builtin .append, args := #[s, x], argTypes := #[t, t] }) (ht : P.underlying t = some (.slice e)) {z : Value} (hi : (P.info? e).map (fun i => (i.zero, i.size, i.bytes)) = some (some z, k, bytes)) (hzs : z.cells.size = k)
    (base : Nat) (OL : List α) (A2 : Option Addr) (n2 cp2 : Nat) (hn2 : OL.length = n2) (hs : a.eval s = .slice A2 n2 cp2) (hown : OwnE enc k e w base (.slice A2 n2 cp2) OL)
    (bx : Nat) (hbx : bx < w.heap.size) (hne : (Value.slice A2 n2 cp2).ownBlock ≠ some bx)
    (g : Addr) (c : Nat) (hx : a.eval x = .slice (some g) 1 c) (y : α) (hr : CellsE enc w g y) (hg : g.block < w.heap.size) (h63 : n2 + 1 ≤ maxLen) (hb : (n2 + 1) * bytes ≤ 140737488355328) (hbase : base ≤ w.heap.size)
    (h : ∀ O3 A3 n3 cp3 w3, O3 = OL ++ [y] → O3.length = n3 → OwnE enc k e w3 base (.slice A3 n3 cp3) O3 → Below base w w3 → w3.heap[bx]? = w.heap[bx]? → (Value.slice A3 n3 cp3).ownBlock ≠ some bx → K (a.put o.dst (.slice A3 n3 cp3)) w3) :
    if Region.wanted o (yielded ops a.tmps) = true then Oper.wp P o a w K Q else E := by
 obtain ⟨i0, hi0, hz0, hz1, hz2⟩ := info_parts hi
 subst hn2
 have hr2 : Reads w w.heap.size k (some g) 1 (enc y) := ⟨by rw [hk, Nat.one_mul], fun _ => ⟨g, rfl, hg, hr⟩⟩
 refine step_append_any w hgd s x t ho base e i0 z k bytes ht hi0 hz0 hz1 hz2 hzs hk0 _ OL.length (flatE enc OL) hs hown w.heap.size (some g) 1 c (enc y) hx hr2 (h1 y) h63 hb hbase ?_
 intro v' w' hown' hg' hat'
 obtain ⟨A3, c3, rfl⟩ := row_slice' hown'
 have hbl := (row_grown hown hg' hbase).1
 have hl : (OL ++ [y]).length = OL.length + 1 := by simp
 refine h (OL ++ [y]) A3 _ c3 w' rfl hl (by unfold OwnE; rw [flatE_snoc, hl]; exact hown') hbl (hg'.block bx hbx (Ne.symm hne)) ?_
 rcases hat' with e2 | e2
 · rw [e2]; exact hne
 · rw [e2]
   intro e3
   have := Option.some.inj e3
   omega
theorem entry_inf : (Tryz.prog.info? 232).map (fun i => (i.zero, i.size, i.bytes)) = some (some (.agg #[.int .i64 0, .int .i64 0]), 2, 16) := by kernel_rfl
theorem told_any (x : Int) (w : World) : Calls Tryz.prog 129 #[.int .i64 x] w fun e w' => e = .returned (.tuple #[.int .i64 (tellN x).1, .int .i64 (tellN x).2]) ∧ w = w' := by
 unfold tellN Rg.flowsB
 by_cases h1 : -2147483647 ≤ x
 · by_cases h2 : x ≤ 2147483647
   · rw [decide_eq_true h1, decide_eq_true h2]
     go_enter Tryz.func129, Tryz.ntmps129
     go_wp2
     go_ret2
     exact ⟨rfl, rfl⟩
   · rw [decide_eq_true h1, decide_eq_false h2]
     go_enter Tryz.func129, Tryz.ntmps129
     go_wp2
     go_ret2
     exact ⟨rfl, rfl⟩
 · rw [decide_eq_false h1]
   go_enter Tryz.func129, Tryz.ntmps129
   go_wp2
   go_ret2
   exact ⟨rfl, rfl⟩
theorem box_cell {w w' : World} {b o : Nat} {v : Value} (h : w'.heap[b]? = w.heap[b]?) (hc : w.cell? ⟨b, o, none⟩ = some v) : w'.cell? ⟨b, o, none⟩ = some v := (World.cell?_of_block (w := w) (w' := w') (a := ⟨b, o, none⟩) h).trans hc
set_option maxHeartbeats 8000000 in
theorem rpage_any (id : Int) (A : Option Addr) (n cp : Nat) (hs : List Hf) (nm : ByteArray) (w : World) (hr : HfsAt w w.heap.size A n hs) (hn : n ≤ 16) (hl8 : ∀ h ∈ hs, h.lines.length ≤ 8) :
    Calls Tryz.prog 170 #[.int .i64 id, .slice A n cp, .string nm] w fun e w' => ∃ A2 n2 c2, e = .returned (.slice A2 n2 c2) ∧ (outsN id hs nm).length = n2 ∧ OwnE Bg.encL 2 232 w' w.heap.size (.slice A2 n2 c2) (outsN id hs nm) ∧ Below w.heap.size w w' := by
 have HR := Lib.hid hr.1
 have HRL := Lib.hid hr.2
 have HL8 := Lib.hid hl8
 clear hr hl8
 go_enter Tryz.func170, Tryz.ntmps170
 go_wp2
 go_loopw [8, 7] (fun i l w' => ∃ (k : Nat) (OL : List (Int × Int)) (A2 : Option Addr) (n2 c2 : Nat), k ≤ n ∧ i = .int .i64 k ∧ l = .slice A2 n2 c2 ∧ Hid (OL.length = n2) ∧ Hid (OL = outsN id (hs.take k) nm) ∧ Hid (OwnE Bg.encL 2 232 w' w.heap.size (.slice A2 n2 c2) OL) ∧ KeptC w [] [] w') (fun i _ _ => n - (intOf i).toNat)
 case atStart => exact ⟨0, [], none, 0, 0, Nat.zero_le _, rfl, rfl, Lib.hid rfl, Lib.hid rfl, Lib.hid (OwnE.nil _ _ _), Qk⟩
 case round =>
  obtain ⟨k, OL, A2, n2, c2, hk, rfl, rfl, HN2, HOL, HO, hK⟩ := hrel
  have kb0 := hK.1
  clear hK
  have hs0 := kb0.size
  by_cases hlt : k < n
  rotate_left
  · obtain rfl : k = n := by omega
    go_wp2
    go_ret
    have e1 : OL = outsN id hs nm := by rw [HOL.out, List.take_of_length_le (Nat.le_of_eq HR.out.1)]
    exact ⟨A2, n2, c2, rfl, by rw [← e1]; exact HN2.out, by rw [← e1]; exact HO.out, kb0⟩
  · obtain ⟨ad, x, rfl, hab, hx, h4⟩ := HR.out.at hlt
    obtain ⟨P, hP⟩ : ∃ P, ad.add (k * 6) = P := ⟨_, rfl⟩
    rw [hP] at h4 hab
    obtain ⟨d0, d1, d2, d3, d4, d5⟩ := (hf6_of h4).below hab kb0
    have hPw : P.block < wr.heap.size := by omega
    have HX := Lib.hid hx
    have HLX := Lib.hid (HRL.out x (List.mem_of_getElem? hx)).1
    have HX8 := Lib.hid (HL8.out x (List.mem_of_getElem? hx))
    have HPL : Hid (OL.length ≤ 8 * k) := Lib.hid (by
     rw [HOL.out]
     have h := outsN_len (id := id) (nm := nm) (hs.take k) (fun h hh => HL8.out h (List.mem_of_mem_take hh))
     have := List.length_take_le k hs
     omega)
    clear h4 hx
    obtain ⟨peer, hboot, life, la, ln, lc, pend, miss, lines⟩ := x
    simp only [] at d0 d1 d2 d3 d4 d5 HLX HX8
    obtain ⟨w1, h⟩ : ∃ w1, w1 = wr := ⟨_, rfl⟩
    subst h
    have HNE : Hid ((Value.slice A2 n2 c2).ownBlock ≠ some w1.heap.size) := Lib.hid (by
     intro e
     rcases HO.out.2 with ⟨e2, _⟩ | ⟨g, cap, cur, e2, _, hg, _⟩
     · rw [e2] at e; simp [Value.ownBlock] at e
     · rw [e2] at e
       have h1 : g = w1.heap.size := by simpa [Value.ownBlock] using e
       have := (Array.getElem?_eq_some_iff.1 hg).1
       omega)
    go_wp2
    go_loopw [10, 7] (fun i l w' => ∃ (j : Nat) (O2 : List (Int × Int)) (A3 : Option Addr) (n3 c3 : Nat), j ≤ ln ∧ i = .int .i64 j ∧ l = .slice A3 n3 c3 ∧ Hid (O2.length = n3) ∧ Hid (O2 = OL ++ outsH id nm ⟨peer, hboot, life, la, ln, lc, pend, miss, lines⟩ (lines.take j)) ∧ Hid (OwnE Bg.encL 2 232 w' w.heap.size (.slice A3 n3 c3) O2) ∧ Hid ((Value.slice A3 n3 c3).ownBlock ≠ some w1.heap.size) ∧ KeptC w [(⟨w1.heap.size, 0, none⟩, .int .i64 peer), (⟨w1.heap.size, 3, none⟩, .slice la ln lc)] [] w') (fun i _ _ => ln - (intOf i).toNat)
    case atStart => exact ⟨0, OL, A2, n2, c2, Nat.zero_le _, rfl, rfl, HN2, Lib.hid (by simp [outsH]), Lib.hid (HO.out.below ((Below.refl _ _).alloc (Nat.le_refl _) _)), HNE, (Qk1 kb0)⟩
    case round =>
     obtain ⟨j, O2, A3, n3, c3, hj, rfl, rfl, HN3, HO2, HW2, HNB, hK⟩ := hrel
     clear d0 d1 d2 d3 d4 d5 kb0 HNE HO HN2
     simp only [KeptC, List.forall_mem_cons] at hK; obtain ⟨kb2, ⟨kc2_0, kc2_1, _⟩, _⟩ := hK
     have hs2 := kb2.size
     have hz2 : w1.heap.size < wr.heap.size := cell_lt kc2_0
     by_cases hlj : j < ln
     rotate_left
     · obtain rfl : j = ln := by omega
       have HE : Hid (O2 = outsN id (hs.take (k + 1)) nm) := Lib.hid (by rw [outsN_next HX.out, HO2.out, HOL.out, List.take_of_length_le (Nat.le_of_eq HLX.out.1)])
       go_wp2
       go_roundw
       case rel => exact ⟨k + 1, O2, A3, n3, c3, by omega, by go_num, rfl, HN3, HE, HW2, (Qk1 kb2)⟩
       case measure => simp [intOf]; omega
     · obtain ⟨adl, lx, rfl, habl, hxl, h7⟩ := HLX.out.at hlj
       obtain ⟨Q, hQ⟩ : ∃ Q, adl.add (j * 4) = Q := ⟨_, rfl⟩
       rw [hQ] at h7 habl
       obtain ⟨l0, l1, l2, l3⟩ := (ln4_of h7).below habl kb2
       have hQw : Q.block < wr.heap.size := by omega
       have HXL := Lib.hid hxl
       have hwj : IntKind.i64.wrap ((j : Int) + 1) = (j : Int) + 1 := by rw [IntKind.wrap_i64]; have h1 := HX8.out; have h2 := HLX.out.1; omega
       clear h7 hxl
       obtain ⟨lnm, lver, lwr, lflow⟩ := lx
       simp only [] at l0 l1 l2 l3
       cases he : (lnm.toList == nm.toList) with
       | false =>
        have HE : Hid (isL nm ⟨lnm, lver, lwr, lflow⟩ = false) := Lib.hid he
        go_wp2
        go_roundw
        case rel => exact ⟨j + 1, O2, A3, n3, c3, by omega, by go_num, rfl, HN3, Lib.hid (by rw [outsH_next HXL.out, HE.out, HO2.out]; simp), HW2, HNB, (Qk1 kb2)⟩
        case measure => simp [intOf]; omega
       | true =>
        have HE : Hid (isL nm ⟨lnm, lver, lwr, lflow⟩ = true) := Lib.hid he
        have HB1 : Hid (n3 + 1 ≤ maxLen ∧ (n3 + 1) * 16 ≤ 140737488355328) := Lib.hid (by
         have h1 := outsH_len id nm ⟨peer, hboot, life, some adl, ln, lc, pend, miss, lines⟩ (lines.take j)
         have h2 := List.length_take_le j lines
         have h3 := HX8.out
         have h4 := HLX.out.1
         have h5 := HPL.out
         have h6 := HN3.out
         rw [HO2.out, List.length_append] at h6
         simp only [maxLen]
         omega)
        go_wp2_with (fail)
        have kS : ∀ a b : World, (Below w.heap.size w a ∧ a.cell? ⟨w1.heap.size, 0, none⟩ = some (.int .i64 peer) ∧ a.cell? ⟨w1.heap.size, 3, none⟩ = some (.slice (some adl) ln lc) ∧ a.cell? ⟨Q.block, Q.off + 1, none⟩ = some (.int .i64 lver) ∧ a.cell? ⟨Q.block, Q.off + 2, none⟩ = some (.int .i64 lwr) ∧ a.cell? ⟨Q.block, Q.off + 3, none⟩ = some (.int .i64 lflow)) → Below a.heap.size a b → (Below w.heap.size w b ∧ b.cell? ⟨w1.heap.size, 0, none⟩ = some (.int .i64 peer) ∧ b.cell? ⟨w1.heap.size, 3, none⟩ = some (.slice (some adl) ln lc) ∧ b.cell? ⟨Q.block, Q.off + 1, none⟩ = some (.int .i64 lver) ∧ b.cell? ⟨Q.block, Q.off + 2, none⟩ = some (.int .i64 lwr) ∧ b.cell? ⟨Q.block, Q.off + 3, none⟩ = some (.int .i64 lflow)) := by
         rintro a b ⟨k0, k1, k2, k3, k4, k5⟩ hb
         exact ⟨k0.trans (hb.mono k0.size), (hb.cell (p := ⟨w1.heap.size, 0, none⟩) (cell_lt k1)).trans k1, (hb.cell (p := ⟨w1.heap.size, 3, none⟩) (cell_lt k2)).trans k2, (hb.cell (p := ⟨Q.block, Q.off + 1, none⟩) (cell_lt k3)).trans k3, (hb.cell (p := ⟨Q.block, Q.off + 2, none⟩) (cell_lt k4)).trans k4, (hb.cell (p := ⟨Q.block, Q.off + 3, none⟩) (cell_lt k5)).trans k5⟩
        have KS := Lib.hid kS
        have kT : ∀ a b : World, (Below w.heap.size w a ∧ a.cell? ⟨w1.heap.size, 0, none⟩ = some (.int .i64 peer) ∧ a.cell? ⟨w1.heap.size, 3, none⟩ = some (.slice (some adl) ln lc) ∧ a.cell? ⟨Q.block, Q.off + 1, none⟩ = some (.int .i64 lver) ∧ a.cell? ⟨Q.block, Q.off + 2, none⟩ = some (.int .i64 lwr) ∧ a.cell? ⟨Q.block, Q.off + 3, none⟩ = some (.int .i64 lflow)) → Below w.heap.size a b → b.heap[w1.heap.size]? = a.heap[w1.heap.size]? → (Below w.heap.size w b ∧ b.cell? ⟨w1.heap.size, 0, none⟩ = some (.int .i64 peer) ∧ b.cell? ⟨w1.heap.size, 3, none⟩ = some (.slice (some adl) ln lc) ∧ b.cell? ⟨Q.block, Q.off + 1, none⟩ = some (.int .i64 lver) ∧ b.cell? ⟨Q.block, Q.off + 2, none⟩ = some (.int .i64 lwr) ∧ b.cell? ⟨Q.block, Q.off + 3, none⟩ = some (.int .i64 lflow)) := by
         rintro a b ⟨k0, k1, k2, k3, k4, k5⟩ hb he
         exact ⟨k0.trans hb, box_cell he k1, box_cell he k2, (hb.cell (p := ⟨Q.block, Q.off + 1, none⟩) habl).trans k3, (hb.cell (p := ⟨Q.block, Q.off + 2, none⟩) habl).trans k4, (hb.cell (p := ⟨Q.block, Q.off + 3, none⟩) habl).trans k5⟩
        have KT := Lib.hid kT
        have HI : Hid (Below w.heap.size w wr ∧ wr.cell? ⟨w1.heap.size, 0, none⟩ = some (.int .i64 peer) ∧ wr.cell? ⟨w1.heap.size, 3, none⟩ = some (.slice (some adl) ln lc) ∧ wr.cell? ⟨Q.block, Q.off + 1, none⟩ = some (.int .i64 lver) ∧ wr.cell? ⟨Q.block, Q.off + 2, none⟩ = some (.int .i64 lwr) ∧ wr.cell? ⟨Q.block, Q.off + 3, none⟩ = some (.int .i64 lflow)) := Lib.hid ⟨kb2, kc2_0, kc2_1, l1, l2, l3⟩
        have HZ1 : Hid (w1.heap.size < wr.heap.size ∧ w.heap.size ≤ w1.heap.size) := Lib.hid ⟨hz2, by omega⟩
        clear kS kT
        go_region_held3 (fun w' => Below w.heap.size w w' ∧ w'.cell? ⟨w1.heap.size, 0, none⟩ = some (.int .i64 peer) ∧ w'.cell? ⟨w1.heap.size, 3, none⟩ = some (.slice (some adl) ln lc) ∧ w'.cell? ⟨Q.block, Q.off + 1, none⟩ = some (.int .i64 lver) ∧ w'.cell? ⟨Q.block, Q.off + 2, none⟩ = some (.int .i64 lwr) ∧ w'.cell? ⟨Q.block, Q.off + 3, none⟩ = some (.int .i64 lflow)) (repeat (first | with_reducible assumption | with_reducible exact HI.out | (with_reducible refine KS.out _ _ ?_ ((Below.refl _ _).alloc (Nat.le_refl _) _)) | (with_reducible refine KS.out _ _ ?_ (Below.drew (Below.refl _ _))) | (with_reducible refine KS.out _ _ ?_ (by with_reducible assumption)))) (first | (refine step_app1H Bg.encL_len Bg.encL_one (by decide) rfl (.tmp 36) (.tmp 50) 229 232 rfl Tryz.underlying229 entry_inf rfl w.heap.size O2 A3 n3 c3 HN3.out rfl (by exact (HW2.out.below HB9.out).below ((Below.refl _ _).alloc (Nat.le_refl _) _)) w1.heap.size (by simp; omega) HNB.out ⟨w9.heap.size, 0, none⟩ 1 rfl (outL id peer ⟨lnm, lver, lwr, lflow⟩) (fun i u hu => by have h := ((LocX.fresh (enc := Bg.encL) w9 #[.int .i64 peer, .int .i64 (Rg.outR lver lwr lflow id peer)] 232 (outL id peer ⟨lnm, lver, lwr, lflow⟩) rfl).2 i u hu).1; rw [Addr.add_lit, Nat.zero_add]; exact h) (by simp) HB1.out.1 HB1.out.2 (by simp; omega) ?_; rintro O4 A4 n4 c4 w4 hO4 hn4 hown4 hb4 hbx4 hne4; have hS4 : Below w.heap.size w w4 ∧ w4.cell? ⟨w1.heap.size, 0, none⟩ = some (.int .i64 peer) ∧ w4.cell? ⟨w1.heap.size, 3, none⟩ = some (.slice (some adl) ln lc) ∧ w4.cell? ⟨Q.block, Q.off + 1, none⟩ = some (.int .i64 lver) ∧ w4.cell? ⟨Q.block, Q.off + 2, none⟩ = some (.int .i64 lwr) ∧ w4.cell? ⟨Q.block, Q.off + 3, none⟩ = some (.int .i64 lflow) := KT.out _ _ (by with_reducible assumption) hb4 hbx4; have HO4 := Lib.hid hO4; have HN4 := Lib.hid hn4; have HW4 := Lib.hid hown4; have HNE4 := Lib.hid hne4; clear hO4 hn4 hown4 hne4) | ((with_reducible refine (Rg.rout_any _ _ _ _ _ _).mono ?_); rintro e w9 ⟨rfl, hb9⟩; have hS9 : Below w.heap.size w w9 ∧ w9.cell? ⟨w1.heap.size, 0, none⟩ = some (.int .i64 peer) ∧ w9.cell? ⟨w1.heap.size, 3, none⟩ = some (.slice (some adl) ln lc) ∧ w9.cell? ⟨Q.block, Q.off + 1, none⟩ = some (.int .i64 lver) ∧ w9.cell? ⟨Q.block, Q.off + 2, none⟩ = some (.int .i64 lwr) ∧ w9.cell? ⟨Q.block, Q.off + 3, none⟩ = some (.int .i64 lflow) := KS.out _ _ (by with_reducible assumption) hb9; have HB9 : Hid (Below wr.heap.size wr w9) := Lib.hid ((Qb : Below wr.heap.size wr _).trans (hb9.mono (by first | (simp; done) | (simp; omega) | omega))); have hz9 : w1.heap.size < w9.heap.size := cell_lt hS9.2.1; have hz9b : wr.heap.size ≤ w9.heap.size := HB9.out.size))
        have HE4 : Hid (O4 = OL ++ outsH id nm ⟨peer, hboot, life, some adl, ln, lc, pend, miss, lines⟩ (lines.take (j + 1))) := Lib.hid (by rw [outsH_next HXL.out, HE.out, HO4.out, HO2.out]; simp)
        have kb4 := hS4.1
        have e40 := hS4.2.1
        have e43 := hS4.2.2.1
        go_wp2
        go_roundw
        case rel => exact ⟨j + 1, O4, A4, n4, c4, by omega, by go_num, rfl, HN4, HE4, HW4, HNE4, (Qk1 kb4)⟩
        case measure => simp [intOf]; omega
end Go.Proofs.YtkfodkbgmpbmfaaGreat
