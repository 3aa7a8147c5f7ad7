/- Chapter 22, parts on the way: Reg Num NumQ NumS StC -/
import Derived.Test.YtkfodkbgmpbmfaaGreatRows
import Derived.WalkKit
import Derived.WalkSpells
import Derived.WalkLawsBesides
import Derived.Deep.QuietTactic
import Derived.BigQuiet
import Derived.Lib.Hide
import Derived.Lib.Mul64
import Derived.Shelf.Spec.BitsCarry
import Derived.Laws.Bits64b
import Derived.Test.YtkfodkbgmpbmfaaGreatB01
import Derived.Test.YtkfodkbgmpbmfaaGreatB03
set_option linter.unusedVariables false
set_option linter.unusedSimpArgs false
namespace Go.Proofs.YtkfodkbgmpbmfaaGreat.Rg
open Go.RowKit

theorem bcell {W w1 : World} (hb : Below W.heap.size W w1) : (∀ b o, b < W.heap.size → w1.cell? ⟨b, o, none⟩ = W.cell? ⟨b, o, none⟩) ∧ (∀ b o, b < W.heap.size → w1.frozen? ⟨b, o, none⟩ = W.frozen? ⟨b, o, none⟩) :=
 ⟨fun b o h => hb.cell (p := ⟨b, o, none⟩) h, fun b o h => hb.frozen (p := ⟨b, o, none⟩) h⟩

def nodeB (a : Int) : Bool := decide (0 ≤ a) && decide (a < 16)
def flowsB (a : Int) : Bool := decide (-2147483647 ≤ a) && decide (a ≤ 2147483647)
def fitB (v wr f a b : Int) : Bool :=
 (nodeB a && nodeB b && !decide (a = b)) && ((decide (v = 0) && decide (wr = 0) && decide (f = 0)) || (decide (1 ≤ v) && decide (v ≤ 1099511627776) && (decide (wr = a) || decide (wr = b)) && flowsB f))
theorem flowsB_def {a : Int} : flowsB a = true ↔ -2147483647 ≤ a ∧ a ≤ 2147483647 := by simp [flowsB]

theorem node_any (a : Int) (w : World) :
    Calls Tryz.prog 199 #[.int .i64 a] w fun e w' => e = .returned (.bool (nodeB a)) ∧ w = w' := by
 go_enter Tryz.func199, Tryz.ntmps199
 go_wp2
 all_goals go_ret
 all_goals exact ⟨by simp [nodeB, *] <;> omega, rfl⟩
theorem rnode_any (a : Int) (w : World) :
    Calls Tryz.prog 178 #[.int .i64 a] w fun e w' => e = .returned (.bool (nodeB a)) ∧ w = w' := by
 go_enter Tryz.func178, Tryz.ntmps178
 go_wp2
 all_goals go_ret
 all_goals exact ⟨by simp [nodeB, *] <;> omega, rfl⟩
theorem flows_any (a : Int) (w : World) :
    Calls Tryz.prog 200 #[.int .i64 a] w fun e w' => e = .returned (.bool (flowsB a)) ∧ w = w' := by
 go_enter Tryz.func200, Tryz.ntmps200
 go_wp2
 all_goals go_ret
 all_goals exact ⟨by simp [flowsB, *] <;> omega, rfl⟩
set_option maxHeartbeats 1000000 in
theorem fit_any (v wr f a b : Int) (w : World) :
    Calls Tryz.prog 198 #[.agg #[.int .i64 v, .int .i64 wr, .int .i64 f], .int .i64 a, .int .i64 b] w fun e w' => e = .returned (.bool (fitB v wr f a b)) ∧ Below w.heap.size w w' := by
 go_enter Tryz.func198, Tryz.ntmps198
 go_wp2_with (first | (go_at_call 199; refine (node_any _ _).mono ?_; rintro e w' ⟨rfl, rfl⟩) | (go_at_call 200; refine (flows_any _ _).mono ?_; rintro e w' ⟨rfl, rfl⟩))
 all_goals go_ret
 all_goals exact ⟨by simp_all [fitB] <;> omega, (Below.refl _ _).alloc (Nat.le_refl _) _⟩
set_option maxHeartbeats 1000000 in
theorem rfit_any (v wr f a b : Int) (w : World) :
    Calls Tryz.prog 145 #[.agg #[.int .i64 v, .int .i64 wr, .int .i64 f], .int .i64 a, .int .i64 b] w fun e w' => e = .returned (.bool (fitB v wr f a b)) ∧ Below w.heap.size w w' := by
 go_enter Tryz.func145, Tryz.ntmps145
 go_wp2_with (first | (go_at_call 178; refine (rnode_any _ _).mono ?_; rintro e w' ⟨rfl, rfl⟩))
 all_goals go_ret
 all_goals exact ⟨by simp_all [fitB, flowsB] <;> omega, (Below.refl _ _).alloc (Nat.le_refl _) _⟩
theorem fitB_bd {v wr f a b : Int} (h : fitB v wr f a b = true) : 0 ≤ v ∧ v ≤ 1099511627776 ∧ -2147483647 ≤ f ∧ f ≤ 2147483647 := by
 simp [fitB, flowsB] at h; omega
def outR (v wr f me peer : Int) : Int := if fitB v wr f me peer then (if me < peer then f else -f) else 0
set_option maxHeartbeats 1000000 in
theorem out_any (v wr f a b : Int) (w : World) :
    Calls Tryz.prog 192 #[.agg #[.int .i64 v, .int .i64 wr, .int .i64 f], .int .i64 a, .int .i64 b] w fun e w' => e = .returned (.int .i64 (outR v wr f a b)) ∧ Below w.heap.size w w' := by
 by_cases h : fitB v wr f a b = true
 · obtain ⟨g1, g2, g3, g4⟩ := fitB_bd h
   by_cases h2 : a < b
   all_goals
    go_enter Tryz.func192, Tryz.ntmps192
    go_wp2_with (fail)
    refine (fit_any _ _ _ _ _ _).mono ?_; rintro e w1 ⟨rfl, hb1⟩; obtain ⟨hc1, hf1⟩ := bcell hb1; have hz1 := hb1.size; (try simp at hz1)
    go_wp2
    go_ret
    exact ⟨by first | (simp [outR, h, h2]; done) | (simp [outR, h]; intros; omega), (Qb1 hb1)⟩
 · go_enter Tryz.func192, Tryz.ntmps192
   go_wp2_with (fail)
   refine (fit_any _ _ _ _ _ _).mono ?_; rintro e w1 ⟨rfl, hb1⟩; obtain ⟨hc1, hf1⟩ := bcell hb1; have hz1 := hb1.size; (try simp at hz1)
   go_wp2
   go_ret
   exact ⟨by simp [outR, h], (Qb1 hb1)⟩
set_option maxHeartbeats 1000000 in
theorem agree_any (v wr f v2 wr2 f2 : Int) (w : World) :
    Calls Tryz.prog 49 #[.agg #[.int .i64 v, .int .i64 wr, .int .i64 f], .agg #[.int .i64 v2, .int .i64 wr2, .int .i64 f2]] w fun e w' => e = .returned (.bool (decide (v = v2) && decide (wr = wr2) && decide (f = f2))) ∧ Below w.heap.size w w' := by
 go_enter Tryz.func49, Tryz.ntmps49
 go_wp2
 all_goals go_ret
 all_goals exact ⟨by simp_all, Qb⟩
end Go.Proofs.YtkfodkbgmpbmfaaGreat.Rg
namespace Go.Proofs.YtkfodkbgmpbmfaaGreat.Rg
open Go.RowKit
def chk (a b x : Int) : Int × Int := if flowsB a && flowsB b && flowsB x then (x, 0) else (0, 10)
set_option maxHeartbeats 1000000 in
theorem nfits_any (a : Int) (w : World) :
    Calls Tryz.prog 169 #[.int .i64 a] w fun e w' => e = .returned (.bool (flowsB a)) ∧ w = w' := by
 go_enter Tryz.func169, Tryz.ntmps169
 go_wp2
 all_goals go_ret
 all_goals exact ⟨by simp [flowsB, *] <;> omega, rfl⟩
def addN (a b : Int) : Int × Int := chk a b (a + b)
def mulN (a b : Int) : Int × Int := chk a b (a * b)
structure W where
 hi : Int
 lo : Int
deriving DecidableEq
def Word (x : Int) : Prop := 0 ≤ x ∧ x < 18446744073709551616
def W.ok (a : W) : Prop := Word a.hi ∧ Word a.lo
theorem word_mod (x : Int) : Word (x % 18446744073709551616) := ⟨by omega, by omega⟩
def addH (a b : W) : Int := a.hi + b.hi + (a.lo + b.lo) / 18446744073709551616
def addW (a b : W) : W := ⟨addH a b % 18446744073709551616, (a.lo + b.lo) % 18446744073709551616⟩
def okW (a b : W) : Bool := decide (addH a b < 18446744073709551616)
def zeroW : W := ⟨0, 0⟩
theorem addW_ok (a b : W) : (addW a b).ok := ⟨word_mod _, word_mod _⟩
theorem zeroW_ok : zeroW.ok := ⟨⟨by decide, by decide⟩, ⟨by decide, by decide⟩⟩

theorem add64 (x y c : Int) (hx : 0 ≤ x) (hy : 0 ≤ y) (hc0 : 0 ≤ c) (hc : c ≤ 1) (w : World) : (callFunc 142 #[.int .u64 x, .int .u64 y, .int .u64 c]).run Tryz.prog w =
    .ok (.value (.tuple #[.int .u64 ((x + y + c) % 18446744073709551616), .int .u64 ((x + y + c) / 18446744073709551616)])) w := by
 rw [run_callFunc_extern Tryz.func142 (by kernel_rfl) (by kernel_rfl) (by kernel_rfl) (e := add64Entry) (by kernel_rfl), run_add64 x y c hx hy hc0 hc]
 rfl
theorem add64_0 (x y : Int) (hx : 0 ≤ x) (hy : 0 ≤ y) (w : World) : (callFunc 142 #[.int .u64 x, .int .u64 y, .int .u64 0]).run Tryz.prog w =
    .ok (.value (.tuple #[.int .u64 ((x + y) % 18446744073709551616), .int .u64 ((x + y) / 18446744073709551616)])) w := by
 simpa using add64 x y 0 hx hy (Int.le_refl 0) (by decide) w
set_option maxHeartbeats 1000000 in
theorem wadd_any (u1 v1 u2 v2 : Int) (w : World) (h1 : Word u1) (h2' : Word v1) (h3 : Word u2) (h4 : Word v2) :
    Calls Tryz.prog 102 #[.agg #[.int .u64 u1, .int .u64 v1], .agg #[.int .u64 u2, .int .u64 v2]] w fun e w' => e = .returned (.tuple #[.agg #[.int .u64 (addW ⟨u1, v1⟩ ⟨u2, v2⟩).hi, .int .u64 (addW ⟨u1, v1⟩ ⟨u2, v2⟩).lo], .bool (okW ⟨u1, v1⟩ ⟨u2, v2⟩)]) ∧ Below w.heap.size w w' := by
 obtain ⟨a1, a2⟩ := h1; obtain ⟨b1, b2⟩ := h2'; obtain ⟨c1, c2⟩ := h3; obtain ⟨d1, d2⟩ := h4
 have k0 : 0 ≤ (v1 + v2) / 18446744073709551616 := by omega
 have k1 : (v1 + v2) / 18446744073709551616 ≤ 1 := by omega
 go_enter Tryz.func102, Tryz.ntmps102
 go_wp2_with (first | simp only [add64_0 v1 v2 b1 d1] | simp only [add64 u1 u2 _ a1 c1 k0 k1])
 refine bodyPost_ret (v := .tuple #[.agg #[.int .u64 (addW ⟨u1, v1⟩ ⟨u2, v2⟩).hi, .int .u64 (addW ⟨u1, v1⟩ ⟨u2, v2⟩).lo], .bool (okW ⟨u1, v1⟩ ⟨u2, v2⟩)]) ?_ rfl ⟨rfl, Qb⟩
 have e1 : ((u1 + u2 + (v1 + v2) / 18446744073709551616) / 18446744073709551616 == 0) = okW ⟨u1, v1⟩ ⟨u2, v2⟩ := by unfold okW addH; rw [Bool.eq_iff_iff]; simp; omega
 simp [results, Tryz.results102, go_sem, addW, addH] <;> simpa using e1
namespace Mul64
theorem maskN (a : Nat) (ha : a < 18446744073709551616) : bits .and .u64 (a : Int) 4294967295 = ((a % 4294967296 : Nat) : Int) := by
 have u1 := bits_and_u64_nat a 4294967295 ha (by omega)
 have e : a &&& 4294967295 = a % 4294967296 := Nat.and_two_pow_sub_one_eq_mod a 32
 rw [e] at u1
 exact u1
theorem divN (a : Nat) : (a : Int) / 4294967296 = ((a / 4294967296 : Nat) : Int) := by omega
theorem mulN (a b : Nat) : (a : Int) * (b : Int) = ((a * b : Nat) : Int) := (Int.natCast_mul a b).symm
theorem addN (a b : Nat) : (a : Int) + (b : Int) = ((a + b : Nat) : Int) := (Int.natCast_add a b).symm
theorem wrapN (a : Nat) (ha : a < 18446744073709551616) : IntKind.u64.wrap (a : Int) = (a : Int) := by rw [IntKind.wrap_u64]; omega
theorem wrapM (a : Nat) : IntKind.u64.wrap (a : Int) = ((a % 18446744073709551616 : Nat) : Int) := by rw [IntKind.wrap_u64]; omega
end Mul64
set_option maxHeartbeats 1000000 in
theorem mul64_any (x y : Nat) (w : World) (hx : x < 18446744073709551616) (hy : y < 18446744073709551616) :
    Calls Tryz.prog 101 #[.int .u64 x, .int .u64 y] w fun e w' => e = .returned (.tuple #[.int .u64 ((x * y / 18446744073709551616 : Nat) : Int), .int .u64 ((x * y % 18446744073709551616 : Nat) : Int)]) ∧ w = w' := by
 obtain ⟨bd, bt, bw, hhi⟩ := Lib.mul64_hi x y hx hy
 have ba := Lib.half_mul_le (a := x / 4294967296) (b := y / 4294967296) (by omega) (by omega)
 have bb := Lib.half_mul_le (a := x / 4294967296) (b := y % 4294967296) (by omega) (by omega)
 have bc := Lib.half_mul_le (a := x % 4294967296) (b := y / 4294967296) (by omega) (by omega)
 have ba' : x / 4294967296 * (y / 4294967296) < 18446744073709551616 := by omega
 have bb' : x / 4294967296 * (y % 4294967296) < 18446744073709551616 := by omega
 have bc' : x % 4294967296 * (y / 4294967296) < 18446744073709551616 := by omega
 have bh1 : x / 4294967296 * (y / 4294967296) + (x / 4294967296 * (y % 4294967296) + x % 4294967296 * (y % 4294967296) / 4294967296) / 4294967296 < 18446744073709551616 := by omega
 have bh : x / 4294967296 * (y / 4294967296) + (x / 4294967296 * (y % 4294967296) + x % 4294967296 * (y % 4294967296) / 4294967296) / 4294967296 + ((x / 4294967296 * (y % 4294967296) + x % 4294967296 * (y % 4294967296) / 4294967296) % 4294967296 + x % 4294967296 * (y / 4294967296)) / 4294967296 < 18446744073709551616 := by omega
 go_enter Tryz.func101, Tryz.ntmps101
 go_wp2
 simp only [Mul64.maskN x hx, Mul64.maskN y hy, Mul64.divN, Mul64.mulN, Mul64.addN, Mul64.wrapN _ bd, Mul64.wrapN _ bb', Mul64.wrapN _ bt, Mul64.maskN _ bt, Mul64.wrapN _ bc', Mul64.wrapN _ bw, Mul64.wrapN _ ba', Mul64.wrapN _ bh1, Mul64.wrapN _ bh, Mul64.wrapM (x * y)]
 rw [hhi]
 go_ret2
 exact ⟨rfl, rfl⟩
end Go.Proofs.YtkfodkbgmpbmfaaGreat.Rg
namespace Go.Proofs.YtkfodkbgmpbmfaaGreat.Rg
open Go.RowKit
def wideN (n : Nat) : W := ⟨((n / 18446744073709551616 : Nat) : Int), ((n % 18446744073709551616 : Nat) : Int)⟩
end Go.Proofs.YtkfodkbgmpbmfaaGreat.Rg
namespace Go.Proofs.YtkfodkbgmpbmfaaGreat.Rg
open Go.RowKit
def sqOne (x : Int) : W := wideN (x.natAbs * x.natAbs)
def sqL (xs : List Int) : W := xs.foldl (fun s x => addW s (sqOne x)) zeroW
theorem sqL_ok (xs : List Int) : (sqL xs).ok := by
 unfold sqL
 rcases List.eq_nil_or_concat xs with rfl | ⟨ys, y, rfl⟩
 · exact zeroW_ok
 · rw [List.concat_eq_append, List.foldl_append]; exact addW_ok _ _
theorem sqL_snoc (xs : List Int) (k : Nat) (h : k < xs.length) : sqL (xs.take (k + 1)) = addW (sqL (xs.take k)) (sqOne xs[k]) := by
 unfold sqL
 rw [List.take_succ_eq_append_getElem h, List.foldl_append]
 rfl
theorem wideN_ok (n : Nat) (h : n < 18446744073709551616 * 18446744073709551616) : (wideN n).ok := ⟨⟨by simp only [wideN]; omega, by simp only [wideN]; omega⟩, ⟨by simp only [wideN]; omega, by simp only [wideN]; omega⟩⟩
theorem sqOne_ok {x : Int} (h0 : -9223372036854775808 ≤ x) (h1 : x < 9223372036854775808) : (sqOne x).ok :=
 wideN_ok _ (Nat.mul_lt_mul'' (by omega) (by omega))
def i64s (xs : List Int) : Prop := ∀ x ∈ xs, -9223372036854775808 ≤ x ∧ x < 9223372036854775808
theorem uneg {x : Int} (h0 : -9223372036854775808 ≤ x) (h1 : x < 0) : IntKind.u64.wrap (-IntKind.u64.wrap x) = (x.natAbs : Int) := by
 simp only [IntKind.wrap_u64]; omega

theorem sqmul {x : Int} (h0 : -9223372036854775808 ≤ x) (h1 : x < 9223372036854775808) (w : World) :
    Calls Tryz.prog 101 #[.int .u64 (x.natAbs : Int), .int .u64 (x.natAbs : Int)] w fun e w' => e = .returned (.tuple #[.int .u64 (sqOne x).hi, .int .u64 (sqOne x).lo]) ∧ w = w' :=
 mul64_any x.natAbs x.natAbs w (by omega) (by omega)
set_option maxHeartbeats 1000000 in
theorem squares_any (A : Option Addr) (n c : Nat) (xs : List Int) (w : World) (hn : xs.length = n) (hr : Reads w w.heap.size 1 A n (xs.map (Value.int .i64))) (hb : i64s xs) (hm : n ≤ maxLen) :
    Calls Tryz.prog 67 #[.slice A n c] w fun e w' => e = .returned (.agg #[.int .u64 (sqL xs).hi, .int .u64 (sqL xs).lo]) ∧ Below w.heap.size w w' := by
 unfold maxLen at hm
 subst hn
 go_enter Tryz.func67, Tryz.ntmps67
 go_wp2
 go_loopw [11] (fun i w' => ∃ k : Nat, k ≤ xs.length ∧ i = .int .i64 k ∧ KeptC w [(⟨w.heap.size, 0, none⟩, .int .u64 0), (⟨w.heap.size, 1, none⟩, .int .u64 0), (⟨w.heap.size + 1, 0, none⟩, .int .u64 (sqL (xs.take k)).hi), (⟨w.heap.size + 1, 1, none⟩, .int .u64 (sqL (xs.take k)).lo)] [⟨w.heap.size, 0, none⟩, ⟨w.heap.size, 1, none⟩, ⟨w.heap.size + 1, 0, none⟩, ⟨w.heap.size + 1, 1, none⟩] w') (fun i _ => xs.length - (intOf i).toNat)
 case atStart => exact ⟨0, Nat.zero_le _, rfl, by rw [show sqL (xs.take 0) = ⟨0, 0⟩ from rfl]; exact Qk⟩
 case round =>
  obtain ⟨k, hk, rfl, hK⟩ := hrel
  simp only [KeptC, List.forall_mem_cons] at hK; obtain ⟨kb0, ⟨kc0_0, kc0_1, kc0_2, kc0_3, _⟩, ⟨kz0_0, kg0_0⟩, ⟨kz0_1, kg0_1⟩, ⟨kz0_2, kg0_2⟩, ⟨kz0_3, kg0_3⟩, _⟩ := hK
  have hr' := hr.below kb0
  by_cases hlt : k < xs.length
  · have HS := Lib.hid (sqL_snoc xs k hlt)
    obtain ⟨ad, u, rfl, hab, hx, hc⟩ := hr'.at_ hlt
    obtain rfl : Value.int .i64 xs[k] = u := by simpa [List.getElem?_eq_getElem hlt] using hx
    obtain ⟨b0, b1⟩ := hb xs[k] (List.getElem_mem hlt)
    have ok1 := sqL_ok (xs.take k)
    have ok2 := sqOne_ok b0 b1
    have cm := sqmul b0 b1
    clear hx hr hr'
    generalize xs[k] = x at *
    generalize sqL (xs.take k) = s at *
    generalize sqOne x = q at *
    obtain ⟨sh, sl⟩ := s
    obtain ⟨qh, ql⟩ := q
    have ca := fun w => wadd_any sh sl qh ql w ok1.1 ok1.2 ok2.1 ok2.2
    generalize addW ⟨sh, sl⟩ ⟨qh, ql⟩ = r at *
    generalize okW ⟨sh, sl⟩ ⟨qh, ql⟩ = b at *
    obtain ⟨rh, rl⟩ := r
    have CA := Lib.hid ca
    clear ca ok1 ok2
    have hm' : ∃ m : Int, Hid (∀ w : World, Calls Tryz.prog 101 #[.int .u64 m, .int .u64 m] w fun e w' => e = .returned (.tuple #[.int .u64 qh, .int .u64 ql]) ∧ w = w') ∧ ((x < 0 ∧ m = IntKind.u64.wrap (-IntKind.u64.wrap x)) ∨ (0 ≤ x ∧ m = x)) := by
     by_cases hneg : x < 0
     · exact ⟨_, Lib.hid (by rw [← uneg b0 hneg] at cm; exact cm), .inl ⟨hneg, rfl⟩⟩
     · exact ⟨_, Lib.hid (by rw [show (x.natAbs : Int) = x by omega] at cm; exact cm), .inr ⟨by omega, rfl⟩⟩
    clear cm
    rcases hm' with ⟨m, CM, ⟨hneg, rfl⟩ | ⟨hneg, rfl⟩⟩
    all_goals
     go_wp2_with (fail)
     refine (CM.out _).mono ?_; rintro e w2 ⟨rfl, rfl⟩
     go_wp2_with (fail)
     refine (CA.out _).mono ?_; rintro e w1 ⟨rfl, hb1⟩; obtain ⟨hc1, hf1⟩ := bcell hb1; have hz1 := hb1.size; (try simp at hz1); have hz1_0 : w.heap.size < w1.heap.size := (by omega); have hz1_1 : w.heap.size + 1 < w1.heap.size := (by omega)
     go_wp2
     go_roundw
     case rel => exact ⟨k + 1, by omega, by go_num, by rw [HS.out]; exact (Qk2 hb1 kb0)⟩
     case measure => simp [intOf]; omega
  · have hke : k = xs.length := by omega
    subst hke
    rw [List.take_length] at *
    generalize hs : sqL xs = s at *
    obtain ⟨sh, sl⟩ := s
    have HX := Lib.hid hs
    clear hr hr' hs
    go_wp2
    refine bodyPost_ret (v := .agg #[.int .u64 sh, .int .u64 sl]) (by simp [results, Tryz.results67, go_sem, *]) rfl ⟨by rw [HX.out], (Qb1 kb0)⟩
end Go.Proofs.YtkfodkbgmpbmfaaGreat.Rg
namespace Go.Proofs.YtkfodkbgmpbmfaaGreat
open Go.RowKit
set_option linter.unusedVariables false
theorem st16_cells {W : World} {b : Nat} {x : St} (h : st16 W ⟨b, 0, none⟩ x) : ∀ j u, (stV x)[j]? = some u → W.cell? ⟨b, j, none⟩ = some u := by
 intro j u hu
 have hj : j < 16 := by have := (List.getElem?_eq_some_iff.1 hu).1; rwa [stV_len] at this
 obtain ⟨h0, h1, h2, h3, h4, h5, h6, h7, h8, h9, h10, h11, h12, h13, h14, h15⟩ := h
 match j, hj with
 | 0, _ => cases hu; exact h0
 | 1, _ => cases hu; exact h1
 | 2, _ => cases hu; exact h2
 | 3, _ => cases hu; exact h3
 | 4, _ => cases hu; exact h4
 | 5, _ => cases hu; exact h5
 | 6, _ => cases hu; exact h6
 | 7, _ => cases hu; exact h7
 | 8, _ => cases hu; exact h8
 | 9, _ => cases hu; exact h9
 | 10, _ => cases hu; exact h10
 | 11, _ => cases hu; exact h11
 | 12, _ => cases hu; exact h12
 | 13, _ => cases hu; exact h13
 | 14, _ => cases hu; exact h14
 | 15, _ => cases hu; exact h15
theorem st16_from {W : World} {b : Nat} {x : St} (h : ∀ j u, (stV x)[j]? = some u → W.cell? ⟨b, j, none⟩ = some u) : st16 W ⟨b, 0, none⟩ x :=
 ⟨h 0 _ rfl, h 1 _ rfl, h 2 _ rfl, h 3 _ rfl, h 4 _ rfl, h 5 _ rfl, h 6 _ rfl, h 7 _ rfl, h 8 _ rfl, h 9 _ rfl, h 10 _ rfl, h 11 _ rfl, h 12 _ rfl, h 13 _ rfl, h 14 _ rfl, h 15 _ rfl⟩
theorem st16_one {W : World} {b i : Nat} {x x' : St} {v : Value} (h : st16 W ⟨b, 0, none⟩ x) (hx : stV x' = (stV x).set i v) : st16 (W.setCell ⟨b, i, none⟩ v) ⟨b, 0, none⟩ x' := by
 have hc := st16_cells h
 refine st16_from fun j u hu => ?_
 have hj : j < (stV x).length := by have := (List.getElem?_eq_some_iff.1 hu).1; rwa [stV_len] at this
 rw [hx] at hu
 by_cases e : j = i
 · subst e
   rw [List.getElem?_set_self hj] at hu
   cases hu
   exact World.cell?_setCell_same _ _ _ (hc j _ (List.getElem?_eq_getElem hj))
 · rw [List.getElem?_set_ne (Ne.symm e)] at hu
   rw [World.cell?_setCell_other]
   · exact hc j u hu
   · intro e3
     have := congrArg Addr.off e3
     simp only [] at this
     omega
theorem st16_put (W : World) (b : Nat) (x y : St) (h : st16 W ⟨b, 0, none⟩ x) : st16 ((((((((((((((((W.setCell ⟨b, 0, none⟩ (.string y.ch.name)).setCell ⟨b, 1, none⟩ (.int .i64 y.ch.ep)).setCell ⟨b, 2, none⟩ (.int .i64 y.ch.who)).setCell ⟨b, 3, none⟩ (.bool y.ch.al)).setCell ⟨b, 4, none⟩ (.int .i64 y.ch.kd)).setCell ⟨b, 5, none⟩ (.int .i64 y.ch.sc)).setCell ⟨b, 6, none⟩ (.bool y.has)).setCell ⟨b, 7, none⟩ (.int .i64 y.inp)).setCell ⟨b, 8, none⟩ (.bool y.mn.has)).setCell ⟨b, 9, none⟩ (.int .i64 y.mn.val)).setCell ⟨b, 10, none⟩ (.int .i64 y.mn.org)).setCell ⟨b, 11, none⟩ (.int .i64 y.mn.age)).setCell ⟨b, 12, none⟩ (.bool y.mx.has)).setCell ⟨b, 13, none⟩ (.int .i64 y.mx.val)).setCell ⟨b, 14, none⟩ (.int .i64 y.mx.org)).setCell ⟨b, 15, none⟩ (.int .i64 y.mx.age)) ⟨b, 0, none⟩ y := by
 have h1 := st16_one (i := 0) (v := .string y.ch.name) (x' := ⟨⟨y.ch.name, x.ch.ep, x.ch.who, x.ch.al, x.ch.kd, x.ch.sc⟩, x.has, x.inp, ⟨x.mn.has, x.mn.val, x.mn.org, x.mn.age⟩, ⟨x.mx.has, x.mx.val, x.mx.org, x.mx.age⟩⟩) h rfl
 have h2 := st16_one (i := 1) (v := .int .i64 y.ch.ep) (x' := ⟨⟨y.ch.name, y.ch.ep, x.ch.who, x.ch.al, x.ch.kd, x.ch.sc⟩, x.has, x.inp, ⟨x.mn.has, x.mn.val, x.mn.org, x.mn.age⟩, ⟨x.mx.has, x.mx.val, x.mx.org, x.mx.age⟩⟩) h1 rfl
 have h3 := st16_one (i := 2) (v := .int .i64 y.ch.who) (x' := ⟨⟨y.ch.name, y.ch.ep, y.ch.who, x.ch.al, x.ch.kd, x.ch.sc⟩, x.has, x.inp, ⟨x.mn.has, x.mn.val, x.mn.org, x.mn.age⟩, ⟨x.mx.has, x.mx.val, x.mx.org, x.mx.age⟩⟩) h2 rfl
 have h4 := st16_one (i := 3) (v := .bool y.ch.al) (x' := ⟨⟨y.ch.name, y.ch.ep, y.ch.who, y.ch.al, x.ch.kd, x.ch.sc⟩, x.has, x.inp, ⟨x.mn.has, x.mn.val, x.mn.org, x.mn.age⟩, ⟨x.mx.has, x.mx.val, x.mx.org, x.mx.age⟩⟩) h3 rfl
 have h5 := st16_one (i := 4) (v := .int .i64 y.ch.kd) (x' := ⟨⟨y.ch.name, y.ch.ep, y.ch.who, y.ch.al, y.ch.kd, x.ch.sc⟩, x.has, x.inp, ⟨x.mn.has, x.mn.val, x.mn.org, x.mn.age⟩, ⟨x.mx.has, x.mx.val, x.mx.org, x.mx.age⟩⟩) h4 rfl
 have h6 := st16_one (i := 5) (v := .int .i64 y.ch.sc) (x' := ⟨⟨y.ch.name, y.ch.ep, y.ch.who, y.ch.al, y.ch.kd, y.ch.sc⟩, x.has, x.inp, ⟨x.mn.has, x.mn.val, x.mn.org, x.mn.age⟩, ⟨x.mx.has, x.mx.val, x.mx.org, x.mx.age⟩⟩) h5 rfl
 have h7 := st16_one (i := 6) (v := .bool y.has) (x' := ⟨⟨y.ch.name, y.ch.ep, y.ch.who, y.ch.al, y.ch.kd, y.ch.sc⟩, y.has, x.inp, ⟨x.mn.has, x.mn.val, x.mn.org, x.mn.age⟩, ⟨x.mx.has, x.mx.val, x.mx.org, x.mx.age⟩⟩) h6 rfl
 have h8 := st16_one (i := 7) (v := .int .i64 y.inp) (x' := ⟨⟨y.ch.name, y.ch.ep, y.ch.who, y.ch.al, y.ch.kd, y.ch.sc⟩, y.has, y.inp, ⟨x.mn.has, x.mn.val, x.mn.org, x.mn.age⟩, ⟨x.mx.has, x.mx.val, x.mx.org, x.mx.age⟩⟩) h7 rfl
 have h9 := st16_one (i := 8) (v := .bool y.mn.has) (x' := ⟨⟨y.ch.name, y.ch.ep, y.ch.who, y.ch.al, y.ch.kd, y.ch.sc⟩, y.has, y.inp, ⟨y.mn.has, x.mn.val, x.mn.org, x.mn.age⟩, ⟨x.mx.has, x.mx.val, x.mx.org, x.mx.age⟩⟩) h8 rfl
 have h10 := st16_one (i := 9) (v := .int .i64 y.mn.val) (x' := ⟨⟨y.ch.name, y.ch.ep, y.ch.who, y.ch.al, y.ch.kd, y.ch.sc⟩, y.has, y.inp, ⟨y.mn.has, y.mn.val, x.mn.org, x.mn.age⟩, ⟨x.mx.has, x.mx.val, x.mx.org, x.mx.age⟩⟩) h9 rfl
 have h11 := st16_one (i := 10) (v := .int .i64 y.mn.org) (x' := ⟨⟨y.ch.name, y.ch.ep, y.ch.who, y.ch.al, y.ch.kd, y.ch.sc⟩, y.has, y.inp, ⟨y.mn.has, y.mn.val, y.mn.org, x.mn.age⟩, ⟨x.mx.has, x.mx.val, x.mx.org, x.mx.age⟩⟩) h10 rfl
 have h12 := st16_one (i := 11) (v := .int .i64 y.mn.age) (x' := ⟨⟨y.ch.name, y.ch.ep, y.ch.who, y.ch.al, y.ch.kd, y.ch.sc⟩, y.has, y.inp, ⟨y.mn.has, y.mn.val, y.mn.org, y.mn.age⟩, ⟨x.mx.has, x.mx.val, x.mx.org, x.mx.age⟩⟩) h11 rfl
 have h13 := st16_one (i := 12) (v := .bool y.mx.has) (x' := ⟨⟨y.ch.name, y.ch.ep, y.ch.who, y.ch.al, y.ch.kd, y.ch.sc⟩, y.has, y.inp, ⟨y.mn.has, y.mn.val, y.mn.org, y.mn.age⟩, ⟨y.mx.has, x.mx.val, x.mx.org, x.mx.age⟩⟩) h12 rfl
 have h14 := st16_one (i := 13) (v := .int .i64 y.mx.val) (x' := ⟨⟨y.ch.name, y.ch.ep, y.ch.who, y.ch.al, y.ch.kd, y.ch.sc⟩, y.has, y.inp, ⟨y.mn.has, y.mn.val, y.mn.org, y.mn.age⟩, ⟨y.mx.has, y.mx.val, x.mx.org, x.mx.age⟩⟩) h13 rfl
 have h15 := st16_one (i := 14) (v := .int .i64 y.mx.org) (x' := ⟨⟨y.ch.name, y.ch.ep, y.ch.who, y.ch.al, y.ch.kd, y.ch.sc⟩, y.has, y.inp, ⟨y.mn.has, y.mn.val, y.mn.org, y.mn.age⟩, ⟨y.mx.has, y.mx.val, y.mx.org, x.mx.age⟩⟩) h14 rfl
 have h16 := st16_one (i := 15) (v := .int .i64 y.mx.age) (x' := ⟨⟨y.ch.name, y.ch.ep, y.ch.who, y.ch.al, y.ch.kd, y.ch.sc⟩, y.has, y.inp, ⟨y.mn.has, y.mn.val, y.mn.org, y.mn.age⟩, ⟨y.mx.has, y.mx.val, y.mx.org, y.mx.age⟩⟩) h15 rfl
 exact h16
theorem lay_ret {Q : Exit → Act → World → Prop} {e : Exit} {a : Act} {W : World} (C : World → Prop) (hC : C W) (h : ∀ W', C W' → Q e a W') : Q e a W := h W hC
end Go.Proofs.YtkfodkbgmpbmfaaGreat
