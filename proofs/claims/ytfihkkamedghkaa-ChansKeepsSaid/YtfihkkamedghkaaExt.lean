/- The functions of layer 16 (ext) and of its reference: what each call computes. -/
import Derived.Test.YtfihkkamedghkaaQuiet
import Derived.Test.YtfihkkamedghkaaRows
import Derived.WalkKit
import Derived.WalkSpells
import Derived.WalkLawsBesides
import Derived.Deep.QuietTactic
import Derived.BigQuiet
import Derived.Deep.RegionHeld3
import Derived.Laws.EntriesVeiled
import Derived.Lib.Hide
import Derived.Outline
import Derived.Test.YtfihkkamedghkaaDir
namespace Go.Proofs.Ytfihkkamedghkaa
open Go.RowKit Go.BigFrame

/-- An extreme value. -/
structure E where
  has : Bool
  val : Int
  org : Int
  age : Int
deriving DecidableEq
@[reducible] def E0 : E := ⟨false, 0, 0, 0⟩
def flowB (x : Int) : Bool := decide (-2147483647 ≤ x) && decide (x ≤ 2147483647)
theorem flowB_def {a : Int} : flowB a = true ↔ -2147483647 ≤ a ∧ a ≤ 2147483647 := by simp [flowB]
def efitB (h : Bool) (v o a : Int) : Bool :=
  if h then flowB v && decide (0 ≤ o) && decide (o < 16) && decide (0 ≤ a) && decide (a < 64) else decide (v = 0) && decide (o = 0) && decide (a = 0)
def cmpI (a b : Int) : Int := if a < b then -1 else if b < a then 1 else 0

theorem compare64_any (a b : Int) (w : World) : Calls Try.prog 109 #[.int .i64 a, .int .i64 b] w fun e w' => e = .returned (.int .i64 (cmpI a b)) ∧ w = w' := by
  by_cases h1 : a < b
  · go_enter Try.func109, Try.ntmps109
    go_wp2
    go_ret
    exact ⟨by simp [cmpI, h1], rfl⟩
  · by_cases h2 : b < a
    all_goals
      go_enter Try.func109, Try.ntmps109
      go_wp2
      go_ret
      exact ⟨congrArg (fun x => Ending.returned (Value.int .i64 x)) (by first | (simp [cmpI, h1, h2]; done) | (simp only [cmpI]; rw [if_neg (by omega), if_neg (by omega)])), rfl⟩
theorem compareInt_any (a b : Int) (w : World) : Calls Try.prog 110 #[.int .i64 a, .int .i64 b] w fun e w' => e = .returned (.int .i64 (cmpI a b)) ∧ w = w' := by
  by_cases h1 : a < b
  · go_enter Try.func110, Try.ntmps110
    go_wp2
    go_ret
    exact ⟨by simp [cmpI, h1], rfl⟩
  · by_cases h2 : b < a
    all_goals
      go_enter Try.func110, Try.ntmps110
      go_wp2
      go_ret
      exact ⟨congrArg (fun x => Ending.returned (Value.int .i64 x)) (by first | (simp [cmpI, h1, h2]; done) | (simp only [cmpI]; rw [if_neg (by omega), if_neg (by omega)])), rfl⟩
def or3 (x y z : Int) : Int := if x ≠ 0 then x else if y ≠ 0 then y else z
set_option maxHeartbeats 1000000 in
theorem or_1 (x : Int) (b c : Nat) (w : World) (h0 : w.cell? ⟨b, 0, none⟩ = some (.int .i64 x)) (hx : (x != 0) = true) :
    Calls Try.prog 108 #[.slice (some ⟨b, 0, none⟩) 3 c] w fun e w' => e = .returned (.int .i64 x) ∧ w = w' := by
  go_enter Try.func108, Try.ntmps108
  go_wp2
  refine wp_loop_rounds 1 ?_
  rw [rounds_succ]
  go_wp2
  go_ret
  exact ⟨rfl, rfl⟩
set_option maxHeartbeats 1000000 in
theorem or_2 (y : Int) (b c : Nat) (w : World) (h0 : w.cell? ⟨b, 0, none⟩ = some (.int .i64 0)) (h1 : w.cell? ⟨b, 1, none⟩ = some (.int .i64 y)) (hy : (y != 0) = true) :
    Calls Try.prog 108 #[.slice (some ⟨b, 0, none⟩) 3 c] w fun e w' => e = .returned (.int .i64 y) ∧ w = w' := by
  go_enter Try.func108, Try.ntmps108
  go_wp2
  refine wp_loop_rounds 2 ?_
  rw [rounds_succ]
  go_wp2
  rw [rounds_succ]
  go_wp2
  go_ret
  exact ⟨rfl, rfl⟩
set_option maxHeartbeats 1000000 in
theorem or_3 (z : Int) (b c : Nat) (w : World) (h0 : w.cell? ⟨b, 0, none⟩ = some (.int .i64 0)) (h1 : w.cell? ⟨b, 1, none⟩ = some (.int .i64 0)) (h2 : w.cell? ⟨b, 2, none⟩ = some (.int .i64 z)) (hz : (z != 0) = true) :
    Calls Try.prog 108 #[.slice (some ⟨b, 0, none⟩) 3 c] w fun e w' => e = .returned (.int .i64 z) ∧ w = w' := by
  go_enter Try.func108, Try.ntmps108
  go_wp2
  refine wp_loop_rounds 3 ?_
  rw [rounds_succ]
  go_wp2
  rw [rounds_succ]
  go_wp2
  rw [rounds_succ]
  go_wp2
  go_ret
  exact ⟨rfl, rfl⟩
set_option maxHeartbeats 1000000 in
theorem or_4 (b c : Nat) (w : World) (h0 : w.cell? ⟨b, 0, none⟩ = some (.int .i64 0)) (h1 : w.cell? ⟨b, 1, none⟩ = some (.int .i64 0)) (h2 : w.cell? ⟨b, 2, none⟩ = some (.int .i64 0)) :
    Calls Try.prog 108 #[.slice (some ⟨b, 0, none⟩) 3 c] w fun e w' => e = .returned (.int .i64 0) ∧ w = w' := by
  go_enter Try.func108, Try.ntmps108
  go_wp2
  refine wp_loop_rounds 4 ?_
  rw [rounds_succ]
  go_wp2
  rw [rounds_succ]
  go_wp2
  rw [rounds_succ]
  go_wp2
  rw [rounds_succ]
  go_wp2
  go_ret
  exact ⟨rfl, rfl⟩
theorem or_any (x y z : Int) (b c : Nat) (w : World) (h0 : w.cell? ⟨b, 0, none⟩ = some (.int .i64 x)) (h1 : w.cell? ⟨b, 1, none⟩ = some (.int .i64 y)) (h2 : w.cell? ⟨b, 2, none⟩ = some (.int .i64 z)) :
    Calls Try.prog 108 #[.slice (some ⟨b, 0, none⟩) 3 c] w fun e w' => e = .returned (.int .i64 (or3 x y z)) ∧ w = w' := by
  by_cases hx : x = 0
  · subst hx
    by_cases hy : y = 0
    · subst hy
      by_cases hz : z = 0
      · subst hz; exact or_4 b c w h0 h1 h2
      · simpa [or3] using or_3 z b c w h0 h1 h2 (by simpa using hz)
    · simpa [or3, hy] using or_2 y b c w h0 h1 (by simpa using hy)
  · simpa [or3, hx] using or_1 x b c w h0 (by simpa using hx)

theorem compare64_b (a b : Int) (w : World) : Calls Try.prog 109 #[.int .i64 a, .int .i64 b] w fun e w' => e = .returned (.int .i64 (cmpI a b)) ∧ Below w.heap.size w w' :=
  (compare64_any a b w).mono fun e w' ⟨h, hw⟩ => ⟨h, by rw [← hw]; exact Below.refl _ _⟩
theorem compareInt_b (a b : Int) (w : World) : Calls Try.prog 110 #[.int .i64 a, .int .i64 b] w fun e w' => e = .returned (.int .i64 (cmpI a b)) ∧ Below w.heap.size w w' :=
  (compareInt_any a b w).mono fun e w' ⟨h, hw⟩ => ⟨h, by rw [← hw]; exact Below.refl _ _⟩
theorem or_b (x y z : Int) (c : Nat) (w : World) (b : Nat) (hb : b = w.heap.size) :
    Calls Try.prog 108 #[.slice (some ⟨b, 0, none⟩) 3 c] (w.alloc (.cells #[.int .i64 x, .int .i64 y, .int .i64 z] 3)) fun e w' => e = .returned (.int .i64 (or3 x y z)) ∧ Below (w.alloc (.cells #[.int .i64 x, .int .i64 y, .int .i64 z] 3)).heap.size (w.alloc (.cells #[.int .i64 x, .int .i64 y, .int .i64 z] 3)) w' :=
  (or_any x y z b c _ (by subst hb; go_simp) (by subst hb; go_simp) (by subst hb; go_simp)).mono fun e w' ⟨h, hw⟩ => ⟨h, by rw [← hw]; exact Below.refl _ _⟩

theorem keyLeast_any (h : Bool) (v o a : Int) (w : World) :
    Calls Try.prog 101 #[.agg #[.bool h, .int .i64 v, .int .i64 o, .int .i64 a]] w fun e w' => e = .returned (.int .i64 v) ∧ Below w.heap.size w w' := by
  go_enter Try.func101, Try.ntmps101
  go_wp2
  go_ret
  exact ⟨rfl, (by repeat (first | with_reducible refine Below.setCell ?_ (by first | (simp; done) | (simp; omega) | omega) _ | with_reducible refine Below.alloc ?_ (by first | (simp; done) | (simp; omega) | omega) _ | with_reducible refine Below.drew ?_ | with_reducible refine below_drewN ?_ _ | with_reducible exact Below.refl _ _))⟩
theorem keyGreatest_any (h : Bool) (v o a : Int) (hv : -9223372036854775807 ≤ v) (hv2 : v ≤ 9223372036854775807) (w : World) :
    Calls Try.prog 102 #[.agg #[.bool h, .int .i64 v, .int .i64 o, .int .i64 a]] w fun e w' => e = .returned (.int .i64 (-v)) ∧ Below w.heap.size w w' := by
  go_enter Try.func102, Try.ntmps102
  go_wp2
  go_ret
  exact ⟨rfl, (by repeat (first | with_reducible refine Below.setCell ?_ (by first | (simp; done) | (simp; omega) | omega) _ | with_reducible refine Below.alloc ?_ (by first | (simp; done) | (simp; omega) | omega) _ | with_reducible refine Below.drew ?_ | with_reducible refine below_drewN ?_ _ | with_reducible exact Below.refl _ _))⟩
/-- Which of two holds: the first key lower; of one key the younger; of one age the lower origin. -/
def holdE (ka kb : Int) (a b : E) : E :=
  if !a.has then b else if b.has && decide (or3 (cmpI kb ka) (cmpI b.age a.age) (cmpI b.org a.org) < 0) then b else a
set_option maxHeartbeats 2000000 in
theorem holder1L (kA kB : Int) (ha : Bool) (va oa aa : Int) (hb : Bool) (vb ob ab : Int) (B : Nat) (w : World)
    (hka : ∀ w, Calls Try.prog 101 #[.agg #[.bool ha, .int .i64 va, .int .i64 oa, .int .i64 aa]] w fun e w' => e = .returned (.int .i64 kA) ∧ Below w.heap.size w w')
    (hkb : ∀ w, Calls Try.prog 101 #[.agg #[.bool hb, .int .i64 vb, .int .i64 ob, .int .i64 ab]] w fun e w' => e = .returned (.int .i64 kB) ∧ Below w.heap.size w w')
    (hB : w.cell? ⟨B, 0, none⟩ = some (.func (.func 101) #[] #[])) :
    Calls Try.prog 107 #[.agg #[.bool ha, .int .i64 va, .int .i64 oa, .int .i64 aa], .agg #[.bool hb, .int .i64 vb, .int .i64 ob, .int .i64 ab], .pointer (some ⟨B, 0, none⟩)] w fun e w' =>
      e = .returned (.agg #[.bool (holdE kA kB ⟨ha, va, oa, aa⟩ ⟨hb, vb, ob, ab⟩).has, .int .i64 (holdE kA kB ⟨ha, va, oa, aa⟩ ⟨hb, vb, ob, ab⟩).val, .int .i64 (holdE kA kB ⟨ha, va, oa, aa⟩ ⟨hb, vb, ob, ab⟩).org, .int .i64 (holdE kA kB ⟨ha, va, oa, aa⟩ ⟨hb, vb, ob, ab⟩).age]) ∧ Below w.heap.size w w' := by
  have HA := Lib.hid hka; have HB := Lib.hid hkb
  clear hka hkb
  have hBl : B < w.heap.size := cell_lt hB
  have hBl1 : B < w.heap.size + 1 := by omega
  have hBl2 : B < w.heap.size + 1 + 1 := by omega
  cases ha
  · go_enter Try.func107, Try.ntmps107
    go_wp2
    refine wp_region_quietC_lit (KeptC w [(⟨w.heap.size, 0, none⟩, .bool false), (⟨w.heap.size, 1, none⟩, .int .i64 va), (⟨w.heap.size, 2, none⟩, .int .i64 oa), (⟨w.heap.size, 3, none⟩, .int .i64 aa), (⟨w.heap.size + 1, 0, none⟩, .bool hb), (⟨w.heap.size + 1, 1, none⟩, .int .i64 vb), (⟨w.heap.size + 1, 2, none⟩, .int .i64 ob), (⟨w.heap.size + 1, 3, none⟩, .int .i64 ab), (⟨B, 0, none⟩, .func (.func 101) #[] #[]), (⟨w.heap.size + 1 + 1, 0, none⟩, .bool false), (⟨w.heap.size + 1 + 1, 1, none⟩, .int .i64 0), (⟨w.heap.size + 1 + 1, 2, none⟩, .int .i64 0), (⟨w.heap.size + 1 + 1, 3, none⟩, .int .i64 0)] [⟨w.heap.size + 1 + 1, 0, none⟩, ⟨w.heap.size + 1 + 1, 1, none⟩, ⟨w.heap.size + 1 + 1, 2, none⟩, ⟨w.heap.size + 1 + 1, 3, none⟩]) (by kernel_rfl) (by kernel_rfl) ?_ ?_
    · refine KeptC.drewn ?_
      repeat' (first | refine KeptC.cons ?_ ?_ | refine KeptC.consF ?_ ?_ ?_ | refine KeptC.mk0 ?_)
      all_goals (first | with_reducible assumption | (go_simp; done) | (simp; omega) | exact (by repeat (first | with_reducible refine Below.setCell ?_ (by first | (simp; done) | (simp; omega) | omega) _ | with_reducible refine Below.alloc ?_ (by first | (simp; done) | (simp; omega) | omega) _ | with_reducible refine Below.drew ?_ | with_reducible refine below_drewN ?_ _ | with_reducible exact Below.refl _ _)))
    repeat (first
      | go_big_quiet_skip
      | (go_big_quiet_want; (apply quietC_run); (· intro w' hw'; (have hk' := hw'; simp only [KeptC, List.forall_mem_cons] at hk'; go_split_ands); go_simp; first | done | rfl); (simp only [Act.put, List.setIfInBounds_toArray, List.set_cons_zero, List.set_cons_succ]; go_big_quiet_on))
      | (go_big_quiet_want; (apply quietC_call); (· intro w' hw'; go_simp; first | done | exact ⟨rfl, rfl⟩ | rfl); (· intro w' hw'; first | ((with_reducible refine (HA.out _).mono ?_); rintro e w2 ⟨rfl, hb⟩; exact ⟨rfl, hw'.below hb⟩)); (simp only [Act.put, List.setIfInBounds_toArray, List.set_cons_zero, List.set_cons_succ]; go_big_quiet_on)))
    refine wpQuiet_nil ?_
    intro w1 hk1
    (have hk' := hk1; simp only [KeptC, List.forall_mem_cons] at hk'; go_split_ands); have hkB1 := hk1.1
    have hz1_0 : w.heap.size < w1.heap.size := cell_lt (a := ⟨w.heap.size, 0, none⟩) (by assumption)
    have hz1_1 : w.heap.size + 1 < w1.heap.size := cell_lt (a := ⟨w.heap.size + 1, 0, none⟩) (by assumption)
    have hz1_2 : w.heap.size +1 + 1 < w1.heap.size := cell_lt (a := ⟨w.heap.size +1 + 1, 0, none⟩) (by assumption)
    go_wp2
    refine bodyPost_ret (by simp [results, Try.results107, go_sem, *]; rfl) rfl ⟨by simp [holdE], (by repeat (first | with_reducible refine Below.setCell ?_ (by first | (simp; done) | (simp; omega) | omega) _ | with_reducible refine Below.alloc ?_ (by first | (simp; done) | (simp; omega) | omega) _ | with_reducible refine Below.drew ?_ | with_reducible refine below_drewN ?_ _ | with_reducible exact Below.refl _ _ | with_reducible refine Below.trans ?_ (Below.mono hkB1 (by first | (simp; done) | (simp; omega) | omega))))⟩
  · cases hb
    · go_enter Try.func107, Try.ntmps107
      go_wp2
      refine wp_region_quietC_lit (KeptC w [(⟨w.heap.size, 0, none⟩, .bool true), (⟨w.heap.size, 1, none⟩, .int .i64 va), (⟨w.heap.size, 2, none⟩, .int .i64 oa), (⟨w.heap.size, 3, none⟩, .int .i64 aa), (⟨w.heap.size + 1, 0, none⟩, .bool false), (⟨w.heap.size + 1, 1, none⟩, .int .i64 vb), (⟨w.heap.size + 1, 2, none⟩, .int .i64 ob), (⟨w.heap.size + 1, 3, none⟩, .int .i64 ab), (⟨B, 0, none⟩, .func (.func 101) #[] #[]), (⟨w.heap.size + 1 + 1, 0, none⟩, .bool false), (⟨w.heap.size + 1 + 1, 1, none⟩, .int .i64 0), (⟨w.heap.size + 1 + 1, 2, none⟩, .int .i64 0), (⟨w.heap.size + 1 + 1, 3, none⟩, .int .i64 0)] [⟨w.heap.size + 1 + 1, 0, none⟩, ⟨w.heap.size + 1 + 1, 1, none⟩, ⟨w.heap.size + 1 + 1, 2, none⟩, ⟨w.heap.size + 1 + 1, 3, none⟩]) (by kernel_rfl) (by kernel_rfl) ?_ ?_
      · refine KeptC.drewn ?_
        repeat' (first | refine KeptC.cons ?_ ?_ | refine KeptC.consF ?_ ?_ ?_ | refine KeptC.mk0 ?_)
        all_goals (first | with_reducible assumption | (go_simp; done) | (simp; omega) | exact (by repeat (first | with_reducible refine Below.setCell ?_ (by first | (simp; done) | (simp; omega) | omega) _ | with_reducible refine Below.alloc ?_ (by first | (simp; done) | (simp; omega) | omega) _ | with_reducible refine Below.drew ?_ | with_reducible refine below_drewN ?_ _ | with_reducible exact Below.refl _ _)))
      repeat (first
        | go_big_quiet_skip
        | (go_big_quiet_want; (apply quietC_run); (· intro w' hw'; (have hk' := hw'; simp only [KeptC, List.forall_mem_cons] at hk'; go_split_ands); go_simp; first | done | rfl); (simp only [Act.put, List.setIfInBounds_toArray, List.set_cons_zero, List.set_cons_succ]; go_big_quiet_on))
        | (go_big_quiet_want; (apply quietC_call); (· intro w' hw'; go_simp; first | done | exact ⟨rfl, rfl⟩ | rfl); (· intro w' hw'; first | ((with_reducible refine (HA.out _).mono ?_); rintro e w2 ⟨rfl, hb⟩; exact ⟨rfl, hw'.below hb⟩)); (simp only [Act.put, List.setIfInBounds_toArray, List.set_cons_zero, List.set_cons_succ]; go_big_quiet_on)))
      refine wpQuiet_nil ?_
      intro w1 hk1
      (have hk' := hk1; simp only [KeptC, List.forall_mem_cons] at hk'; go_split_ands); have hkB1 := hk1.1
      have hz1_0 : w.heap.size < w1.heap.size := cell_lt (a := ⟨w.heap.size, 0, none⟩) (by assumption)
      have hz1_1 : w.heap.size + 1 < w1.heap.size := cell_lt (a := ⟨w.heap.size + 1, 0, none⟩) (by assumption)
      have hz1_2 : w.heap.size +1 + 1 < w1.heap.size := cell_lt (a := ⟨w.heap.size +1 + 1, 0, none⟩) (by assumption)
      go_wp2
      refine bodyPost_ret (by simp [results, Try.results107, go_sem, *]; rfl) rfl ⟨by simp [holdE], (by repeat (first | with_reducible refine Below.setCell ?_ (by first | (simp; done) | (simp; omega) | omega) _ | with_reducible refine Below.alloc ?_ (by first | (simp; done) | (simp; omega) | omega) _ | with_reducible refine Below.drew ?_ | with_reducible refine below_drewN ?_ _ | with_reducible exact Below.refl _ _ | with_reducible refine Below.trans ?_ (Below.mono hkB1 (by first | (simp; done) | (simp; omega) | omega))))⟩
    · go_enter Try.func107, Try.ntmps107
      go_wp2
      have kS : ∀ w1 w2 : World, (Below w.heap.size w w1 ∧ w1.cell? ⟨w.heap.size, 0, none⟩ = some (.bool true) ∧ w1.cell? ⟨w.heap.size, 1, none⟩ = some (.int .i64 va) ∧ w1.cell? ⟨w.heap.size, 2, none⟩ = some (.int .i64 oa) ∧ w1.cell? ⟨w.heap.size, 3, none⟩ = some (.int .i64 aa) ∧ w1.cell? ⟨w.heap.size + 1, 0, none⟩ = some (.bool true) ∧ w1.cell? ⟨w.heap.size + 1, 1, none⟩ = some (.int .i64 vb) ∧ w1.cell? ⟨w.heap.size + 1, 2, none⟩ = some (.int .i64 ob) ∧ w1.cell? ⟨w.heap.size + 1, 3, none⟩ = some (.int .i64 ab) ∧ w1.cell? ⟨B, 0, none⟩ = some (.func (.func 101) #[] #[]) ∧ w1.cell? ⟨w.heap.size + 1 + 1, 0, none⟩ = some (.bool false) ∧ w1.cell? ⟨w.heap.size + 1 + 1, 1, none⟩ = some (.int .i64 0) ∧ w1.cell? ⟨w.heap.size + 1 + 1, 2, none⟩ = some (.int .i64 0) ∧ w1.cell? ⟨w.heap.size + 1 + 1, 3, none⟩ = some (.int .i64 0) ∧ w1.frozen? ⟨w.heap.size + 1 + 1, 0, none⟩ = false ∧ w1.frozen? ⟨w.heap.size + 1 + 1, 1, none⟩ = false ∧ w1.frozen? ⟨w.heap.size + 1 + 1, 2, none⟩ = false ∧ w1.frozen? ⟨w.heap.size + 1 + 1, 3, none⟩ = false) → Below w1.heap.size w1 w2 → (Below w.heap.size w w2 ∧ w2.cell? ⟨w.heap.size, 0, none⟩ = some (.bool true) ∧ w2.cell? ⟨w.heap.size, 1, none⟩ = some (.int .i64 va) ∧ w2.cell? ⟨w.heap.size, 2, none⟩ = some (.int .i64 oa) ∧ w2.cell? ⟨w.heap.size, 3, none⟩ = some (.int .i64 aa) ∧ w2.cell? ⟨w.heap.size + 1, 0, none⟩ = some (.bool true) ∧ w2.cell? ⟨w.heap.size + 1, 1, none⟩ = some (.int .i64 vb) ∧ w2.cell? ⟨w.heap.size + 1, 2, none⟩ = some (.int .i64 ob) ∧ w2.cell? ⟨w.heap.size + 1, 3, none⟩ = some (.int .i64 ab) ∧ w2.cell? ⟨B, 0, none⟩ = some (.func (.func 101) #[] #[]) ∧ w2.cell? ⟨w.heap.size + 1 + 1, 0, none⟩ = some (.bool false) ∧ w2.cell? ⟨w.heap.size + 1 + 1, 1, none⟩ = some (.int .i64 0) ∧ w2.cell? ⟨w.heap.size + 1 + 1, 2, none⟩ = some (.int .i64 0) ∧ w2.cell? ⟨w.heap.size + 1 + 1, 3, none⟩ = some (.int .i64 0) ∧ w2.frozen? ⟨w.heap.size + 1 + 1, 0, none⟩ = false ∧ w2.frozen? ⟨w.heap.size + 1 + 1, 1, none⟩ = false ∧ w2.frozen? ⟨w.heap.size + 1 + 1, 2, none⟩ = false ∧ w2.frozen? ⟨w.heap.size + 1 + 1, 3, none⟩ = false) := by
        rintro w1 w2 ⟨k0, k1, k2, k3, k4, k5, k6, k7, k8, k9, k10, k11, k12, k13, k14, k15, k16, k17⟩ hb
        exact ⟨k0.trans (hb.mono k0.size), (hb.cell (cell_lt k1)).trans k1, (hb.cell (cell_lt k2)).trans k2, (hb.cell (cell_lt k3)).trans k3, (hb.cell (cell_lt k4)).trans k4, (hb.cell (cell_lt k5)).trans k5, (hb.cell (cell_lt k6)).trans k6, (hb.cell (cell_lt k7)).trans k7, (hb.cell (cell_lt k8)).trans k8, (hb.cell (cell_lt k9)).trans k9, (hb.cell (cell_lt k10)).trans k10, (hb.cell (cell_lt k11)).trans k11, (hb.cell (cell_lt k12)).trans k12, (hb.cell (cell_lt k13)).trans k13, (hb.frozen (cell_lt k10)).trans k14, (hb.frozen (cell_lt k11)).trans k15, (hb.frozen (cell_lt k12)).trans k16, (hb.frozen (cell_lt k13)).trans k17⟩
      have KS := Lib.hid kS
      clear kS
      go_region_held3 (fun w' => Below w.heap.size w w' ∧ w'.cell? ⟨w.heap.size, 0, none⟩ = some (.bool true) ∧ w'.cell? ⟨w.heap.size, 1, none⟩ = some (.int .i64 va) ∧ w'.cell? ⟨w.heap.size, 2, none⟩ = some (.int .i64 oa) ∧ w'.cell? ⟨w.heap.size, 3, none⟩ = some (.int .i64 aa) ∧ w'.cell? ⟨w.heap.size + 1, 0, none⟩ = some (.bool true) ∧ w'.cell? ⟨w.heap.size + 1, 1, none⟩ = some (.int .i64 vb) ∧ w'.cell? ⟨w.heap.size + 1, 2, none⟩ = some (.int .i64 ob) ∧ w'.cell? ⟨w.heap.size + 1, 3, none⟩ = some (.int .i64 ab) ∧ w'.cell? ⟨B, 0, none⟩ = some (.func (.func 101) #[] #[]) ∧ w'.cell? ⟨w.heap.size + 1 + 1, 0, none⟩ = some (.bool false) ∧ w'.cell? ⟨w.heap.size + 1 + 1, 1, none⟩ = some (.int .i64 0) ∧ w'.cell? ⟨w.heap.size + 1 + 1, 2, none⟩ = some (.int .i64 0) ∧ w'.cell? ⟨w.heap.size + 1 + 1, 3, none⟩ = some (.int .i64 0) ∧ w'.frozen? ⟨w.heap.size + 1 + 1, 0, none⟩ = false ∧ w'.frozen? ⟨w.heap.size + 1 + 1, 1, none⟩ = false ∧ w'.frozen? ⟨w.heap.size + 1 + 1, 2, none⟩ = false ∧ w'.frozen? ⟨w.heap.size + 1 + 1, 3, none⟩ = false) (first | exact KS.out _ _ (by assumption) (by assumption) | exact KS.out _ _ (by assumption) ((Below.refl _ _).alloc (Nat.le_refl _) _) | exact ⟨(by repeat (first | with_reducible refine Below.setCell ?_ (by first | (simp; done) | (simp; omega) | omega) _ | with_reducible refine Below.alloc ?_ (by first | (simp; done) | (simp; omega) | omega) _ | with_reducible refine Below.drew ?_ | with_reducible refine below_drewN ?_ _ | with_reducible exact Below.refl _ _)), (by first | assumption | (go_simp; done)), (by first | assumption | (go_simp; done)), (by first | assumption | (go_simp; done)), (by first | assumption | (go_simp; done)), (by first | assumption | (go_simp; done)), (by first | assumption | (go_simp; done)), (by first | assumption | (go_simp; done)), (by first | assumption | (go_simp; done)), (by first | assumption | (go_simp; done)), (by first | assumption | (go_simp; done)), (by first | assumption | (go_simp; done)), (by first | assumption | (go_simp; done)), (by first | assumption | (go_simp; done)), (by first | assumption | (go_simp; done)), (by first | assumption | (go_simp; done)), (by first | assumption | (go_simp; done)), (by first | assumption | (go_simp; done))⟩) (first | ((with_reducible refine (HA.out _).mono ?_); rintro e w2 ⟨rfl, hb2⟩) | ((with_reducible refine (HB.out _).mono ?_); rintro e w2 ⟨rfl, hb2⟩) | ((with_reducible refine (compare64_b _ _ _).mono ?_); rintro e w2 ⟨rfl, hb2⟩) | ((with_reducible refine (compareInt_b _ _ _).mono ?_); rintro e w2 ⟨rfl, hb2⟩) | ((with_reducible refine (or_b _ _ _ _ _ _ rfl).mono ?_); rintro e w2 ⟨rfl, hb2⟩))
      clear KS
      (have hk' := (by assumption : Below w.heap.size w _ ∧ _); have hkB := hk'.1; go_split_ands)
      by_cases ho : or3 (cmpI kB kA) (cmpI ab aa) (cmpI ob oa) < 0
      · have HE := Lib.hid (show holdE kA kB ⟨true, va, oa, aa⟩ ⟨true, vb, ob, ab⟩ = ⟨true, vb, ob, ab⟩ from by simp [holdE, ho])
        go_wp2
        refine bodyPost_ret (by simp [results, Try.results107, go_sem, *]; rfl) rfl ⟨by rw [HE.out], (by repeat (first | with_reducible refine Below.setCell ?_ (by first | (simp; done) | (simp; omega) | omega) _ | with_reducible refine Below.alloc ?_ (by first | (simp; done) | (simp; omega) | omega) _ | with_reducible refine Below.drew ?_ | with_reducible refine below_drewN ?_ _ | with_reducible exact Below.refl _ _ | with_reducible refine Below.trans ?_ (Below.mono hkB (by first | (simp; done) | (simp; omega) | omega))))⟩
      · have HE := Lib.hid (show holdE kA kB ⟨true, va, oa, aa⟩ ⟨true, vb, ob, ab⟩ = ⟨true, va, oa, aa⟩ from by simp [holdE, ho])
        go_wp2
        refine bodyPost_ret (by simp [results, Try.results107, go_sem, *]; rfl) rfl ⟨by rw [HE.out], (by repeat (first | with_reducible refine Below.setCell ?_ (by first | (simp; done) | (simp; omega) | omega) _ | with_reducible refine Below.alloc ?_ (by first | (simp; done) | (simp; omega) | omega) _ | with_reducible refine Below.drew ?_ | with_reducible refine below_drewN ?_ _ | with_reducible exact Below.refl _ _ | with_reducible refine Below.trans ?_ (Below.mono hkB (by first | (simp; done) | (simp; omega) | omega))))⟩
set_option maxHeartbeats 2000000 in
theorem holder1G (kA kB : Int) (ha : Bool) (va oa aa : Int) (hb : Bool) (vb ob ab : Int) (B : Nat) (w : World)
    (hka : ∀ w, Calls Try.prog 102 #[.agg #[.bool ha, .int .i64 va, .int .i64 oa, .int .i64 aa]] w fun e w' => e = .returned (.int .i64 kA) ∧ Below w.heap.size w w')
    (hkb : ∀ w, Calls Try.prog 102 #[.agg #[.bool hb, .int .i64 vb, .int .i64 ob, .int .i64 ab]] w fun e w' => e = .returned (.int .i64 kB) ∧ Below w.heap.size w w')
    (hB : w.cell? ⟨B, 0, none⟩ = some (.func (.func 102) #[] #[])) :
    Calls Try.prog 107 #[.agg #[.bool ha, .int .i64 va, .int .i64 oa, .int .i64 aa], .agg #[.bool hb, .int .i64 vb, .int .i64 ob, .int .i64 ab], .pointer (some ⟨B, 0, none⟩)] w fun e w' =>
      e = .returned (.agg #[.bool (holdE kA kB ⟨ha, va, oa, aa⟩ ⟨hb, vb, ob, ab⟩).has, .int .i64 (holdE kA kB ⟨ha, va, oa, aa⟩ ⟨hb, vb, ob, ab⟩).val, .int .i64 (holdE kA kB ⟨ha, va, oa, aa⟩ ⟨hb, vb, ob, ab⟩).org, .int .i64 (holdE kA kB ⟨ha, va, oa, aa⟩ ⟨hb, vb, ob, ab⟩).age]) ∧ Below w.heap.size w w' := by
  have HA := Lib.hid hka; have HB := Lib.hid hkb
  clear hka hkb
  have hBl : B < w.heap.size := cell_lt hB
  have hBl1 : B < w.heap.size + 1 := by omega
  have hBl2 : B < w.heap.size + 1 + 1 := by omega
  cases ha
  · go_enter Try.func107, Try.ntmps107
    go_wp2
    refine wp_region_quietC_lit (KeptC w [(⟨w.heap.size, 0, none⟩, .bool false), (⟨w.heap.size, 1, none⟩, .int .i64 va), (⟨w.heap.size, 2, none⟩, .int .i64 oa), (⟨w.heap.size, 3, none⟩, .int .i64 aa), (⟨w.heap.size + 1, 0, none⟩, .bool hb), (⟨w.heap.size + 1, 1, none⟩, .int .i64 vb), (⟨w.heap.size + 1, 2, none⟩, .int .i64 ob), (⟨w.heap.size + 1, 3, none⟩, .int .i64 ab), (⟨B, 0, none⟩, .func (.func 102) #[] #[]), (⟨w.heap.size + 1 + 1, 0, none⟩, .bool false), (⟨w.heap.size + 1 + 1, 1, none⟩, .int .i64 0), (⟨w.heap.size + 1 + 1, 2, none⟩, .int .i64 0), (⟨w.heap.size + 1 + 1, 3, none⟩, .int .i64 0)] [⟨w.heap.size + 1 + 1, 0, none⟩, ⟨w.heap.size + 1 + 1, 1, none⟩, ⟨w.heap.size + 1 + 1, 2, none⟩, ⟨w.heap.size + 1 + 1, 3, none⟩]) (by kernel_rfl) (by kernel_rfl) ?_ ?_
    · refine KeptC.drewn ?_
      repeat' (first | refine KeptC.cons ?_ ?_ | refine KeptC.consF ?_ ?_ ?_ | refine KeptC.mk0 ?_)
      all_goals (first | with_reducible assumption | (go_simp; done) | (simp; omega) | exact (by repeat (first | with_reducible refine Below.setCell ?_ (by first | (simp; done) | (simp; omega) | omega) _ | with_reducible refine Below.alloc ?_ (by first | (simp; done) | (simp; omega) | omega) _ | with_reducible refine Below.drew ?_ | with_reducible refine below_drewN ?_ _ | with_reducible exact Below.refl _ _)))
    repeat (first
      | go_big_quiet_skip
      | (go_big_quiet_want; (apply quietC_run); (· intro w' hw'; (have hk' := hw'; simp only [KeptC, List.forall_mem_cons] at hk'; go_split_ands); go_simp; first | done | rfl); (simp only [Act.put, List.setIfInBounds_toArray, List.set_cons_zero, List.set_cons_succ]; go_big_quiet_on))
      | (go_big_quiet_want; (apply quietC_call); (· intro w' hw'; go_simp; first | done | exact ⟨rfl, rfl⟩ | rfl); (· intro w' hw'; first | ((with_reducible refine (HA.out _).mono ?_); rintro e w2 ⟨rfl, hb⟩; exact ⟨rfl, hw'.below hb⟩)); (simp only [Act.put, List.setIfInBounds_toArray, List.set_cons_zero, List.set_cons_succ]; go_big_quiet_on)))
    refine wpQuiet_nil ?_
    intro w1 hk1
    (have hk' := hk1; simp only [KeptC, List.forall_mem_cons] at hk'; go_split_ands); have hkB1 := hk1.1
    have hz1_0 : w.heap.size < w1.heap.size := cell_lt (a := ⟨w.heap.size, 0, none⟩) (by assumption)
    have hz1_1 : w.heap.size + 1 < w1.heap.size := cell_lt (a := ⟨w.heap.size + 1, 0, none⟩) (by assumption)
    have hz1_2 : w.heap.size +1 + 1 < w1.heap.size := cell_lt (a := ⟨w.heap.size +1 + 1, 0, none⟩) (by assumption)
    go_wp2
    refine bodyPost_ret (by simp [results, Try.results107, go_sem, *]; rfl) rfl ⟨by simp [holdE], (by repeat (first | with_reducible refine Below.setCell ?_ (by first | (simp; done) | (simp; omega) | omega) _ | with_reducible refine Below.alloc ?_ (by first | (simp; done) | (simp; omega) | omega) _ | with_reducible refine Below.drew ?_ | with_reducible refine below_drewN ?_ _ | with_reducible exact Below.refl _ _ | with_reducible refine Below.trans ?_ (Below.mono hkB1 (by first | (simp; done) | (simp; omega) | omega))))⟩
  · cases hb
    · go_enter Try.func107, Try.ntmps107
      go_wp2
      refine wp_region_quietC_lit (KeptC w [(⟨w.heap.size, 0, none⟩, .bool true), (⟨w.heap.size, 1, none⟩, .int .i64 va), (⟨w.heap.size, 2, none⟩, .int .i64 oa), (⟨w.heap.size, 3, none⟩, .int .i64 aa), (⟨w.heap.size + 1, 0, none⟩, .bool false), (⟨w.heap.size + 1, 1, none⟩, .int .i64 vb), (⟨w.heap.size + 1, 2, none⟩, .int .i64 ob), (⟨w.heap.size + 1, 3, none⟩, .int .i64 ab), (⟨B, 0, none⟩, .func (.func 102) #[] #[]), (⟨w.heap.size + 1 + 1, 0, none⟩, .bool false), (⟨w.heap.size + 1 + 1, 1, none⟩, .int .i64 0), (⟨w.heap.size + 1 + 1, 2, none⟩, .int .i64 0), (⟨w.heap.size + 1 + 1, 3, none⟩, .int .i64 0)] [⟨w.heap.size + 1 + 1, 0, none⟩, ⟨w.heap.size + 1 + 1, 1, none⟩, ⟨w.heap.size + 1 + 1, 2, none⟩, ⟨w.heap.size + 1 + 1, 3, none⟩]) (by kernel_rfl) (by kernel_rfl) ?_ ?_
      · refine KeptC.drewn ?_
        repeat' (first | refine KeptC.cons ?_ ?_ | refine KeptC.consF ?_ ?_ ?_ | refine KeptC.mk0 ?_)
        all_goals (first | with_reducible assumption | (go_simp; done) | (simp; omega) | exact (by repeat (first | with_reducible refine Below.setCell ?_ (by first | (simp; done) | (simp; omega) | omega) _ | with_reducible refine Below.alloc ?_ (by first | (simp; done) | (simp; omega) | omega) _ | with_reducible refine Below.drew ?_ | with_reducible refine below_drewN ?_ _ | with_reducible exact Below.refl _ _)))
      repeat (first
        | go_big_quiet_skip
        | (go_big_quiet_want; (apply quietC_run); (· intro w' hw'; (have hk' := hw'; simp only [KeptC, List.forall_mem_cons] at hk'; go_split_ands); go_simp; first | done | rfl); (simp only [Act.put, List.setIfInBounds_toArray, List.set_cons_zero, List.set_cons_succ]; go_big_quiet_on))
        | (go_big_quiet_want; (apply quietC_call); (· intro w' hw'; go_simp; first | done | exact ⟨rfl, rfl⟩ | rfl); (· intro w' hw'; first | ((with_reducible refine (HA.out _).mono ?_); rintro e w2 ⟨rfl, hb⟩; exact ⟨rfl, hw'.below hb⟩)); (simp only [Act.put, List.setIfInBounds_toArray, List.set_cons_zero, List.set_cons_succ]; go_big_quiet_on)))
      refine wpQuiet_nil ?_
      intro w1 hk1
      (have hk' := hk1; simp only [KeptC, List.forall_mem_cons] at hk'; go_split_ands); have hkB1 := hk1.1
      have hz1_0 : w.heap.size < w1.heap.size := cell_lt (a := ⟨w.heap.size, 0, none⟩) (by assumption)
      have hz1_1 : w.heap.size + 1 < w1.heap.size := cell_lt (a := ⟨w.heap.size + 1, 0, none⟩) (by assumption)
      have hz1_2 : w.heap.size +1 + 1 < w1.heap.size := cell_lt (a := ⟨w.heap.size +1 + 1, 0, none⟩) (by assumption)
      go_wp2
      refine bodyPost_ret (by simp [results, Try.results107, go_sem, *]; rfl) rfl ⟨by simp [holdE], (by repeat (first | with_reducible refine Below.setCell ?_ (by first | (simp; done) | (simp; omega) | omega) _ | with_reducible refine Below.alloc ?_ (by first | (simp; done) | (simp; omega) | omega) _ | with_reducible refine Below.drew ?_ | with_reducible refine below_drewN ?_ _ | with_reducible exact Below.refl _ _ | with_reducible refine Below.trans ?_ (Below.mono hkB1 (by first | (simp; done) | (simp; omega) | omega))))⟩
    · go_enter Try.func107, Try.ntmps107
      go_wp2
      have kS : ∀ w1 w2 : World, (Below w.heap.size w w1 ∧ w1.cell? ⟨w.heap.size, 0, none⟩ = some (.bool true) ∧ w1.cell? ⟨w.heap.size, 1, none⟩ = some (.int .i64 va) ∧ w1.cell? ⟨w.heap.size, 2, none⟩ = some (.int .i64 oa) ∧ w1.cell? ⟨w.heap.size, 3, none⟩ = some (.int .i64 aa) ∧ w1.cell? ⟨w.heap.size + 1, 0, none⟩ = some (.bool true) ∧ w1.cell? ⟨w.heap.size + 1, 1, none⟩ = some (.int .i64 vb) ∧ w1.cell? ⟨w.heap.size + 1, 2, none⟩ = some (.int .i64 ob) ∧ w1.cell? ⟨w.heap.size + 1, 3, none⟩ = some (.int .i64 ab) ∧ w1.cell? ⟨B, 0, none⟩ = some (.func (.func 102) #[] #[]) ∧ w1.cell? ⟨w.heap.size + 1 + 1, 0, none⟩ = some (.bool false) ∧ w1.cell? ⟨w.heap.size + 1 + 1, 1, none⟩ = some (.int .i64 0) ∧ w1.cell? ⟨w.heap.size + 1 + 1, 2, none⟩ = some (.int .i64 0) ∧ w1.cell? ⟨w.heap.size + 1 + 1, 3, none⟩ = some (.int .i64 0) ∧ w1.frozen? ⟨w.heap.size + 1 + 1, 0, none⟩ = false ∧ w1.frozen? ⟨w.heap.size + 1 + 1, 1, none⟩ = false ∧ w1.frozen? ⟨w.heap.size + 1 + 1, 2, none⟩ = false ∧ w1.frozen? ⟨w.heap.size + 1 + 1, 3, none⟩ = false) → Below w1.heap.size w1 w2 → (Below w.heap.size w w2 ∧ w2.cell? ⟨w.heap.size, 0, none⟩ = some (.bool true) ∧ w2.cell? ⟨w.heap.size, 1, none⟩ = some (.int .i64 va) ∧ w2.cell? ⟨w.heap.size, 2, none⟩ = some (.int .i64 oa) ∧ w2.cell? ⟨w.heap.size, 3, none⟩ = some (.int .i64 aa) ∧ w2.cell? ⟨w.heap.size + 1, 0, none⟩ = some (.bool true) ∧ w2.cell? ⟨w.heap.size + 1, 1, none⟩ = some (.int .i64 vb) ∧ w2.cell? ⟨w.heap.size + 1, 2, none⟩ = some (.int .i64 ob) ∧ w2.cell? ⟨w.heap.size + 1, 3, none⟩ = some (.int .i64 ab) ∧ w2.cell? ⟨B, 0, none⟩ = some (.func (.func 102) #[] #[]) ∧ w2.cell? ⟨w.heap.size + 1 + 1, 0, none⟩ = some (.bool false) ∧ w2.cell? ⟨w.heap.size + 1 + 1, 1, none⟩ = some (.int .i64 0) ∧ w2.cell? ⟨w.heap.size + 1 + 1, 2, none⟩ = some (.int .i64 0) ∧ w2.cell? ⟨w.heap.size + 1 + 1, 3, none⟩ = some (.int .i64 0) ∧ w2.frozen? ⟨w.heap.size + 1 + 1, 0, none⟩ = false ∧ w2.frozen? ⟨w.heap.size + 1 + 1, 1, none⟩ = false ∧ w2.frozen? ⟨w.heap.size + 1 + 1, 2, none⟩ = false ∧ w2.frozen? ⟨w.heap.size + 1 + 1, 3, none⟩ = false) := by
        rintro w1 w2 ⟨k0, k1, k2, k3, k4, k5, k6, k7, k8, k9, k10, k11, k12, k13, k14, k15, k16, k17⟩ hb
        exact ⟨k0.trans (hb.mono k0.size), (hb.cell (cell_lt k1)).trans k1, (hb.cell (cell_lt k2)).trans k2, (hb.cell (cell_lt k3)).trans k3, (hb.cell (cell_lt k4)).trans k4, (hb.cell (cell_lt k5)).trans k5, (hb.cell (cell_lt k6)).trans k6, (hb.cell (cell_lt k7)).trans k7, (hb.cell (cell_lt k8)).trans k8, (hb.cell (cell_lt k9)).trans k9, (hb.cell (cell_lt k10)).trans k10, (hb.cell (cell_lt k11)).trans k11, (hb.cell (cell_lt k12)).trans k12, (hb.cell (cell_lt k13)).trans k13, (hb.frozen (cell_lt k10)).trans k14, (hb.frozen (cell_lt k11)).trans k15, (hb.frozen (cell_lt k12)).trans k16, (hb.frozen (cell_lt k13)).trans k17⟩
      have KS := Lib.hid kS
      clear kS
      go_region_held3 (fun w' => Below w.heap.size w w' ∧ w'.cell? ⟨w.heap.size, 0, none⟩ = some (.bool true) ∧ w'.cell? ⟨w.heap.size, 1, none⟩ = some (.int .i64 va) ∧ w'.cell? ⟨w.heap.size, 2, none⟩ = some (.int .i64 oa) ∧ w'.cell? ⟨w.heap.size, 3, none⟩ = some (.int .i64 aa) ∧ w'.cell? ⟨w.heap.size + 1, 0, none⟩ = some (.bool true) ∧ w'.cell? ⟨w.heap.size + 1, 1, none⟩ = some (.int .i64 vb) ∧ w'.cell? ⟨w.heap.size + 1, 2, none⟩ = some (.int .i64 ob) ∧ w'.cell? ⟨w.heap.size + 1, 3, none⟩ = some (.int .i64 ab) ∧ w'.cell? ⟨B, 0, none⟩ = some (.func (.func 102) #[] #[]) ∧ w'.cell? ⟨w.heap.size + 1 + 1, 0, none⟩ = some (.bool false) ∧ w'.cell? ⟨w.heap.size + 1 + 1, 1, none⟩ = some (.int .i64 0) ∧ w'.cell? ⟨w.heap.size + 1 + 1, 2, none⟩ = some (.int .i64 0) ∧ w'.cell? ⟨w.heap.size + 1 + 1, 3, none⟩ = some (.int .i64 0) ∧ w'.frozen? ⟨w.heap.size + 1 + 1, 0, none⟩ = false ∧ w'.frozen? ⟨w.heap.size + 1 + 1, 1, none⟩ = false ∧ w'.frozen? ⟨w.heap.size + 1 + 1, 2, none⟩ = false ∧ w'.frozen? ⟨w.heap.size + 1 + 1, 3, none⟩ = false) (first | exact KS.out _ _ (by assumption) (by assumption) | exact KS.out _ _ (by assumption) ((Below.refl _ _).alloc (Nat.le_refl _) _) | exact ⟨(by repeat (first | with_reducible refine Below.setCell ?_ (by first | (simp; done) | (simp; omega) | omega) _ | with_reducible refine Below.alloc ?_ (by first | (simp; done) | (simp; omega) | omega) _ | with_reducible refine Below.drew ?_ | with_reducible refine below_drewN ?_ _ | with_reducible exact Below.refl _ _)), (by first | assumption | (go_simp; done)), (by first | assumption | (go_simp; done)), (by first | assumption | (go_simp; done)), (by first | assumption | (go_simp; done)), (by first | assumption | (go_simp; done)), (by first | assumption | (go_simp; done)), (by first | assumption | (go_simp; done)), (by first | assumption | (go_simp; done)), (by first | assumption | (go_simp; done)), (by first | assumption | (go_simp; done)), (by first | assumption | (go_simp; done)), (by first | assumption | (go_simp; done)), (by first | assumption | (go_simp; done)), (by first | assumption | (go_simp; done)), (by first | assumption | (go_simp; done)), (by first | assumption | (go_simp; done)), (by first | assumption | (go_simp; done))⟩) (first | ((with_reducible refine (HA.out _).mono ?_); rintro e w2 ⟨rfl, hb2⟩) | ((with_reducible refine (HB.out _).mono ?_); rintro e w2 ⟨rfl, hb2⟩) | ((with_reducible refine (compare64_b _ _ _).mono ?_); rintro e w2 ⟨rfl, hb2⟩) | ((with_reducible refine (compareInt_b _ _ _).mono ?_); rintro e w2 ⟨rfl, hb2⟩) | ((with_reducible refine (or_b _ _ _ _ _ _ rfl).mono ?_); rintro e w2 ⟨rfl, hb2⟩))
      clear KS
      (have hk' := (by assumption : Below w.heap.size w _ ∧ _); have hkB := hk'.1; go_split_ands)
      by_cases ho : or3 (cmpI kB kA) (cmpI ab aa) (cmpI ob oa) < 0
      · have HE := Lib.hid (show holdE kA kB ⟨true, va, oa, aa⟩ ⟨true, vb, ob, ab⟩ = ⟨true, vb, ob, ab⟩ from by simp [holdE, ho])
        go_wp2
        refine bodyPost_ret (by simp [results, Try.results107, go_sem, *]; rfl) rfl ⟨by rw [HE.out], (by repeat (first | with_reducible refine Below.setCell ?_ (by first | (simp; done) | (simp; omega) | omega) _ | with_reducible refine Below.alloc ?_ (by first | (simp; done) | (simp; omega) | omega) _ | with_reducible refine Below.drew ?_ | with_reducible refine below_drewN ?_ _ | with_reducible exact Below.refl _ _ | with_reducible refine Below.trans ?_ (Below.mono hkB (by first | (simp; done) | (simp; omega) | omega))))⟩
      · have HE := Lib.hid (show holdE kA kB ⟨true, va, oa, aa⟩ ⟨true, vb, ob, ab⟩ = ⟨true, va, oa, aa⟩ from by simp [holdE, ho])
        go_wp2
        refine bodyPost_ret (by simp [results, Try.results107, go_sem, *]; rfl) rfl ⟨by rw [HE.out], (by repeat (first | with_reducible refine Below.setCell ?_ (by first | (simp; done) | (simp; omega) | omega) _ | with_reducible refine Below.alloc ?_ (by first | (simp; done) | (simp; omega) | omega) _ | with_reducible refine Below.drew ?_ | with_reducible refine below_drewN ?_ _ | with_reducible exact Below.refl _ _ | with_reducible refine Below.trans ?_ (Below.mono hkB (by first | (simp; done) | (simp; omega) | omega))))⟩
theorem holder_any (f : Fn) (w : World) :
    Calls Try.prog 100 #[.func f #[] #[]] w fun e w' => e = .returned (.func (.func 107) #[] #[.pointer (some ⟨w.heap.size, 0, none⟩)]) ∧ Below w.heap.size w w' ∧ w'.cell? ⟨w.heap.size, 0, none⟩ = some (.func f #[] #[]) := by
  go_enter Try.func100, Try.ntmps100
  go_wp2
  go_ret
  exact ⟨rfl, (by repeat (first | with_reducible refine Below.setCell ?_ (by first | (simp; done) | (simp; omega) | omega) _ | with_reducible refine Below.alloc ?_ (by first | (simp; done) | (simp; omega) | omega) _ | with_reducible refine Below.drew ?_ | with_reducible refine below_drewN ?_ _ | with_reducible exact Below.refl _ _)), by go_simp⟩
end Go.Proofs.Ytfihkkamedghkaa
