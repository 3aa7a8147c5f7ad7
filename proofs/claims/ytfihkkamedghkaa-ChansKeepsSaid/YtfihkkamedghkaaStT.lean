/- told of chans (a deferred closure, a table of functions) and Told of its reference: what each call computes. -/
import Derived.Test.YtfihkkamedghkaaSt
import Derived.Test.YtfihkkamedghkaaNum
import Derived.Defers
import Derived.Deep.Cut
namespace Go.Proofs.Ytfihkkamedghkaa
open Go.RowKit
set_option linter.unusedVariables false
def toldF (kd x sc : Int) : Int × Int :=
  if kd = 1 then mulN x sc else if kd = 2 then (if x ≠ 0 ∧ x ≠ 1 then (0, 49) else mulN x sc) else if kd = 3 then (if (mulN x x).2 ≠ 0 then (0, (mulN x x).2) else mulN (mulN x x).1 sc) else mulN x 1
theorem mulN_err {a b : Int} (h : (mulN a b).2 ≠ 0) : mulN a b = (0, 10) := by
  unfold mulN chk at *
  split at h
  · exact absurd rfl h
  · rename_i hn; rw [if_neg hn]
theorem mulN_two (a b : Int) : (mulN a b).2 = 0 ∨ mulN a b = (0, 10) := by
  by_cases h : (mulN a b).2 = 0
  · exact .inl h
  · exact .inr (mulN_err h)
set_option maxRecDepth 100000 in
set_option maxHeartbeats 8000000 in
theorem times_on (b : Nat) (x n y z : Int) (w : World) (h0 : w.cell? ⟨b, 0, none⟩ = some (.int .i64 x)) (h1 : w.cell? ⟨b, 1, none⟩ = some (.int .i64 0)) (f0 : w.frozen? ⟨b, 0, none⟩ = false) (f1 : w.frozen? ⟨b, 1, none⟩ = false) (hy : mulN x n = (y, z)) :
    Calls Try.prog 96 #[.pointer (some ⟨b, 0, none⟩), .int .i64 n] w fun e w' => e = .returned (.pointer (some ⟨b, 0, none⟩)) ∧ w' = (w.setCell ⟨b, 0, none⟩ (.int .i64 y)).setCell ⟨b, 1, none⟩ (.int .i64 z) := by
  have c := fun W => nmul_any x n W
  rw [hy] at c
  have C := Lib.hid c
  clear c hy
  go_enter Try.func96, Try.ntmps96
  go_wp2_with (fail)
  refine (C.out _).mono ?_; rintro e w2 ⟨rfl, rfl⟩
  go_wp2
  go_ret
  exact ⟨rfl, rfl⟩
set_option maxRecDepth 100000 in
set_option maxHeartbeats 8000000 in
theorem times_off (b : Nat) (n er : Int) (w : World) (h1 : w.cell? ⟨b, 1, none⟩ = some (.int .i64 er)) (he : (er == 0) = false) :
    Calls Try.prog 96 #[.pointer (some ⟨b, 0, none⟩), .int .i64 n] w fun e w' => e = .returned (.pointer (some ⟨b, 0, none⟩)) ∧ w' = w := by
  go_enter Try.func96, Try.ntmps96
  go_wp2
  go_ret
  exact ⟨rfl, rfl⟩
set_option maxRecDepth 100000 in
set_option maxHeartbeats 8000000 in
theorem tell1 (b : Nat) (x sc y z : Int) (w : World) (h0 : w.cell? ⟨b, 0, none⟩ = some (.int .i64 x)) (h1 : w.cell? ⟨b, 1, none⟩ = some (.int .i64 0)) (f0 : w.frozen? ⟨b, 0, none⟩ = false) (f1 : w.frozen? ⟨b, 1, none⟩ = false) (hy : mulN x sc = (y, z)) :
    Calls Try.prog 95 #[.pointer (some ⟨b, 0, none⟩), .int .i64 x, .int .i64 sc] w fun e w' => e = .returned (.tuple #[]) ∧ w' = (w.setCell ⟨b, 0, none⟩ (.int .i64 y)).setCell ⟨b, 1, none⟩ (.int .i64 z) := by
  go_enter Try.func95, Try.ntmps95
  go_wp2_with (fail)
  refine (times_on b x sc y z _ (by go_simp) (by go_simp) (by go_simp) (by go_simp) hy).mono ?_; rintro e w2 ⟨rfl, rfl⟩
  go_wp2
  go_end0
  exact ⟨rfl, rfl⟩
set_option maxRecDepth 100000 in
set_option maxHeartbeats 8000000 in
theorem tell2_on (b : Nat) (x sc y z : Int) (w : World) (h0 : w.cell? ⟨b, 0, none⟩ = some (.int .i64 x)) (h1 : w.cell? ⟨b, 1, none⟩ = some (.int .i64 0)) (f0 : w.frozen? ⟨b, 0, none⟩ = false) (f1 : w.frozen? ⟨b, 1, none⟩ = false) (hy : mulN x sc = (y, z)) (h2 : x = 0 ∨ x = 1) :
    Calls Try.prog 97 #[.pointer (some ⟨b, 0, none⟩), .int .i64 x, .int .i64 sc] w fun e w' => e = .returned (.tuple #[]) ∧ w' = (w.setCell ⟨b, 0, none⟩ (.int .i64 y)).setCell ⟨b, 1, none⟩ (.int .i64 z) := by
  rcases h2 with rfl | rfl
  all_goals (
  go_enter Try.func97, Try.ntmps97
  go_wp2_with (fail)
  refine (times_on b _ sc y z _ (by go_simp) (by go_simp) (by go_simp) (by go_simp) hy).mono ?_; rintro e w2 ⟨rfl, rfl⟩
  go_wp2
  go_end0
  exact ⟨rfl, rfl⟩)
set_option maxRecDepth 100000 in
set_option maxHeartbeats 8000000 in
theorem tell2_off (b : Nat) (x sc y z : Int) (w : World) (h0 : w.cell? ⟨b, 0, none⟩ = some (.int .i64 x)) (h1 : w.cell? ⟨b, 1, none⟩ = some (.int .i64 0)) (f0 : w.frozen? ⟨b, 0, none⟩ = false) (f1 : w.frozen? ⟨b, 1, none⟩ = false) (h2 : (x != 0) = true) (h3 : (x != 1) = true) :
    Calls Try.prog 97 #[.pointer (some ⟨b, 0, none⟩), .int .i64 x, .int .i64 sc] w fun e w' => e = .returned (.tuple #[]) ∧ w' = w.setCell ⟨b, 1, none⟩ (.int .i64 49) := by
  go_enter Try.func97, Try.ntmps97
  go_wp2_with (fail)
  refine (times_off b sc 49 _ (by go_simp) (by rfl)).mono ?_; rintro e w2 ⟨rfl, rfl⟩
  go_wp2
  go_end0
  exact ⟨rfl, rfl⟩
set_option maxRecDepth 100000 in
set_option maxHeartbeats 8000000 in
theorem tell3_on (b : Nat) (x sc y z : Int) (w : World) (h0 : w.cell? ⟨b, 0, none⟩ = some (.int .i64 x)) (h1 : w.cell? ⟨b, 1, none⟩ = some (.int .i64 0)) (f0 : w.frozen? ⟨b, 0, none⟩ = false) (f1 : w.frozen? ⟨b, 1, none⟩ = false) (y1 : Int) (hy1 : mulN x x = (y1, 0)) (hy : mulN y1 sc = (y, z)) :
    Calls Try.prog 98 #[.pointer (some ⟨b, 0, none⟩), .int .i64 x, .int .i64 sc] w fun e w' => e = .returned (.tuple #[]) ∧ w' = (((w.setCell ⟨b, 0, none⟩ (.int .i64 y1)).setCell ⟨b, 1, none⟩ (.int .i64 0)).setCell ⟨b, 0, none⟩ (.int .i64 y)).setCell ⟨b, 1, none⟩ (.int .i64 z) := by
  go_enter Try.func98, Try.ntmps98
  go_wp2_with (fail)
  refine (times_on b x x y1 0 _ (by go_simp) (by go_simp) (by go_simp) (by go_simp) hy1).mono ?_; rintro e w2 ⟨rfl, rfl⟩
  go_wp2_with (fail)
  refine (times_on b y1 sc y z _ (by go_simp) (by go_simp) (by go_simp) (by go_simp) hy).mono ?_; rintro e w2 ⟨rfl, rfl⟩
  go_wp2
  go_end0
  exact ⟨rfl, rfl⟩
set_option maxRecDepth 100000 in
set_option maxHeartbeats 8000000 in
theorem tell3_off (b : Nat) (x sc y z : Int) (w : World) (h0 : w.cell? ⟨b, 0, none⟩ = some (.int .i64 x)) (h1 : w.cell? ⟨b, 1, none⟩ = some (.int .i64 0)) (f0 : w.frozen? ⟨b, 0, none⟩ = false) (f1 : w.frozen? ⟨b, 1, none⟩ = false) (hy1 : mulN x x = (0, 10)) :
    Calls Try.prog 98 #[.pointer (some ⟨b, 0, none⟩), .int .i64 x, .int .i64 sc] w fun e w' => e = .returned (.tuple #[]) ∧ w' = (w.setCell ⟨b, 0, none⟩ (.int .i64 0)).setCell ⟨b, 1, none⟩ (.int .i64 10) := by
  go_enter Try.func98, Try.ntmps98
  go_wp2_with (fail)
  refine (times_on b x x 0 10 _ (by go_simp) (by go_simp) (by go_simp) (by go_simp) hy1).mono ?_; rintro e w2 ⟨rfl, rfl⟩
  go_wp2_with (fail)
  refine (times_off b sc 10 _ (by go_simp) (by rfl)).mono ?_; rintro e w2 ⟨rfl, rfl⟩
  go_wp2
  go_end0
  exact ⟨rfl, rfl⟩
set_option maxRecDepth 100000 in
set_option maxHeartbeats 8000000 in
theorem tell4 (b : Nat) (x sc y z : Int) (w : World) (h0 : w.cell? ⟨b, 0, none⟩ = some (.int .i64 x)) (h1 : w.cell? ⟨b, 1, none⟩ = some (.int .i64 0)) (f0 : w.frozen? ⟨b, 0, none⟩ = false) (f1 : w.frozen? ⟨b, 1, none⟩ = false) (hy : mulN x 1 = (y, z)) :
    Calls Try.prog 99 #[.pointer (some ⟨b, 0, none⟩), .int .i64 x, .int .i64 sc] w fun e w' => e = .returned (.tuple #[]) ∧ w' = (w.setCell ⟨b, 0, none⟩ (.int .i64 y)).setCell ⟨b, 1, none⟩ (.int .i64 z) := by
  go_enter Try.func99, Try.ntmps99
  go_wp2_with (fail)
  refine (times_on b x 1 y z _ (by go_simp) (by go_simp) (by go_simp) (by go_simp) hy).mono ?_; rintro e w2 ⟨rfl, rfl⟩
  go_wp2
  go_end0
  exact ⟨rfl, rfl⟩
set_option maxRecDepth 100000 in
set_option maxHeartbeats 8000000 in
theorem told1_ok (g8 g6 g7 b B : Nat) (x : Int) (w : World) (u : FrameMode) (k6 : B ≤ g6) (k7 : B ≤ g7) (n67 : g6 ≠ g7) (h8 : w.cell? ⟨g8, 0, none⟩ = some (.pointer (some ⟨b, 0, none⟩))) (h0 : w.cell? ⟨b, 0, none⟩ = some (.int .i64 x)) (h1 : w.cell? ⟨b, 1, none⟩ = some (.int .i64 0))
    (n6 : g6 ≠ b) (n7 : g7 ≠ b) (h6 : w.cell? ⟨g6, 0, none⟩ = some (.int .i64 0)) (h7 : w.cell? ⟨g7, 0, none⟩ = some (.int .i64 0)) (f6 : w.frozen? ⟨g6, 0, none⟩ = false) (f7 : w.frozen? ⟨g7, 0, none⟩ = false) :
    CallsD Try.prog 76 #[.pointer (some ⟨g8, 0, none⟩), .pointer (some ⟨g6, 0, none⟩), .pointer (some ⟨g7, 0, none⟩)] u w fun e u' w' => u' = u ∧ (e = .returned (.tuple #[]) ∧ (Below B w w' ∧ w'.cell? ⟨g6, 0, none⟩ = some (.int .i64 x) ∧ w'.cell? ⟨g7, 0, none⟩ = some (.int .i64 0))) := by
  go_enter_d Try.func76, Try.ntmps76
  go_wp2
  go_region
  all_goals (
    go_wp2
    go_end0
    refine ⟨rfl, (by repeat (first | with_reducible refine Below.setCell ?_ (by first | (simp; done) | (simp; omega) | omega) _ | with_reducible refine Below.alloc ?_ (by first | (simp; done) | (simp; omega) | omega) _ | with_reducible refine Below.drew ?_ | with_reducible refine below_drewN ?_ _ | with_reducible exact Below.refl _ _)), ?_, ?_⟩ <;> go_simp)
set_option maxRecDepth 100000 in
set_option maxHeartbeats 8000000 in
theorem told1_bad (g8 g6 g7 b B : Nat) (x er : Int) (w : World) (u : FrameMode) (k6 : B ≤ g6) (k7 : B ≤ g7) (n67 : g6 ≠ g7) (h8 : w.cell? ⟨g8, 0, none⟩ = some (.pointer (some ⟨b, 0, none⟩))) (h0 : w.cell? ⟨b, 0, none⟩ = some (.int .i64 x)) (h1 : w.cell? ⟨b, 1, none⟩ = some (.int .i64 er))
    (n6 : g6 ≠ b) (n7 : g7 ≠ b) (h6 : w.cell? ⟨g6, 0, none⟩ = some (.int .i64 0)) (h7 : w.cell? ⟨g7, 0, none⟩ = some (.int .i64 0)) (f6 : w.frozen? ⟨g6, 0, none⟩ = false) (f7 : w.frozen? ⟨g7, 0, none⟩ = false) (he : (er != 0) = true) :
    CallsD Try.prog 76 #[.pointer (some ⟨g8, 0, none⟩), .pointer (some ⟨g6, 0, none⟩), .pointer (some ⟨g7, 0, none⟩)] u w fun e u' w' => u' = u ∧ (e = .returned (.tuple #[]) ∧ (Below B w w' ∧ w'.cell? ⟨g6, 0, none⟩ = some (.int .i64 0) ∧ w'.cell? ⟨g7, 0, none⟩ = some (.int .i64 er))) := by
  go_enter_d Try.func76, Try.ntmps76
  go_wp2
  go_region
  all_goals (
    go_wp2
    go_end0
    refine ⟨rfl, (by repeat (first | with_reducible refine Below.setCell ?_ (by first | (simp; done) | (simp; omega) | omega) _ | with_reducible refine Below.alloc ?_ (by first | (simp; done) | (simp; omega) | omega) _ | with_reducible refine Below.drew ?_ | with_reducible refine below_drewN ?_ _ | with_reducible exact Below.refl _ _)), ?_, ?_⟩ <;> go_simp)
set_option maxRecDepth 100000 in
set_option maxHeartbeats 8000000 in
theorem told_1ok (x sc : Int) (y : Int) (hy : mulN x sc = (y, 0)) (w : World) :
    Calls Try.prog 48 #[.int .i64 1, .int .i64 x, .int .i64 sc] w fun e w' => e = .returned (.tuple #[.int .i64 y, .int .i64 0]) ∧ Below w.heap.size w w' := by
  have hmf : ∀ (fn : Fn) (first cap : Array Value) (w : World), (Instr.makeFunc fn first cap).run Try.prog w = .ok (.func fn first cap) w := fun _ _ _ _ => rfl
  go_enter_defers Try.func48, Try.ntmps48
  go_wp2
  refine wp_loop_rounds 5 ?_
  rw [rounds_succ]
  go_wp2_with (fail)
  refine (tell1 (w.heap.size + 2) x sc y 0 _ (by go_simp) (by go_simp) (by go_simp) (by go_simp) hy).mono ?_; rintro e w2 ⟨rfl, rfl⟩
  go_wp2
  rw [rounds_succ]
  go_wp2
  rw [rounds_succ]
  go_wp2
  rw [rounds_succ]
  go_wp2
  rw [rounds_succ]
  go_wp2
  refine leaves_cons (f := 76) (args := #[.pointer (some ⟨w.heap.size + 3, 0, none⟩), .pointer (some ⟨w.heap.size, 0, none⟩), .pointer (some ⟨w.heap.size + 1, 0, none⟩)]) (by simp) (by simp [go_sem]) ?_
  refine (told1_ok (w.heap.size + 3) (w.heap.size) (w.heap.size + 1) (w.heap.size + 2) (w.heap.size) y _ .returning (by omega) (by omega) (by omega) (by go_simp) (by go_simp) (by go_simp) (by omega) (by omega) (by go_simp) (by go_simp) (by go_simp) (by go_simp)).mono ?_
  rintro e u' w3 ⟨rfl, rfl, hb3, h6, h7⟩
  have hb4 : Below w.heap.size w w3 := (by repeat (first | with_reducible refine Below.setCell ?_ (by first | (simp; done) | (simp; omega) | omega) _ | with_reducible refine Below.alloc ?_ (by first | (simp; done) | (simp; omega) | omega) _ | with_reducible refine Below.drew ?_ | with_reducible refine below_drewN ?_ _ | with_reducible exact Below.refl _ _ | with_reducible refine Below.trans ?_ (Below.mono hb3 (by first | (simp; done) | (simp; omega) | omega))))
  simp [Leaves, settle, results, Try.results48, go_sem, h6, h7]
  exact hb4
set_option maxRecDepth 100000 in
set_option maxHeartbeats 8000000 in
theorem told_1bad (x sc : Int) (hy : mulN x sc = (0, 10)) (w : World) :
    Calls Try.prog 48 #[.int .i64 1, .int .i64 x, .int .i64 sc] w fun e w' => e = .returned (.tuple #[.int .i64 0, .int .i64 10]) ∧ Below w.heap.size w w' := by
  have hmf : ∀ (fn : Fn) (first cap : Array Value) (w : World), (Instr.makeFunc fn first cap).run Try.prog w = .ok (.func fn first cap) w := fun _ _ _ _ => rfl
  go_enter_defers Try.func48, Try.ntmps48
  go_wp2
  refine wp_loop_rounds 5 ?_
  rw [rounds_succ]
  go_wp2_with (fail)
  refine (tell1 (w.heap.size + 2) x sc 0 10 _ (by go_simp) (by go_simp) (by go_simp) (by go_simp) hy).mono ?_; rintro e w2 ⟨rfl, rfl⟩
  go_wp2
  rw [rounds_succ]
  go_wp2
  rw [rounds_succ]
  go_wp2
  rw [rounds_succ]
  go_wp2
  rw [rounds_succ]
  go_wp2
  refine leaves_cons (f := 76) (args := #[.pointer (some ⟨w.heap.size + 3, 0, none⟩), .pointer (some ⟨w.heap.size, 0, none⟩), .pointer (some ⟨w.heap.size + 1, 0, none⟩)]) (by simp) (by simp [go_sem]) ?_
  refine (told1_bad (w.heap.size + 3) (w.heap.size) (w.heap.size + 1) (w.heap.size + 2) (w.heap.size) 0 10 _ .returning (by omega) (by omega) (by omega) (by go_simp) (by go_simp) (by go_simp) (by omega) (by omega) (by go_simp) (by go_simp) (by go_simp) (by go_simp) (by rfl)).mono ?_
  rintro e u' w3 ⟨rfl, rfl, hb3, h6, h7⟩
  have hb4 : Below w.heap.size w w3 := (by repeat (first | with_reducible refine Below.setCell ?_ (by first | (simp; done) | (simp; omega) | omega) _ | with_reducible refine Below.alloc ?_ (by first | (simp; done) | (simp; omega) | omega) _ | with_reducible refine Below.drew ?_ | with_reducible refine below_drewN ?_ _ | with_reducible exact Below.refl _ _ | with_reducible refine Below.trans ?_ (Below.mono hb3 (by first | (simp; done) | (simp; omega) | omega))))
  simp [Leaves, settle, results, Try.results48, go_sem, h6, h7]
  exact hb4
set_option maxRecDepth 100000 in
set_option maxHeartbeats 8000000 in
theorem told_2ok (x sc : Int) (y : Int) (h2 : x = 0 ∨ x = 1) (hy : mulN x sc = (y, 0)) (w : World) :
    Calls Try.prog 48 #[.int .i64 2, .int .i64 x, .int .i64 sc] w fun e w' => e = .returned (.tuple #[.int .i64 y, .int .i64 0]) ∧ Below w.heap.size w w' := by
  have hmf : ∀ (fn : Fn) (first cap : Array Value) (w : World), (Instr.makeFunc fn first cap).run Try.prog w = .ok (.func fn first cap) w := fun _ _ _ _ => rfl
  go_enter_defers Try.func48, Try.ntmps48
  go_wp2
  refine wp_loop_rounds 5 ?_
  rw [rounds_succ]
  go_wp2
  rw [rounds_succ]
  go_wp2_with (fail)
  refine (tell2_on (w.heap.size + 2) x sc y 0 _ (by go_simp) (by go_simp) (by go_simp) (by go_simp) hy h2).mono ?_; rintro e w2 ⟨rfl, rfl⟩
  go_wp2
  rw [rounds_succ]
  go_wp2
  rw [rounds_succ]
  go_wp2
  rw [rounds_succ]
  go_wp2
  refine leaves_cons (f := 76) (args := #[.pointer (some ⟨w.heap.size + 3, 0, none⟩), .pointer (some ⟨w.heap.size, 0, none⟩), .pointer (some ⟨w.heap.size + 1, 0, none⟩)]) (by simp) (by simp [go_sem]) ?_
  refine (told1_ok (w.heap.size + 3) (w.heap.size) (w.heap.size + 1) (w.heap.size + 2) (w.heap.size) y _ .returning (by omega) (by omega) (by omega) (by go_simp) (by go_simp) (by go_simp) (by omega) (by omega) (by go_simp) (by go_simp) (by go_simp) (by go_simp)).mono ?_
  rintro e u' w3 ⟨rfl, rfl, hb3, h6, h7⟩
  have hb4 : Below w.heap.size w w3 := (by repeat (first | with_reducible refine Below.setCell ?_ (by first | (simp; done) | (simp; omega) | omega) _ | with_reducible refine Below.alloc ?_ (by first | (simp; done) | (simp; omega) | omega) _ | with_reducible refine Below.drew ?_ | with_reducible refine below_drewN ?_ _ | with_reducible exact Below.refl _ _ | with_reducible refine Below.trans ?_ (Below.mono hb3 (by first | (simp; done) | (simp; omega) | omega))))
  simp [Leaves, settle, results, Try.results48, go_sem, h6, h7]
  exact hb4
set_option maxRecDepth 100000 in
set_option maxHeartbeats 8000000 in
theorem told_2bad (x sc : Int) (h2 : x = 0 ∨ x = 1) (hy : mulN x sc = (0, 10)) (w : World) :
    Calls Try.prog 48 #[.int .i64 2, .int .i64 x, .int .i64 sc] w fun e w' => e = .returned (.tuple #[.int .i64 0, .int .i64 10]) ∧ Below w.heap.size w w' := by
  have hmf : ∀ (fn : Fn) (first cap : Array Value) (w : World), (Instr.makeFunc fn first cap).run Try.prog w = .ok (.func fn first cap) w := fun _ _ _ _ => rfl
  go_enter_defers Try.func48, Try.ntmps48
  go_wp2
  refine wp_loop_rounds 5 ?_
  rw [rounds_succ]
  go_wp2
  rw [rounds_succ]
  go_wp2_with (fail)
  refine (tell2_on (w.heap.size + 2) x sc 0 10 _ (by go_simp) (by go_simp) (by go_simp) (by go_simp) hy h2).mono ?_; rintro e w2 ⟨rfl, rfl⟩
  go_wp2
  rw [rounds_succ]
  go_wp2
  rw [rounds_succ]
  go_wp2
  rw [rounds_succ]
  go_wp2
  refine leaves_cons (f := 76) (args := #[.pointer (some ⟨w.heap.size + 3, 0, none⟩), .pointer (some ⟨w.heap.size, 0, none⟩), .pointer (some ⟨w.heap.size + 1, 0, none⟩)]) (by simp) (by simp [go_sem]) ?_
  refine (told1_bad (w.heap.size + 3) (w.heap.size) (w.heap.size + 1) (w.heap.size + 2) (w.heap.size) 0 10 _ .returning (by omega) (by omega) (by omega) (by go_simp) (by go_simp) (by go_simp) (by omega) (by omega) (by go_simp) (by go_simp) (by go_simp) (by go_simp) (by rfl)).mono ?_
  rintro e u' w3 ⟨rfl, rfl, hb3, h6, h7⟩
  have hb4 : Below w.heap.size w w3 := (by repeat (first | with_reducible refine Below.setCell ?_ (by first | (simp; done) | (simp; omega) | omega) _ | with_reducible refine Below.alloc ?_ (by first | (simp; done) | (simp; omega) | omega) _ | with_reducible refine Below.drew ?_ | with_reducible refine below_drewN ?_ _ | with_reducible exact Below.refl _ _ | with_reducible refine Below.trans ?_ (Below.mono hb3 (by first | (simp; done) | (simp; omega) | omega))))
  simp [Leaves, settle, results, Try.results48, go_sem, h6, h7]
  exact hb4
set_option maxRecDepth 100000 in
set_option maxHeartbeats 8000000 in
theorem told_2off (x sc : Int) (h2 : (x != 0) = true) (h3 : (x != 1) = true) (w : World) :
    Calls Try.prog 48 #[.int .i64 2, .int .i64 x, .int .i64 sc] w fun e w' => e = .returned (.tuple #[.int .i64 0, .int .i64 49]) ∧ Below w.heap.size w w' := by
  have hmf : ∀ (fn : Fn) (first cap : Array Value) (w : World), (Instr.makeFunc fn first cap).run Try.prog w = .ok (.func fn first cap) w := fun _ _ _ _ => rfl
  go_enter_defers Try.func48, Try.ntmps48
  go_wp2
  refine wp_loop_rounds 5 ?_
  rw [rounds_succ]
  go_wp2
  rw [rounds_succ]
  go_wp2_with (fail)
  refine (tell2_off (w.heap.size + 2) x sc 0 0 _ (by go_simp) (by go_simp) (by go_simp) (by go_simp) h2 h3).mono ?_; rintro e w2 ⟨rfl, rfl⟩
  go_wp2
  rw [rounds_succ]
  go_wp2
  rw [rounds_succ]
  go_wp2
  rw [rounds_succ]
  go_wp2
  refine leaves_cons (f := 76) (args := #[.pointer (some ⟨w.heap.size + 3, 0, none⟩), .pointer (some ⟨w.heap.size, 0, none⟩), .pointer (some ⟨w.heap.size + 1, 0, none⟩)]) (by simp) (by simp [go_sem]) ?_
  refine (told1_bad (w.heap.size + 3) (w.heap.size) (w.heap.size + 1) (w.heap.size + 2) (w.heap.size) x 49 _ .returning (by omega) (by omega) (by omega) (by go_simp) (by go_simp) (by go_simp) (by omega) (by omega) (by go_simp) (by go_simp) (by go_simp) (by go_simp) (by rfl)).mono ?_
  rintro e u' w3 ⟨rfl, rfl, hb3, h6, h7⟩
  have hb4 : Below w.heap.size w w3 := (by repeat (first | with_reducible refine Below.setCell ?_ (by first | (simp; done) | (simp; omega) | omega) _ | with_reducible refine Below.alloc ?_ (by first | (simp; done) | (simp; omega) | omega) _ | with_reducible refine Below.drew ?_ | with_reducible refine below_drewN ?_ _ | with_reducible exact Below.refl _ _ | with_reducible refine Below.trans ?_ (Below.mono hb3 (by first | (simp; done) | (simp; omega) | omega))))
  simp [Leaves, settle, results, Try.results48, go_sem, h6, h7]
  exact hb4
set_option maxRecDepth 100000 in
set_option maxHeartbeats 8000000 in
theorem told_3ok (x sc : Int) (y1 y : Int) (hy1 : mulN x x = (y1, 0)) (hy : mulN y1 sc = (y, 0)) (w : World) :
    Calls Try.prog 48 #[.int .i64 3, .int .i64 x, .int .i64 sc] w fun e w' => e = .returned (.tuple #[.int .i64 y, .int .i64 0]) ∧ Below w.heap.size w w' := by
  have hmf : ∀ (fn : Fn) (first cap : Array Value) (w : World), (Instr.makeFunc fn first cap).run Try.prog w = .ok (.func fn first cap) w := fun _ _ _ _ => rfl
  go_enter_defers Try.func48, Try.ntmps48
  go_wp2
  refine wp_loop_rounds 5 ?_
  rw [rounds_succ]
  go_wp2
  rw [rounds_succ]
  go_wp2
  rw [rounds_succ]
  go_wp2_with (fail)
  refine (tell3_on (w.heap.size + 2) x sc y 0 _ (by go_simp) (by go_simp) (by go_simp) (by go_simp) y1 hy1 hy).mono ?_; rintro e w2 ⟨rfl, rfl⟩
  go_wp2
  rw [rounds_succ]
  go_wp2
  rw [rounds_succ]
  go_wp2
  refine leaves_cons (f := 76) (args := #[.pointer (some ⟨w.heap.size + 3, 0, none⟩), .pointer (some ⟨w.heap.size, 0, none⟩), .pointer (some ⟨w.heap.size + 1, 0, none⟩)]) (by simp) (by simp [go_sem]) ?_
  refine (told1_ok (w.heap.size + 3) (w.heap.size) (w.heap.size + 1) (w.heap.size + 2) (w.heap.size) y _ .returning (by omega) (by omega) (by omega) (by go_simp) (by go_simp) (by go_simp) (by omega) (by omega) (by go_simp) (by go_simp) (by go_simp) (by go_simp)).mono ?_
  rintro e u' w3 ⟨rfl, rfl, hb3, h6, h7⟩
  have hb4 : Below w.heap.size w w3 := (by repeat (first | with_reducible refine Below.setCell ?_ (by first | (simp; done) | (simp; omega) | omega) _ | with_reducible refine Below.alloc ?_ (by first | (simp; done) | (simp; omega) | omega) _ | with_reducible refine Below.drew ?_ | with_reducible refine below_drewN ?_ _ | with_reducible exact Below.refl _ _ | with_reducible refine Below.trans ?_ (Below.mono hb3 (by first | (simp; done) | (simp; omega) | omega))))
  simp [Leaves, settle, results, Try.results48, go_sem, h6, h7]
  exact hb4
set_option maxRecDepth 100000 in
set_option maxHeartbeats 8000000 in
theorem told_3bad (x sc : Int) (y1 : Int) (hy1 : mulN x x = (y1, 0)) (hy : mulN y1 sc = (0, 10)) (w : World) :
    Calls Try.prog 48 #[.int .i64 3, .int .i64 x, .int .i64 sc] w fun e w' => e = .returned (.tuple #[.int .i64 0, .int .i64 10]) ∧ Below w.heap.size w w' := by
  have hmf : ∀ (fn : Fn) (first cap : Array Value) (w : World), (Instr.makeFunc fn first cap).run Try.prog w = .ok (.func fn first cap) w := fun _ _ _ _ => rfl
  go_enter_defers Try.func48, Try.ntmps48
  go_wp2
  refine wp_loop_rounds 5 ?_
  rw [rounds_succ]
  go_wp2
  rw [rounds_succ]
  go_wp2
  rw [rounds_succ]
  go_wp2_with (fail)
  refine (tell3_on (w.heap.size + 2) x sc 0 10 _ (by go_simp) (by go_simp) (by go_simp) (by go_simp) y1 hy1 hy).mono ?_; rintro e w2 ⟨rfl, rfl⟩
  go_wp2
  rw [rounds_succ]
  go_wp2
  rw [rounds_succ]
  go_wp2
  refine leaves_cons (f := 76) (args := #[.pointer (some ⟨w.heap.size + 3, 0, none⟩), .pointer (some ⟨w.heap.size, 0, none⟩), .pointer (some ⟨w.heap.size + 1, 0, none⟩)]) (by simp) (by simp [go_sem]) ?_
  refine (told1_bad (w.heap.size + 3) (w.heap.size) (w.heap.size + 1) (w.heap.size + 2) (w.heap.size) 0 10 _ .returning (by omega) (by omega) (by omega) (by go_simp) (by go_simp) (by go_simp) (by omega) (by omega) (by go_simp) (by go_simp) (by go_simp) (by go_simp) (by rfl)).mono ?_
  rintro e u' w3 ⟨rfl, rfl, hb3, h6, h7⟩
  have hb4 : Below w.heap.size w w3 := (by repeat (first | with_reducible refine Below.setCell ?_ (by first | (simp; done) | (simp; omega) | omega) _ | with_reducible refine Below.alloc ?_ (by first | (simp; done) | (simp; omega) | omega) _ | with_reducible refine Below.drew ?_ | with_reducible refine below_drewN ?_ _ | with_reducible exact Below.refl _ _ | with_reducible refine Below.trans ?_ (Below.mono hb3 (by first | (simp; done) | (simp; omega) | omega))))
  simp [Leaves, settle, results, Try.results48, go_sem, h6, h7]
  exact hb4
set_option maxRecDepth 100000 in
set_option maxHeartbeats 8000000 in
theorem told_3off (x sc : Int) (hy1 : mulN x x = (0, 10)) (w : World) :
    Calls Try.prog 48 #[.int .i64 3, .int .i64 x, .int .i64 sc] w fun e w' => e = .returned (.tuple #[.int .i64 0, .int .i64 10]) ∧ Below w.heap.size w w' := by
  have hmf : ∀ (fn : Fn) (first cap : Array Value) (w : World), (Instr.makeFunc fn first cap).run Try.prog w = .ok (.func fn first cap) w := fun _ _ _ _ => rfl
  go_enter_defers Try.func48, Try.ntmps48
  go_wp2
  refine wp_loop_rounds 5 ?_
  rw [rounds_succ]
  go_wp2
  rw [rounds_succ]
  go_wp2
  rw [rounds_succ]
  go_wp2_with (fail)
  refine (tell3_off (w.heap.size + 2) x sc 0 0 _ (by go_simp) (by go_simp) (by go_simp) (by go_simp) hy1).mono ?_; rintro e w2 ⟨rfl, rfl⟩
  go_wp2
  rw [rounds_succ]
  go_wp2
  rw [rounds_succ]
  go_wp2
  refine leaves_cons (f := 76) (args := #[.pointer (some ⟨w.heap.size + 3, 0, none⟩), .pointer (some ⟨w.heap.size, 0, none⟩), .pointer (some ⟨w.heap.size + 1, 0, none⟩)]) (by simp) (by simp [go_sem]) ?_
  refine (told1_bad (w.heap.size + 3) (w.heap.size) (w.heap.size + 1) (w.heap.size + 2) (w.heap.size) 0 10 _ .returning (by omega) (by omega) (by omega) (by go_simp) (by go_simp) (by go_simp) (by omega) (by omega) (by go_simp) (by go_simp) (by go_simp) (by go_simp) (by rfl)).mono ?_
  rintro e u' w3 ⟨rfl, rfl, hb3, h6, h7⟩
  have hb4 : Below w.heap.size w w3 := (by repeat (first | with_reducible refine Below.setCell ?_ (by first | (simp; done) | (simp; omega) | omega) _ | with_reducible refine Below.alloc ?_ (by first | (simp; done) | (simp; omega) | omega) _ | with_reducible refine Below.drew ?_ | with_reducible refine below_drewN ?_ _ | with_reducible exact Below.refl _ _ | with_reducible refine Below.trans ?_ (Below.mono hb3 (by first | (simp; done) | (simp; omega) | omega))))
  simp [Leaves, settle, results, Try.results48, go_sem, h6, h7]
  exact hb4
set_option maxRecDepth 100000 in
set_option maxHeartbeats 8000000 in
theorem told_4ok (x sc : Int) (y : Int) (hy : mulN x 1 = (y, 0)) (w : World) :
    Calls Try.prog 48 #[.int .i64 4, .int .i64 x, .int .i64 sc] w fun e w' => e = .returned (.tuple #[.int .i64 y, .int .i64 0]) ∧ Below w.heap.size w w' := by
  have hmf : ∀ (fn : Fn) (first cap : Array Value) (w : World), (Instr.makeFunc fn first cap).run Try.prog w = .ok (.func fn first cap) w := fun _ _ _ _ => rfl
  go_enter_defers Try.func48, Try.ntmps48
  go_wp2
  refine wp_loop_rounds 5 ?_
  rw [rounds_succ]
  go_wp2
  rw [rounds_succ]
  go_wp2
  rw [rounds_succ]
  go_wp2
  rw [rounds_succ]
  go_wp2_with (fail)
  refine (tell4 (w.heap.size + 2) x sc y 0 _ (by go_simp) (by go_simp) (by go_simp) (by go_simp) hy).mono ?_; rintro e w2 ⟨rfl, rfl⟩
  go_wp2
  rw [rounds_succ]
  go_wp2
  refine leaves_cons (f := 76) (args := #[.pointer (some ⟨w.heap.size + 3, 0, none⟩), .pointer (some ⟨w.heap.size, 0, none⟩), .pointer (some ⟨w.heap.size + 1, 0, none⟩)]) (by simp) (by simp [go_sem]) ?_
  refine (told1_ok (w.heap.size + 3) (w.heap.size) (w.heap.size + 1) (w.heap.size + 2) (w.heap.size) y _ .returning (by omega) (by omega) (by omega) (by go_simp) (by go_simp) (by go_simp) (by omega) (by omega) (by go_simp) (by go_simp) (by go_simp) (by go_simp)).mono ?_
  rintro e u' w3 ⟨rfl, rfl, hb3, h6, h7⟩
  have hb4 : Below w.heap.size w w3 := (by repeat (first | with_reducible refine Below.setCell ?_ (by first | (simp; done) | (simp; omega) | omega) _ | with_reducible refine Below.alloc ?_ (by first | (simp; done) | (simp; omega) | omega) _ | with_reducible refine Below.drew ?_ | with_reducible refine below_drewN ?_ _ | with_reducible exact Below.refl _ _ | with_reducible refine Below.trans ?_ (Below.mono hb3 (by first | (simp; done) | (simp; omega) | omega))))
  simp [Leaves, settle, results, Try.results48, go_sem, h6, h7]
  exact hb4
set_option maxRecDepth 100000 in
set_option maxHeartbeats 8000000 in
theorem told_4bad (x sc : Int) (hy : mulN x 1 = (0, 10)) (w : World) :
    Calls Try.prog 48 #[.int .i64 4, .int .i64 x, .int .i64 sc] w fun e w' => e = .returned (.tuple #[.int .i64 0, .int .i64 10]) ∧ Below w.heap.size w w' := by
  have hmf : ∀ (fn : Fn) (first cap : Array Value) (w : World), (Instr.makeFunc fn first cap).run Try.prog w = .ok (.func fn first cap) w := fun _ _ _ _ => rfl
  go_enter_defers Try.func48, Try.ntmps48
  go_wp2
  refine wp_loop_rounds 5 ?_
  rw [rounds_succ]
  go_wp2
  rw [rounds_succ]
  go_wp2
  rw [rounds_succ]
  go_wp2
  rw [rounds_succ]
  go_wp2_with (fail)
  refine (tell4 (w.heap.size + 2) x sc 0 10 _ (by go_simp) (by go_simp) (by go_simp) (by go_simp) hy).mono ?_; rintro e w2 ⟨rfl, rfl⟩
  go_wp2
  rw [rounds_succ]
  go_wp2
  refine leaves_cons (f := 76) (args := #[.pointer (some ⟨w.heap.size + 3, 0, none⟩), .pointer (some ⟨w.heap.size, 0, none⟩), .pointer (some ⟨w.heap.size + 1, 0, none⟩)]) (by simp) (by simp [go_sem]) ?_
  refine (told1_bad (w.heap.size + 3) (w.heap.size) (w.heap.size + 1) (w.heap.size + 2) (w.heap.size) 0 10 _ .returning (by omega) (by omega) (by omega) (by go_simp) (by go_simp) (by go_simp) (by omega) (by omega) (by go_simp) (by go_simp) (by go_simp) (by go_simp) (by rfl)).mono ?_
  rintro e u' w3 ⟨rfl, rfl, hb3, h6, h7⟩
  have hb4 : Below w.heap.size w w3 := (by repeat (first | with_reducible refine Below.setCell ?_ (by first | (simp; done) | (simp; omega) | omega) _ | with_reducible refine Below.alloc ?_ (by first | (simp; done) | (simp; omega) | omega) _ | with_reducible refine Below.drew ?_ | with_reducible refine below_drewN ?_ _ | with_reducible exact Below.refl _ _ | with_reducible refine Below.trans ?_ (Below.mono hb3 (by first | (simp; done) | (simp; omega) | omega))))
  simp [Leaves, settle, results, Try.results48, go_sem, h6, h7]
  exact hb4
theorem mul_pair {a b : Int} (h : (mulN a b).2 = 0) : mulN a b = ((mulN a b).1, 0) := by
  rw [← h]
theorem told_any (kd x sc : Int) (h1 : 1 ≤ kd) (h4 : kd ≤ 4) (w : World) :
    Calls Try.prog 48 #[.int .i64 kd, .int .i64 x, .int .i64 sc] w fun e w' => e = .returned (.tuple #[.int .i64 (toldF kd x sc).1, .int .i64 (toldF kd x sc).2]) ∧ Below w.heap.size w w' := by
  have hk : kd = 1 ∨ kd = 2 ∨ kd = 3 ∨ kd = 4 := by omega
  rcases hk with rfl | rfl | rfl | rfl
  · have e : toldF 1 x sc = mulN x sc := rfl
    rw [e]
    rcases mulN_two x sc with h | h
    · have hp := mul_pair h
      rw [h]
      exact told_1ok x sc _ hp w
    · rw [h]
      exact told_1bad x sc h w
  · by_cases hx : x = 0 ∨ x = 1
    · have e : toldF 2 x sc = mulN x sc := by unfold toldF; rw [if_neg (by omega), if_pos rfl, if_neg (by omega)]
      rw [e]
      rcases mulN_two x sc with h | h
      · have hp := mul_pair h
        rw [h]
        exact told_2ok x sc _ hx hp w
      · rw [h]
        exact told_2bad x sc hx h w
    · have e : toldF 2 x sc = (0, 49) := by unfold toldF; rw [if_neg (by omega), if_pos rfl, if_pos (by omega)]
      rw [e]
      exact told_2off x sc (by simp; omega) (by simp; omega) w
  · rcases mulN_two x x with h | h
    · have e : toldF 3 x sc = mulN (mulN x x).1 sc := by unfold toldF; rw [if_neg (by omega), if_neg (by omega), if_pos rfl, if_neg (by omega)]
      rw [e]
      have hp := mul_pair h
      generalize (mulN x x).1 = y1 at *
      rcases mulN_two y1 sc with h' | h'
      · have hp' := mul_pair h'
        rw [h']
        exact told_3ok x sc y1 _ hp hp' w
      · rw [h']
        exact told_3bad x sc y1 hp h' w
    · have e : toldF 3 x sc = (0, 10) := by unfold toldF; rw [if_neg (by omega), if_neg (by omega), if_pos rfl, if_pos (by rw [h]; decide), h]
      rw [e]
      exact told_3off x sc h w
  · have e : toldF 4 x sc = mulN x 1 := rfl
    rw [e]
    rcases mulN_two x 1 with h | h
    · have hp := mul_pair h
      rw [h]
      exact told_4ok x sc _ hp w
    · rw [h]
      exact told_4bad x sc h w
end Go.Proofs.Ytfihkkamedghkaa
