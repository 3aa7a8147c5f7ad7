/- The functions of layer 9 (reg) and of its reference: what each call computes, for every argument. -/
import Derived.Test.YtaakbpnaifpcbaaRows
import Derived.WalkKit
import Derived.WalkSpells
import Derived.WalkLawsBesides
import Derived.Deep.QuietTactic
import Derived.BigQuiet
import Derived.Lib.Hide
namespace Go.Proofs.Ytaakbpnaifpcbaa
open Go.RowKit

theorem bcell {W w1 : World} (hb : Below W.heap.size W w1) : (∀ b o, b < W.heap.size → w1.cell? ⟨b, o, none⟩ = W.cell? ⟨b, o, none⟩) ∧ (∀ b o, b < W.heap.size → w1.frozen? ⟨b, o, none⟩ = W.frozen? ⟨b, o, none⟩) :=
  ⟨fun b o h => hb.cell (p := ⟨b, o, none⟩) h, fun b o h => hb.frozen (p := ⟨b, o, none⟩) h⟩

/-- A register: its version, its writer, its flow. -/
structure R where
  ver : Int
  wr : Int
  flow : Int
deriving DecidableEq

def nodeB (a : Int) : Bool := decide (0 ≤ a) && decide (a < 16)
def flowsB (a : Int) : Bool := decide (-2147483647 ≤ a) && decide (a ≤ 2147483647)
def fitB (v wr f a b : Int) : Bool :=
  (nodeB a && nodeB b && !decide (a = b)) && ((decide (v = 0) && decide (wr = 0) && decide (f = 0)) || (decide (1 ≤ v) && decide (v ≤ 1099511627776) && (decide (wr = a) || decide (wr = b)) && flowsB f))
def newerB (v wr v2 wr2 : Int) : Bool := decide (v2 < v) || decide (v = v2) && decide (wr < wr2)

theorem nodeB_def {a : Int} : nodeB a = true ↔ 0 ≤ a ∧ a < 16 := by simp [nodeB]
theorem flowsB_def {a : Int} : flowsB a = true ↔ -2147483647 ≤ a ∧ a ≤ 2147483647 := by simp [flowsB]

theorem node_any (a : Int) (w : World) :
    Calls Try.prog 26 #[.int .i64 a] w fun e w' => e = .returned (.bool (nodeB a)) ∧ w = w' := by
  go_enter Try.func26, Try.ntmps26
  go_wp2
  all_goals go_ret
  all_goals exact ⟨by simp [nodeB, *] <;> omega, rfl⟩
theorem rnode_any (a : Int) (w : World) :
    Calls Try.prog 21 #[.int .i64 a] w fun e w' => e = .returned (.bool (nodeB a)) ∧ w = w' := by
  go_enter Try.func21, Try.ntmps21
  go_wp2
  all_goals go_ret
  all_goals exact ⟨by simp [nodeB, *] <;> omega, rfl⟩
theorem flows_any (a : Int) (w : World) :
    Calls Try.prog 27 #[.int .i64 a] w fun e w' => e = .returned (.bool (flowsB a)) ∧ w = w' := by
  go_enter Try.func27, Try.ntmps27
  go_wp2
  all_goals go_ret
  all_goals exact ⟨by simp [flowsB, *] <;> omega, rfl⟩
set_option maxHeartbeats 1000000 in
theorem fit_any (v wr f a b : Int) (w : World) :
    Calls Try.prog 25 #[.agg #[.int .i64 v, .int .i64 wr, .int .i64 f], .int .i64 a, .int .i64 b] w fun e w' => e = .returned (.bool (fitB v wr f a b)) ∧ Below w.heap.size w w' := by
  go_enter Try.func25, Try.ntmps25
  go_wp2_with (first | (go_at_call 26; refine (node_any _ _).mono ?_; rintro e w' ⟨rfl, rfl⟩) | (go_at_call 27; refine (flows_any _ _).mono ?_; rintro e w' ⟨rfl, rfl⟩))
  all_goals go_ret
  all_goals exact ⟨by simp_all [fitB] <;> omega, (Below.refl _ _).alloc (Nat.le_refl _) _⟩
set_option maxHeartbeats 1000000 in
theorem rfit_any (v wr f a b : Int) (w : World) :
    Calls Try.prog 16 #[.agg #[.int .i64 v, .int .i64 wr, .int .i64 f], .int .i64 a, .int .i64 b] w fun e w' => e = .returned (.bool (fitB v wr f a b)) ∧ Below w.heap.size w w' := by
  go_enter Try.func16, Try.ntmps16
  go_wp2_with (first | (go_at_call 21; refine (rnode_any _ _).mono ?_; rintro e w' ⟨rfl, rfl⟩))
  all_goals go_ret
  all_goals exact ⟨by simp_all [fitB, flowsB] <;> omega, (Below.refl _ _).alloc (Nat.le_refl _) _⟩
/-- The newer one, or the first. -/
def mergeR (a b : R) : R := if newerB b.ver b.wr a.ver a.wr then b else a
theorem fitB_bd {v wr f a b : Int} (h : fitB v wr f a b = true) : 0 ≤ v ∧ v ≤ 1099511627776 ∧ -2147483647 ≤ f ∧ f ≤ 2147483647 := by
  simp [fitB, flowsB] at h; omega
/-- What the edge takes from a node. -/
def outR (v wr f me peer : Int) : Int := if fitB v wr f me peer then (if me < peer then f else -f) else 0
set_option maxHeartbeats 1000000 in
theorem out_any (v wr f a b : Int) (w : World) :
    Calls Try.prog 24 #[.agg #[.int .i64 v, .int .i64 wr, .int .i64 f], .int .i64 a, .int .i64 b] w fun e w' => e = .returned (.int .i64 (outR v wr f a b)) ∧ Below w.heap.size w w' := by
  by_cases h : fitB v wr f a b = true
  · obtain ⟨g1, g2, g3, g4⟩ := fitB_bd h
    by_cases h2 : a < b
    all_goals
      go_enter Try.func24, Try.ntmps24
      go_wp2_with (fail)
      refine (fit_any _ _ _ _ _ _).mono ?_; rintro e w1 ⟨rfl, hb1⟩; obtain ⟨hc1, hf1⟩ := bcell hb1; have hz1 := hb1.size; (try simp at hz1)
      go_wp2
      go_ret
      exact ⟨by first | (simp [outR, h, h2]; done) | (simp [outR, h]; intros; omega), (by repeat (first | with_reducible refine Below.setCell ?_ (by first | (simp; done) | (simp; omega) | omega) _ | with_reducible refine Below.alloc ?_ (by first | (simp; done) | (simp; omega) | omega) _ | with_reducible refine Below.drew ?_ | with_reducible refine below_drewN ?_ _ | with_reducible exact Below.refl _ _ | with_reducible refine Below.trans ?_ (Below.mono hb1 (by first | (simp; done) | (simp; omega) | omega))))⟩
  · go_enter Try.func24, Try.ntmps24
    go_wp2_with (fail)
    refine (fit_any _ _ _ _ _ _).mono ?_; rintro e w1 ⟨rfl, hb1⟩; obtain ⟨hc1, hf1⟩ := bcell hb1; have hz1 := hb1.size; (try simp at hz1)
    go_wp2
    go_ret
    exact ⟨by simp [outR, h], (by repeat (first | with_reducible refine Below.setCell ?_ (by first | (simp; done) | (simp; omega) | omega) _ | with_reducible refine Below.alloc ?_ (by first | (simp; done) | (simp; omega) | omega) _ | with_reducible refine Below.drew ?_ | with_reducible refine below_drewN ?_ _ | with_reducible exact Below.refl _ _ | with_reducible refine Below.trans ?_ (Below.mono hb1 (by first | (simp; done) | (simp; omega) | omega))))⟩
set_option maxHeartbeats 1000000 in
theorem rout_any (v wr f a b : Int) (w : World) :
    Calls Try.prog 9 #[.agg #[.int .i64 v, .int .i64 wr, .int .i64 f], .int .i64 a, .int .i64 b] w fun e w' => e = .returned (.int .i64 (outR v wr f a b)) ∧ Below w.heap.size w w' := by
  by_cases h : fitB v wr f a b = true
  · obtain ⟨g1, g2, g3, g4⟩ := fitB_bd h
    by_cases h2 : a < b
    all_goals
      go_enter Try.func9, Try.ntmps9
      go_wp2_with (fail)
      refine (rfit_any _ _ _ _ _ _).mono ?_; rintro e w1 ⟨rfl, hb1⟩; obtain ⟨hc1, hf1⟩ := bcell hb1; have hz1 := hb1.size; (try simp at hz1)
      go_wp2
      go_ret
      exact ⟨by first | (simp [outR, h, h2]; done) | (simp [outR, h]; intros; omega), (by repeat (first | with_reducible refine Below.setCell ?_ (by first | (simp; done) | (simp; omega) | omega) _ | with_reducible refine Below.alloc ?_ (by first | (simp; done) | (simp; omega) | omega) _ | with_reducible refine Below.drew ?_ | with_reducible refine below_drewN ?_ _ | with_reducible exact Below.refl _ _ | with_reducible refine Below.trans ?_ (Below.mono hb1 (by first | (simp; done) | (simp; omega) | omega))))⟩
  · go_enter Try.func9, Try.ntmps9
    go_wp2_with (fail)
    refine (rfit_any _ _ _ _ _ _).mono ?_; rintro e w1 ⟨rfl, hb1⟩; obtain ⟨hc1, hf1⟩ := bcell hb1; have hz1 := hb1.size; (try simp at hz1)
    go_wp2
    go_ret
    exact ⟨by simp [outR, h], (by repeat (first | with_reducible refine Below.setCell ?_ (by first | (simp; done) | (simp; omega) | omega) _ | with_reducible refine Below.alloc ?_ (by first | (simp; done) | (simp; omega) | omega) _ | with_reducible refine Below.drew ?_ | with_reducible refine below_drewN ?_ _ | with_reducible exact Below.refl _ _ | with_reducible refine Below.trans ?_ (Below.mono hb1 (by first | (simp; done) | (simp; omega) | omega))))⟩
/-- The flow behind a move. -/
def flowR (f a b amt : Int) : Int := if b < a then f - amt else f + amt
/-- What comes of a move: the register, and the error's number. -/
def moveR (r : R) (a b amt w : Int) : R × Int :=
  if fitB r.ver r.wr r.flow a b && (decide (w = a) || decide (w = b)) then
    if flowsB amt then
      if amt = 0 then (r, 0) else
        if decide (r.ver = 1099511627776) || !flowsB (flowR r.flow a b amt) then (⟨0, 0, 0⟩, 10) else (⟨r.ver + 1, w, flowR r.flow a b amt⟩, 0)
    else (⟨0, 0, 0⟩, 10)
  else (⟨0, 0, 0⟩, 31)
end Go.Proofs.Ytaakbpnaifpcbaa
