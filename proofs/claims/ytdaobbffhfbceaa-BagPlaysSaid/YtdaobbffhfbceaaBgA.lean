/- A bag in memory; there, pair, New, Len: what each call computes. -/
import Derived.Test.YtdaobbffhfbceaaBgM
import Derived.Test.YtdaobbffhfbceaaApp
import Derived.Test.YtdaobbffhfbceaaRngP
import Derived.Lib.Hide
namespace Go.Proofs.Ytdaobbffhfbceaa
open Go.RowKit Go.Maps
set_option linter.unusedVariables false
set_option linter.unusedSimpArgs false
set_option maxRecDepth 100000
/-- w' is w but for the blocks of F, and what is new. -/
structure Turn (F : List Nat) (w w' : World) : Prop where
  io : SameIO w w'
  size : w.heap.size ≤ w'.heap.size
  block : ∀ b, b < w.heap.size → b ∉ F → w'.heap[b]? = w.heap[b]?
theorem Turn.refl (F : List Nat) (w : World) : Turn F w w := ⟨SameIO.refl _, Nat.le_refl _, fun _ _ _ => rfl⟩
theorem Turn.trans {F F' : List Nat} {w w' w'' : World} (h : Turn F w w') (k : Turn F' w' w'') (hF : ∀ b ∈ F', b ∈ F ∨ w.heap.size ≤ b) : Turn F w w'' :=
  ⟨h.io.trans k.io, Nat.le_trans h.size k.size, fun b hb hn => (k.block b (Nat.lt_of_lt_of_le hb h.size) (fun hm => (hF b hm).elim hn (fun h => by omega))).trans (h.block b hb hn)⟩
theorem Turn.below {F : List Nat} {w w' : World} {B : Nat} (h : Below B w w') (hB : w.heap.size ≤ B) : Turn F w w' := ⟨SameIO.below h, h.size, fun b hb _ => h.block b (by omega)⟩
theorem Turn.to_below {F : List Nat} {w w' : World} {B : Nat} (h : Turn F w w') (hF : ∀ b ∈ F, B ≤ b) (hB : B ≤ w.heap.size) : Below B w w' :=
  ⟨h.io.1, h.io.2.1, h.io.2.2, h.size, fun b hb => h.block b (by omega) (fun hm => by have := hF b hm; omega)⟩
theorem Turn.mono {F F' : List Nat} {w w' : World} (h : Turn F w w') (hF : ∀ b ∈ F, b ∈ F' ∨ w.heap.size ≤ b) : Turn F' w w' :=
  ⟨h.io, h.size, fun b hb hn => h.block b hb (fun hm => (hF b hm).elim hn (fun h => by omega))⟩
theorem Turn.cell {F : List Nat} {w w' : World} (h : Turn F w w') {p : Addr} {v : Value} (hp : p.block ∉ F) (hc : w.cell? p = some v) : w'.cell? p = some v :=
  (World.cell?_of_block (h.block p.block (cell_lt hc) hp)).trans hc
theorem frozen_of_block {w w' : World} {p : Addr} (h : w'.heap[p.block]? = w.heap[p.block]?) : w'.frozen? p = w.frozen? p := by unfold World.frozen?; rw [h]
theorem Turn.setCell {F : List Nat} {w w' : World} (h : Turn F w w') {p : Addr} (hp : p.block ∈ F ∨ w.heap.size ≤ p.block) (v : Value) : Turn F w (w'.setCell p v) :=
  ⟨h.io.trans (SameIO.setCell _ _ _), by simpa using h.size, fun b hb hn => (Below.heap_setCell _ _ _ _ (fun e => by
    subst e
    rcases hp with hp | hp
    · exact hn hp
    · omega)).trans (h.block b hb hn)⟩
theorem Turn.grown {F : List Nat} {w w' w'' : World} (h : Turn F w w') {row : Option Nat} (hg : w'.grownBy w'' row) (hr : ∀ j, row = some j → j ∈ F ∨ w.heap.size ≤ j) : Turn F w w'' :=
  ⟨h.io.trans ⟨hg.os, hg.tape, hg.output⟩, Nat.le_trans h.size hg.size, fun b hb hn => (hg.block b (Nat.lt_of_lt_of_le hb h.size) (fun e => (hr b e.symm).elim hn (fun h => by omega))).trans (h.block b hb hn)⟩
theorem bcell {W w1 : World} (hb : Below W.heap.size W w1) : (∀ b o, b < W.heap.size → w1.cell? ⟨b, o, none⟩ = W.cell? ⟨b, o, none⟩) ∧ (∀ b o, b < W.heap.size → w1.frozen? ⟨b, o, none⟩ = W.frozen? ⟨b, o, none⟩) :=
  ⟨fun b o h => hb.cell (p := ⟨b, o, none⟩) h, fun b o h => hb.frozen (p := ⟨b, o, none⟩) h⟩
abbrev RowD (w : World) (lv : Value) (ls : List Dg) : Prop := OwnE encD 4 33 w 0 lv ls
/-- A bag in memory: its struct in block Bb, its map in block bm, its list lv. -/
structure BagAt (w : World) (Bb bm : Nat) (lv : Value) (s : BS) : Prop where
  c0 : w.cell? ⟨Bb, 0, none⟩ = some (.bool true)
  c1 : w.cell? ⟨Bb, 1, none⟩ = some (.int .i64 s.nx)
  c2 : w.cell? ⟨Bb, 2, none⟩ = some lv
  c3 : w.cell? ⟨Bb, 3, none⟩ = some (.map (some bm))
  f1 : w.frozen? ⟨Bb, 1, none⟩ = false
  f2 : w.frozen? ⟨Bb, 2, none⟩ = false
  row : RowD w lv s.ls
  map : MapAt w bm s.sv
  ne : lv.ownBlock ≠ some Bb
  ok : OkS s
def foot (Bb bm : Nat) (lv : Value) : List Nat := Bb :: bm :: lv.ownBlock.toList
theorem row_same {w w' : World} {lv : Value} {ls : List Dg} (h : RowD w lv ls) (hb : ∀ b, lv.ownBlock = some b → w'.heap[b]? = w.heap[b]?) : RowD w' lv ls := by
  refine ⟨h.1, ?_⟩
  rcases h.2 with hn | ⟨g, cap, cur, hv, h1, h2, h3⟩
  · exact .inl hn
  · exact .inr ⟨g, cap, cur, hv, h1, (hb g (by rw [hv]; rfl)).trans h2, h3⟩
theorem row_obj {w : World} {lv : Value} {ls : List Dg} (h : RowD w lv ls) {b : Nat} (hb : lv.ownBlock = some b) : b < w.heap.size ∧ ∃ o, w.heap[b]? = some o ∧ o.isCells = true := by
  rcases h.2 with ⟨rfl, _⟩ | ⟨g, cap, cur, rfl, h1, h2, h3⟩
  · simp [Value.ownBlock] at hb
  · obtain rfl : g = b := by simpa [Value.ownBlock] using hb
    exact ⟨(Array.getElem?_eq_some_iff.1 h2).1, _, h2, rfl⟩
theorem BagAt.ne_map {w : World} {Bb bm : Nat} {lv : Value} {s : BS} (h : BagAt w Bb bm lv s) : Bb ≠ bm ∧ lv.ownBlock ≠ some bm := by
  obtain ⟨es, ck, hm⟩ := h.map.obj
  refine ⟨fun e => ?_, fun e => ?_⟩
  · subst e
    have := h.c0
    unfold World.cell? at this
    rw [hm] at this
    simp at this
  · obtain ⟨_, o, ho, hc⟩ := row_obj h.row e
    rw [hm] at ho
    cases ho
    cases hc
theorem BagAt.lt {w : World} {Bb bm : Nat} {lv : Value} {s : BS} (h : BagAt w Bb bm lv s) : ∀ b ∈ foot Bb bm lv, b < w.heap.size := by
  intro b hb
  simp only [foot, List.mem_cons, Option.mem_toList] at hb
  rcases hb with rfl | rfl | hb
  · exact cell_lt h.c0
  · exact h.map.lt
  · exact (row_obj h.row hb).1
/-- A bag lies on where none of its blocks has turned. -/
theorem BagAt.same {w w' : World} {Bb bm : Nat} {lv : Value} {s : BS} (h : BagAt w Bb bm lv s) (hb : ∀ b ∈ foot Bb bm lv, w'.heap[b]? = w.heap[b]?) : BagAt w' Bb bm lv s := by
  have h1 := hb Bb (by simp [foot])
  have h2 := hb bm (by simp [foot])
  have h3 : ∀ b, lv.ownBlock = some b → w'.heap[b]? = w.heap[b]? := fun b e => hb b (by simp [foot, e])
  exact ⟨(World.cell?_of_block (a := ⟨Bb, 0, none⟩) h1).trans h.c0, (World.cell?_of_block (a := ⟨Bb, 1, none⟩) h1).trans h.c1, (World.cell?_of_block (a := ⟨Bb, 2, none⟩) h1).trans h.c2, (World.cell?_of_block (a := ⟨Bb, 3, none⟩) h1).trans h.c3,
    (frozen_of_block (p := ⟨Bb, 1, none⟩) h1).trans h.f1, (frozen_of_block (p := ⟨Bb, 2, none⟩) h1).trans h.f2, row_same h.row h3, h.map.same h2, h.ne, h.ok⟩
theorem BagAt.turn {w w' : World} {Bb bm : Nat} {lv : Value} {s : BS} {F : List Nat} (h : BagAt w Bb bm lv s) (ht : Turn F w w') (hF : ∀ b ∈ foot Bb bm lv, b ∉ F) : BagAt w' Bb bm lv s :=
  h.same fun b hb => ht.block b (h.lt b hb) (hF b hb)
theorem BagAt.below {w w' : World} {Bb bm : Nat} {lv : Value} {s : BS} (h : BagAt w Bb bm lv s) (ht : Below w.heap.size w w') : BagAt w' Bb bm lv s :=
  h.same fun b hb => ht.block b (h.lt b hb)
/-- The list may have moved to a new block. -/
def Moved (w : World) (lv lv' : Value) : Prop := lv'.ownBlock = lv.ownBlock ∨ ∃ b, lv'.ownBlock = some b ∧ w.heap.size ≤ b
theorem Moved.refl (w : World) (lv : Value) : Moved w lv lv := .inl rfl
theorem Moved.foot {w : World} {lv lv' : Value} (h : Moved w lv lv') {Bb bm : Nat} : ∀ b ∈ foot Bb bm lv', b ∈ foot Bb bm lv ∨ w.heap.size ≤ b := by
  intro b hb
  simp only [Go.Proofs.Ytdaobbffhfbceaa.foot, List.mem_cons, Option.mem_toList] at hb ⊢
  rcases hb with rfl | rfl | hb
  · exact .inl (.inl rfl)
  · exact .inl (.inr (.inl rfl))
  · rcases h with h | ⟨b', h, h2⟩
    · rw [h] at hb
      exact .inl (.inr (.inr hb))
    · rw [h] at hb
      obtain rfl := Option.some.inj hb
      exact .inr h2
theorem Moved.trans {w w' : World} {a b c : Value} (h : Moved w a b) (k : Moved w' b c) (hs : w.heap.size ≤ w'.heap.size) : Moved w a c := by
  rcases k with k | ⟨r, k, k2⟩
  · rcases h with h | ⟨r, h, h2⟩
    · exact .inl (k.trans h)
    · exact .inr ⟨r, k.trans h, h2⟩
  · exact .inr ⟨r, k, by omega⟩
/-! ### there, pair, New, Len -/
theorem there_any (Bb : Nat) (w : World) (h : w.cell? ⟨Bb, 0, none⟩ = some (.bool true)) :
    Calls Try.prog 23 #[.pointer (some ⟨Bb, 0, none⟩)] w fun e w' => e = .returned (.bool true) ∧ w = w' := by
  go_enter Try.func23, Try.ntmps23
  go_wp2
  go_ret
  exact ⟨rfl, rfl⟩
theorem there_off (Bb : Nat) (w : World) (h : w.cell? ⟨Bb, 0, none⟩ = some (.bool false)) :
    Calls Try.prog 23 #[.pointer (some ⟨Bb, 0, none⟩)] w fun e w' => e = .returned (.bool false) ∧ w = w' := by
  go_enter Try.func23, Try.ntmps23
  go_wp2
  go_ret
  exact ⟨rfl, rfl⟩
theorem there_nil (w : World) :
    Calls Try.prog 23 #[.pointer none] w fun e w' => e = .returned (.bool false) ∧ w = w' := by
  go_enter Try.func23, Try.ntmps23
  go_wp2
  go_ret
  exact ⟨rfl, rfl⟩
theorem pair_any (a b : Int) (w : World) :
    Calls Try.prog 24 #[.int .i64 a, .int .i64 b] w fun e w' => e = .returned (lAgg (lnk a b)) ∧ Below w.heap.size w w' := by
  go_enter Try.func24, Try.ntmps24
  go_wp2
  all_goals refine bodyPost_ret (v := lAgg (lnk a b)) (by simp [results, Try.results24, go_sem, lnk]; try omega) rfl ⟨rfl, (by repeat (first | with_reducible refine Below.setCell ?_ (by first | (simp; done) | (simp; omega) | omega) _ | with_reducible refine Below.alloc ?_ (by first | (simp; done) | (simp; omega) | omega) _ | with_reducible refine Below.drew ?_ | with_reducible refine below_drewN ?_ _ | with_reducible exact Below.refl _ _))⟩
theorem new_any (w : World) :
    Calls Try.prog 7 #[] w fun e w' => e = .returned (.pointer (some ⟨w.heap.size + 1, 0, none⟩)) ∧ BagAt w' (w.heap.size + 1) w.heap.size (.slice none 0 0) BS0 ∧ Below w.heap.size w w' := by
  have hmm := @run_makeMap Try.prog
  go_enter Try.func7, Try.ntmps7
  go_wp2
  go_ret
  refine ⟨rfl, ⟨by go_simp, by go_simp; rfl, by go_simp, by go_simp, by go_simp, by go_simp, OwnE.nil _ _ _, (mapAt_made w).same (Below.heap_alloc _ _ _ (by simp)), by simp [Value.ownBlock], okS0⟩, (by repeat (first | with_reducible refine Below.setCell ?_ (by first | (simp; done) | (simp; omega) | omega) _ | with_reducible refine Below.alloc ?_ (by first | (simp; done) | (simp; omega) | omega) _ | with_reducible refine Below.drew ?_ | with_reducible refine below_drewN ?_ _ | with_reducible exact Below.refl _ _))⟩
theorem row_len {w : World} {lv : Value} {ls : List Dg} (h : RowD w lv ls) : ∃ A c, lv = .slice A ls.length c := row_slice' h
theorem len_any (Bb bm : Nat) (lv : Value) (s : BS) (w : World) (h : BagAt w Bb bm lv s) :
    Calls Try.prog 10 #[.pointer (some ⟨Bb, 0, none⟩)] w fun e w' => e = .returned (.int .i64 s.ls.length) ∧ w = w' := by
  have c0 := h.c0
  have c2 := h.c2
  obtain ⟨A, c, rfl⟩ := row_len h.row
  clear h
  go_enter Try.func10, Try.ntmps10
  go_wp2_with (fail)
  refine (there_any _ _ c0).mono ?_; rintro e w1 ⟨rfl, rfl⟩
  go_wp2
  go_ret
  exact ⟨rfl, rfl⟩
theorem len_none (p : Value) (w : World) (h : Calls Try.prog 23 #[p] w fun e w' => e = .returned (.bool false) ∧ w = w') :
    Calls Try.prog 10 #[p] w fun e w' => e = .returned (.int .i64 0) ∧ w = w' := by
  have H := Lib.hid h
  clear h
  go_enter Try.func10, Try.ntmps10
  go_wp2_with (fail)
  refine H.out.mono ?_; rintro e w1 ⟨rfl, rfl⟩
  go_wp2
  go_ret
  exact ⟨rfl, rfl⟩
end Go.Proofs.Ytdaobbffhfbceaa
