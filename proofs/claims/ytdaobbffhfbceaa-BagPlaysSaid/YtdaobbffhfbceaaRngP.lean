/- A range over an iterator that makes and writes blocks of its own between two rounds, its body appending onto a row that a box of its own (Bo) holds, and writing another box (Bw). The body never leaves the loop. -/
import Derived.Test.YtdaobbffhfbceaaQuiet
import Derived.RangeFuncNested
import Derived.RangeFuncBound
import Derived.RangeFuncCalls
import Derived.RangeFuncLeaves
import Derived.RangeFuncBox
import Derived.Shelf.Abstract
import Derived.Shelf.RegionOpen
import Derived.OwnWalkIn
import Derived.TacticsInMore
import Derived.LoopNIn
import Derived.LoopIn
namespace Go.Proofs.Ytdaobbffhfbceaa
open Go.RowKit Go.Shelf
set_option linter.unusedVariables false
/-- The block of the row that box Bo holds. -/
def rowB (Bo : Nat) (W : World) : Option Nat := match W.cell? ⟨Bo, 0, none⟩ with
  | some v => v.ownBlock
  | none => none
theorem rowB_same {Bo : Nat} {A C : World} (h : C.heap[Bo]? = A.heap[Bo]?) : rowB Bo C = rowB Bo A := by
  unfold rowB World.cell?
  rw [h]
/-- The world outside the heap is one. -/
def SameIO (A C : World) : Prop := C.os = A.os ∧ C.tape = A.tape ∧ C.output = A.output
theorem SameIO.refl (A : World) : SameIO A A := ⟨rfl, rfl, rfl⟩
theorem SameIO.trans {A C E : World} (h : SameIO A C) (k : SameIO C E) : SameIO A E := ⟨k.1.trans h.1, k.2.1.trans h.2.1, k.2.2.trans h.2.2⟩
theorem SameIO.below {B : Nat} {A C : World} (h : Below B A C) : SameIO A C := ⟨h.os, h.tape, h.output⟩
theorem SameIO.setCell (W : World) (p : Addr) (v : Value) : SameIO W (W.setCell p v) := by
  unfold World.setCell
  split <;> exact ⟨rfl, rfl, rfl⟩
/-- What the iterator does: what lies below D, the row, and whatever is no cells lie on. -/
def Fr (D Bo : Nat) (A C : World) : Prop :=
  A.heap.size ≤ C.heap.size ∧ (∀ b, b < A.heap.size → (b < D ∨ rowB Bo A = some b ∨ ∃ o, A.heap[b]? = some o ∧ o.isCells = false) → C.heap[b]? = A.heap[b]?) ∧ SameIO A C
/-- What a body's own fact stands through. -/
def FrI (D Bo : Nat) (A C : World) : Prop := A.heap.size ≤ C.heap.size ∧ (∀ b, b < A.heap.size → (b < D ∨ rowB Bo A = some b) → C.heap[b]? = A.heap[b]?) ∧ SameIO A C
theorem Fr.I {D Bo : Nat} {A C : World} (h : Fr D Bo A C) : FrI D Bo A C := ⟨h.1, fun b hb hc => h.2.1 b hb (hc.imp id .inl), h.2.2⟩
theorem Fr.refl (D Bo : Nat) (A : World) : Fr D Bo A A := ⟨Nat.le_refl _, fun _ _ _ => rfl, SameIO.refl _⟩
theorem Fr.trans {D Bo : Nat} {A C E : World} (hD : Bo < D) (hDA : D ≤ A.heap.size) (h : Fr D Bo A C) (k : Fr D Bo C E) : Fr D Bo A E := by
  have hr : rowB Bo C = rowB Bo A := rowB_same (h.2.1 Bo (by omega) (.inl hD))
  refine ⟨Nat.le_trans h.1 k.1, fun b hb hc => ?_, h.2.2.trans k.2.2⟩
  have h1 := h.2.1 b hb hc
  refine (k.2.1 b (Nat.lt_of_lt_of_le hb h.1) ?_).trans h1
  rcases hc with hc | hc | ⟨o, ho, hc⟩
  · exact .inl hc
  · exact .inr (.inl (by rw [hr]; exact hc))
  · exact .inr (.inr ⟨o, by rw [h1]; exact ho, hc⟩)
theorem Fr.alloc {D Bo : Nat} {A : World} (o : Obj) : Fr D Bo A (A.alloc o) := ⟨by simp, fun b hb _ => Below.heap_alloc _ _ _ hb, ⟨rfl, rfl, rfl⟩⟩
theorem Fr.drew {D Bo : Nat} {A : World} : Fr D Bo A A.drew := ⟨Nat.le_refl _, fun _ _ _ => rfl, ⟨rfl, rfl, rfl⟩⟩
theorem Fr.below {D Bo : Nat} {A C : World} (hb : Below A.heap.size A C) : Fr D Bo A C := ⟨hb.size, fun b h _ => hb.block b h, SameIO.below hb⟩
/-- What a round does: whatever cells there are but for the two boxes and the row lie on. -/
def Kp (D Bo Bw : Nat) (A C : World) : Prop :=
  A.heap.size ≤ C.heap.size ∧ (rowB Bo C = rowB Bo A ∨ ∃ r, rowB Bo C = some r ∧ A.heap.size ≤ r) ∧
  ∀ (b : Nat) (o : Obj), b ≠ Bo → b ≠ Bw → (b < D ∨ rowB Bo A ≠ some b) → A.heap[b]? = some o → o.isCells = true → C.heap[b]? = some o
theorem Kp.refl (D Bo Bw : Nat) (A : World) : Kp D Bo Bw A A := ⟨Nat.le_refl _, .inl rfl, fun _ _ _ _ _ h _ => h⟩
theorem Kp.trans {D Bo Bw : Nat} {A C E : World} (h : Kp D Bo Bw A C) (k : Kp D Bo Bw C E) : Kp D Bo Bw A E := by
  obtain ⟨h1, h2, h3⟩ := h
  obtain ⟨k1, k2, k3⟩ := k
  refine ⟨Nat.le_trans h1 k1, ?_, fun b o hb hw hc ho hcl => ?_⟩
  · rcases k2 with k2 | ⟨r, k2, k4⟩
    · rw [k2]
      exact h2
    · exact .inr ⟨r, k2, Nat.le_trans h1 k4⟩
  · have h4 := h3 b o hb hw hc ho hcl
    refine k3 b o hb hw ?_ h4 hcl
    rcases hc with hc | hc
    · exact .inl hc
    · rcases h2 with h2 | ⟨r, h2, h5⟩
      · exact .inr (by rw [h2]; exact hc)
      · refine .inr fun e => ?_
        rw [h2] at e
        cases e
        have := (Array.getElem?_eq_some_iff.1 ho).1
        omega
theorem Kp.putObj {D Bo Bw l : Nat} (W : World) (o' : Obj) (hl : Bo < l) {o : Obj} (ho : W.heap[l]? = some o) (hc : o.isCells = false) : Kp D Bo Bw W (W.putObj l o') := by
  refine ⟨Nat.le_of_eq (World.putObj_size ..).symm, .inl (rowB_same (World.putObj_heap_other (by omega))), fun b o2 _ _ _ h h2 => ?_⟩
  by_cases e : b = l
  · subst e
    rw [ho] at h
    cases h
    rw [hc] at h2
    cases h2
  · exact (World.putObj_heap_other e).trans h
/-- What an iterator says that makes and writes blocks of its own, and that comes to its end. -/
def SeqP {α : Type} (n : Nat) (P : Program) (g : Nat) (lb : Array Value) (encs : α → Array Value) (Pt : α → World → Prop) (Bo Bw N : Nat) (S : List α → Prop) (w : World) : Prop :=
  ∀ (l : Nat) (J : List α → World → Prop) (W : World), Below w.heap.size w W → (∀ s A, J s A → w.heap.size ≤ A.heap.size ∧ ∀ r, rowB Bo A = some r → w.heap.size ≤ r ∧ r < A.heap.size) →
    (∀ s A C, J s A → Fr w.heap.size Bo A C → J s C) →
    (∀ pre x W1, J pre W1 → Pt x W1 → pre.length < N → YieldAt Fence.wide (n - 1) P l (encs x) W1 fun e W' => e = .returned (.bool true) ∧ J (pre ++ [x]) W' ∧ Kp w.heap.size Bo Bw W1 W') →
    J [] W → CallsIn Fence.wide n P g (#[.func (.yield l) #[] #[]] ++ lb) W fun e W' => (∃ v, e = .returned v) ∧ ∃ xs, S xs ∧ J xs W'
def postP {α : Type} (B D Bo Bw : Nat) (I : List α → World → Prop) (xs : List α) (W : World) : Exit → Act → World → Prop
  | .normal, _, W' => KeepsFrom B W W' ∧ Kp D Bo Bw W W' ∧ I xs W'
  | _, _, _ => False
theorem wpIn_range_p {α : Type} {P : Program} {n : Nat} {g : Operand} {ps : Array Tmp} {assign body : Code} {Q : Exit → Act → World → Prop} {a : Act} {w : World}
    (hn : 1 ≤ n) {gf : Nat} {lb : Array Value} (hg : a.eval g = .func (.func gf) #[] lb) (eg : ∀ args w, (callFunc gf args).run P w = .ok (.enter gf args) w)
    {encs : α → Array Value} {Pt : α → World → Prop} {Bo Bw N : Nat} {S : List α → Prop} (hBo : Bo < w.heap.size) (hseq : SeqP (n - 1) P gf lb encs Pt Bo Bw N S w) (hps : ∀ x, (encs x).size = ps.size)
    (I : List α → World → Prop) (hIr : ∀ s A, I s A → w.heap.size ≤ A.heap.size ∧ ∀ r, rowB Bo A = some r → w.heap.size ≤ r ∧ (∃ o, A.heap[r]? = some o ∧ o.isCells = true)) (hIF : ∀ s A C, I s A → FrI w.heap.size Bo A C → I s C)
    (hPt : ∀ x A C, Pt x A → (∀ (b : Nat) (o : Obj), A.heap[b]? = some o → o.isCells = true → C.heap[b]? = some o) → Pt x C)
    (h0 : I [] w) (Ax : α → Act)
    (hassign : ∀ (l : Nat) (x : α) (W : World) (K : Act → World → Prop), K (Ax x) W →
      assign.wpIn (Fence.wide.inRound l) (n - 1 - 1) P (Exit.then K (fun _ _ _ => False)) { tmps := (ps.zip (encs x)).foldl (fun t (p, v) => t.setIfInBounds p v) a.tmps, defers := [] } W)
    (hbody : ∀ (l : Nat) (pre : List α) (x : α) (W : World), w.heap.size ≤ l → pre.length < N → I pre W → Pt x W → body.wpIn (Fence.wide.inRound l) (n - 1 - 1) P (postP w.heap.size w.heap.size Bo Bw I (pre ++ [x]) W) (Ax x) W)
    (hdone : ∀ (D : Nat) (xs : List α) (W : World), w.heap.size ≤ D → S xs → I xs W → W.heap[D]? = some (.deferred (some [])) → Q .normal { a with defers := { target := .collected D, args := #[] } :: a.defers } W) :
    (Code.rangeFunc g ps assign body).wpIn Fence.wide n P Q a w := by
  refine wpIn_rangeFunc fun fn hfn => ?_
  generalize hD : w.heap.size = D at *
  obtain ⟨rc, hrc⟩ : ∃ rc : LoopState → Option Code → Loop, rc = fun st pe => { state := st, pending := pe, fn, tmps := a.tmps, params := ps, assign, body, defers := D } := ⟨_, rfl⟩
  have hgrow : ∀ {A C : World}, KeepsFrom D A C → ∀ {k : Nat} {o : Obj}, D ≤ k → A.heap[k]? = some o → o.isCells = false → C.heap[k]? = some o := fun h _ _ h1 h2 h3 => h.same _ _ h1 h2 h3
  obtain ⟨W1, hW1⟩ : ∃ W1, (w.alloc (.deferred (some []))).alloc (.loop (rc .ready none)) = W1 := ⟨_, rfl⟩
  have dD : W1.heap[D]? = some (.deferred (some [])) := by
    rw [← hW1, ← hD]; exact (Below.heap_alloc _ _ _ (by simp)).trans (World.alloc_heap_new w _)
  have dL : W1.heap[D + 1]? = some (.loop (rc .ready none)) := by
    rw [← hW1, ← hD]; have := World.alloc_heap_new (w.alloc (.deferred (some []))) (.loop (rc .ready none)); rwa [World.size_alloc] at this
  have b1 : Below D w W1 := by
    rw [← hW1, ← hD]; exact ((Below.refl _ w).alloc (Nat.le_refl _) _).alloc (by simp) _
  have f1 : Fr D Bo w W1 := Fr.below (by rw [hD]; exact b1)
  have i1 : I [] W1 := hIF _ _ _ h0 f1.I
  have hput : ∀ {s : List α} {A : World} {l : Nat} {o o' : Obj}, I s A → D ≤ l → A.heap[l]? = some o → o.isCells = false → I s (A.putObj l o') := by
    intro s A l o o' hi hl ho hc
    refine hIF _ _ _ hi ⟨Nat.le_of_eq (World.putObj_size ..).symm, fun b hb hcb => World.putObj_heap_other ?_, ⟨rfl, rfl, rfl⟩⟩
    intro e
    subst e
    rcases hcb with h | h
    · omega
    · obtain ⟨_, o2, h2, h3⟩ := (hIr _ _ hi).2 _ h
      rw [ho] at h2
      cases h2
      rw [hc] at h3
      cases h3
  refine ⟨D + 1, [{ target := .collected D, args := #[] }], W1, { target := .fn (.func gf) lb, args := #[.func (.yield (D + 1)) #[] #[]] }, W1, gf, #[.func (.yield (D + 1)) #[] #[]] ++ lb, W1, ?_, ?_, fun _ _ => trivial, ?_, fun _ => hn, ?_⟩
  · have he := run_enterLoop_outer (P := P) (w := w) fn a.tmps ps assign body
    rw [hD] at he
    rw [← hW1, hrc]
    exact he
  · simp only [resolve, hg]
    simp [go_sem]
  · simp [invoke, go_sem, eg]
  · have hcall := hseq (D + 1)
      (fun pre W => I pre W ∧ W.heap[D + 1]? = some (.loop (rc .ready none)) ∧ W.heap[D]? = some (.deferred (some [])))
      W1 (by rw [hD]; exact b1)
      (fun s A h => by
        rw [hD]
        refine ⟨(hIr s A h.1).1, fun r hr => ?_⟩
        obtain ⟨h1, o, h2, _⟩ := (hIr s A h.1).2 r hr
        exact ⟨h1, (Array.getElem?_eq_some_iff.1 h2).1⟩)
      (fun s A C h hf => by
        rw [hD] at hf
        have l1 := (Array.getElem?_eq_some_iff.1 h.2.1).1
        have l2 := (Array.getElem?_eq_some_iff.1 h.2.2).1
        exact ⟨hIF s A C h.1 hf.I, (hf.2.1 _ l1 (.inr (.inr ⟨_, h.2.1, rfl⟩))).trans h.2.1, (hf.2.1 _ l2 (.inr (.inr ⟨_, h.2.2, rfl⟩))).trans h.2.2⟩) ?_ ⟨i1, dL, dD⟩
    · refine hcall.mono ?_
      rintro e W2 ⟨⟨v, rfl⟩, xs, hS, hi, hl, hk⟩
      have hend := run_endLoop (P := P) hl (by rw [hrc]; simp)
      have hpe : (rc LoopState.ready none).pending = none := by rw [hrc]
      rw [hpe] at hend
      exact ⟨none, _, hend, hdone D xs _ (Nat.le_refl _) hS (hput hi (by omega) hl rfl) ((World.putObj_heap_other (by omega)).trans hk)⟩
    · rintro pre x W ⟨hi, hl, hk⟩ hx hlen
      have hy := run_yield (P := P) (args := encs x) hl (by rw [hrc]; exact hps x)
      rw [hrc] at hy
      refine ⟨fn, _, assign, body, hy, roundIn_of_wpIn hfn (hassign (D + 1) x W _ ?_)⟩
      clear hy
      have hlt : D + 1 < W.heap.size := (Array.getElem?_eq_some_iff.1 hl).1
      refine ⟨_, run_beginRound hl (by rw [hrc]), ?_⟩
      obtain ⟨Wb, hWb⟩ : ∃ Wb, W.putObj (D + 1) (.loop { rc .ready none with state := .busy }) = Wb := ⟨_, rfl⟩
      have hl2 : Wb.heap[D + 1]? = some (.loop { rc .ready none with state := .busy }) := by rw [← hWb]; exact World.putObj_heap_same hlt
      have hk2 : Wb.heap[D]? = some (.deferred (some [])) := by rw [← hWb]; exact (World.putObj_heap_other (by omega)).trans hk
      have s2 : Kp D Bo Bw W Wb := by rw [← hWb]; exact Kp.putObj _ _ (by omega) hl rfl
      have ib : I pre Wb := by rw [← hWb]; exact hput hi (by omega) hl rfl
      have xb : Pt x Wb := hPt x W Wb hx fun b o ho hc => by
        rw [← hWb]
        by_cases e : b = D + 1
        · subst e
          rw [hl] at ho
          cases ho
          cases hc
        · exact (World.putObj_heap_other e).trans ho
      rw [hWb]
      refine wpIn_mono (hbody (D + 1) pre x Wb (by omega) hlen ib xb) fun e a3 W3 hp => ?_
      match e, hp with
      | .normal, ⟨k3, s3, i3⟩ =>
        have hl3 := hgrow k3 (by omega) hl2 rfl
        have he := run_endRound (P := P) none hl3
        refine ⟨_, W3.putObj (D + 1) (.loop (rc .ready none)), by rw [he, hrc]; rfl, rfl, ⟨hput i3 (by omega) hl3 rfl, World.putObj_heap_same (Array.getElem?_eq_some_iff.1 hl3).1, (World.putObj_heap_other (by omega)).trans (hgrow k3 (Nat.le_refl _) hk2 rfl)⟩, ?_⟩
        rw [hD]
        exact (s2.trans s3).trans (Kp.putObj _ _ (by omega) hl3 rfl)
end Go.Proofs.Ytdaobbffhfbceaa
