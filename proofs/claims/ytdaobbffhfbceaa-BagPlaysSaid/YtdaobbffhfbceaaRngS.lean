/- A range over an iterator that makes and writes blocks of its own between two rounds; its body may return out of the loop. -/
import Derived.Test.YtdaobbffhfbceaaRngP
namespace Go.Proofs.Ytdaobbffhfbceaa
open Go.RowKit Go.Shelf
set_option linter.unusedVariables false
theorem Kp.below {D Bo Bw : Nat} {A C : World} (hb : Below A.heap.size A C) (hBo : Bo < A.heap.size) : Kp D Bo Bw A C := ⟨hb.size, .inl (rowB_same (hb.block _ hBo)), fun b o _ _ _ ho _ => (hb.block b (Array.getElem?_eq_some_iff.1 ho).1).trans ho⟩
/-- What an iterator says that makes and writes blocks of its own, and that comes to its end, or that a round ends. -/
def SeqS {α : Type} (n : Nat) (P : Program) (g : Nat) (lb : Array Value) (encs : α → Array Value) (Bo Bw N : Nat) (S Sp : List α → Prop) (w : World) : Prop :=
  ∀ (l : Nat) (J Jx : List α → World → Prop) (W : World), Below w.heap.size w W → (∀ s A, J s A → w.heap.size ≤ A.heap.size ∧ ∀ r, rowB Bo A = some r → w.heap.size ≤ r ∧ r < A.heap.size) →
    (∀ s A C, J s A → Fr w.heap.size Bo A C → J s C) →
    (∀ pre x W1, J pre W1 → pre.length < N → YieldAt Fence.wide (n - 1) P l (encs x) W1 fun e W' => (e = .returned (.bool true) ∧ J (pre ++ [x]) W' ∧ Kp w.heap.size Bo Bw W1 W') ∨ (e = .returned (.bool false) ∧ Jx (pre ++ [x]) W')) →
    J [] W → CallsIn Fence.wide n P g (#[.func (.yield l) #[] #[]] ++ lb) W fun e W' => (∃ v, e = .returned v) ∧ ((∃ xs, S xs ∧ J xs W') ∨ ∃ pre, Sp pre ∧ Jx pre W')
def postS {α : Type} (B D Bo Bw : Nat) (I Ix : List α → World → Prop) (xs : List α) (W : World) : Exit → Act → World → Prop
  | .normal, _, W' => KeepsFrom B W W' ∧ Kp D Bo Bw W W' ∧ I xs W'
  | .ret, _, W' => KeepsFrom B W W' ∧ Ix xs W'
  | _, _, _ => False
theorem wpIn_range_s {α : Type} {P : Program} {n : Nat} {g : Operand} {ps : Array Tmp} {assign body : Code} {Q : Exit → Act → World → Prop} {a : Act} {w : World}
    (hn : 1 ≤ n) {gf : Nat} {lb : Array Value} (hg : a.eval g = .func (.func gf) #[] lb) (eg : ∀ args w, (callFunc gf args).run P w = .ok (.enter gf args) w)
    {encs : α → Array Value} {Bo Bw N : Nat} {S Sp : List α → Prop} (hBo : Bo < w.heap.size) (hseq : SeqS (n - 1) P gf lb encs Bo Bw N S Sp w) (hps : ∀ x, (encs x).size = ps.size)
    (I Ix : List α → World → Prop) (hIr : ∀ s A, I s A → w.heap.size ≤ A.heap.size ∧ ∀ r, rowB Bo A = some r → w.heap.size ≤ r ∧ (∃ o, A.heap[r]? = some o ∧ o.isCells = true)) (hIF : ∀ s A C, I s A → FrI w.heap.size Bo A C → I s C)
    (hIx : ∀ s A l o o', Ix s A → w.heap.size ≤ l → A.heap[l]? = some o → o.isCells = false → Ix s (A.putObj l o'))
    (h0 : I [] w) (Ax : α → Act → World → Prop) (hAx : ∀ x a' A l o o', Ax x a' A → A.heap[l]? = some o → o.isCells = false → Ax x a' (A.putObj l o'))
    (hassign : ∀ (l : Nat) (pre : List α) (x : α) (W : World) (K : Act → World → Prop), w.heap.size ≤ l → I pre W → (∀ a' W', KeepsFrom w.heap.size W W' → Kp w.heap.size Bo Bw W W' → I pre W' → Ax x a' W' → K a' W') →
      assign.wpIn (Fence.wide.inRound l) (n - 1 - 1) P (Exit.then K (fun _ _ _ => False)) { tmps := (ps.zip (encs x)).foldl (fun t (p, v) => t.setIfInBounds p v) a.tmps, defers := [] } W)
    (hbody : ∀ (l : Nat) (pre : List α) (x : α) (a' : Act) (W : World), w.heap.size ≤ l → pre.length < N → I pre W → Ax x a' W → body.wpIn (Fence.wide.inRound l) (n - 1 - 1) P (postS w.heap.size w.heap.size Bo Bw I Ix (pre ++ [x]) W) a' W)
    (hdone : ∀ (D : Nat) (xs : List α) (W : World), w.heap.size ≤ D → S xs → I xs W → W.heap[D]? = some (.deferred (some [])) → Q .normal { a with defers := { target := .collected D, args := #[] } :: a.defers } W)
    (hstop : ∀ (D : Nat) (pre : List α) (W : World), w.heap.size ≤ D → Sp pre → Ix pre W → W.heap[D]? = some (.deferred (some [])) → Code.ret.wpIn Fence.wide n P Q { a with defers := { target := .collected D, args := #[] } :: a.defers } W) :
    (Code.rangeFunc g ps assign body).wpIn Fence.wide n P Q a w := by
  refine wpIn_rangeFunc fun fn hfn => ?_
  generalize hD : w.heap.size = D at *
  obtain ⟨rc, hrc⟩ : ∃ rc : LoopState → Option Code → Loop, rc = fun st pe => { state := st, pending := pe, fn, tmps := a.tmps, params := ps, assign, body, defers := D } := ⟨_, rfl⟩
  have hgrow : ∀ {A C : World}, KeepsFrom D A C → ∀ {k : Nat} {o : Obj}, D ≤ k → A.heap[k]? = some o → o.isCells = false → C.heap[k]? = some o := fun h _ _ h1 h2 h3 => h.same _ _ h1 h2 h3
  obtain ⟨W1, hW1⟩ : ∃ W1, (w.alloc (.deferred (some []))).alloc (.loop (rc .ready none)) = W1 := ⟨_, rfl⟩
  have dD : W1.heap[D]? = some (.deferred (some [])) := by
    rw [← hW1, ← hD]; exact (Below.heap_alloc _ _ _ (by simp)).trans (World.alloc_heap_new w _)
  have dL : W1.heap[D + 1]? = some (.loop (rc .ready none)) := by
    rw [← hW1, ← hD]; have := World.alloc_heap_new (w.alloc (.deferred (some []))) (.loop (rc .ready none)); rwa [World.size_alloc] at this
  have b1 : Below D w W1 := by
    rw [← hW1, ← hD]; exact ((Below.refl _ w).alloc (Nat.le_refl _) _).alloc (by simp) _
  have f1 : Fr D Bo w W1 := Fr.below (by rw [hD]; exact b1)
  have i1 : I [] W1 := hIF _ _ _ h0 f1.I
  have hput : ∀ {s : List α} {A : World} {l : Nat} {o o' : Obj}, I s A → D ≤ l → A.heap[l]? = some o → o.isCells = false → I s (A.putObj l o') := by
    intro s A l o o' hi hl ho hc
    refine hIF _ _ _ hi ⟨Nat.le_of_eq (World.putObj_size ..).symm, fun b hb hcb => World.putObj_heap_other ?_, ⟨rfl, rfl, rfl⟩⟩
    intro e
    subst e
    rcases hcb with h | h
    · omega
    · obtain ⟨_, o2, h2, h3⟩ := (hIr _ _ hi).2 _ h
      rw [ho] at h2
      cases h2
      rw [hc] at h3
      cases h3
  refine ⟨D + 1, [{ target := .collected D, args := #[] }], W1, { target := .fn (.func gf) lb, args := #[.func (.yield (D + 1)) #[] #[]] }, W1, gf, #[.func (.yield (D + 1)) #[] #[]] ++ lb, W1, ?_, ?_, fun _ _ => trivial, ?_, fun _ => hn, ?_⟩
  · have he := run_enterLoop_outer (P := P) (w := w) fn a.tmps ps assign body
    rw [hD] at he
    rw [← hW1, hrc]
    exact he
  · simp only [resolve, hg]
    simp [go_sem]
  · simp [invoke, go_sem, eg]
  · have hcall := hseq (D + 1)
      (fun pre W => I pre W ∧ W.heap[D + 1]? = some (.loop (rc .ready none)) ∧ W.heap[D]? = some (.deferred (some [])))
      (fun pre W => Ix pre W ∧ W.heap[D + 1]? = some (.loop (rc .done (some .ret))) ∧ W.heap[D]? = some (.deferred (some [])))
      W1 (by rw [hD]; exact b1)
      (fun s A h => by
        rw [hD]
        refine ⟨(hIr s A h.1).1, fun r hr => ?_⟩
        obtain ⟨h1, o, h2, _⟩ := (hIr s A h.1).2 r hr
        exact ⟨h1, (Array.getElem?_eq_some_iff.1 h2).1⟩)
      (fun s A C h hf => by
        rw [hD] at hf
        have l1 := (Array.getElem?_eq_some_iff.1 h.2.1).1
        have l2 := (Array.getElem?_eq_some_iff.1 h.2.2).1
        exact ⟨hIF s A C h.1 hf.I, (hf.2.1 _ l1 (.inr (.inr ⟨_, h.2.1, rfl⟩))).trans h.2.1, (hf.2.1 _ l2 (.inr (.inr ⟨_, h.2.2, rfl⟩))).trans h.2.2⟩) ?_ ⟨i1, dL, dD⟩
    · refine hcall.mono ?_
      rintro e W2 ⟨⟨v, rfl⟩, ⟨xs, hS, hi, hl, hk⟩ | ⟨pre, hSp, hi, hl, hk⟩⟩
      · have hend := run_endLoop (P := P) hl (by rw [hrc]; simp)
        have hpe : (rc LoopState.ready none).pending = none := by rw [hrc]
        rw [hpe] at hend
        exact ⟨none, _, hend, hdone D xs _ (Nat.le_refl _) hS (hput hi (by omega) hl rfl) ((World.putObj_heap_other (by omega)).trans hk)⟩
      · have hend := run_endLoop (P := P) hl (by rw [hrc]; simp)
        have hpe : (rc LoopState.done (some .ret)).pending = some .ret := by rw [hrc]
        rw [hpe] at hend
        exact ⟨some .ret, _, hend, hstop D pre _ (Nat.le_refl _) hSp (hIx _ _ _ _ _ hi (by omega) hl rfl) ((World.putObj_heap_other (by omega)).trans hk)⟩
    · rintro pre x W ⟨hi, hl, hk⟩ hlen
      have hy := run_yield (P := P) (args := encs x) hl (by rw [hrc]; exact hps x)
      rw [hrc] at hy
      refine ⟨fn, _, assign, body, hy, roundIn_of_wpIn hfn (hassign (D + 1) pre x W _ (by omega) hi fun a' Wa ka sa ia xa => ?_)⟩
      clear hy
      have hl1 := hgrow ka (by omega) hl rfl
      have hk1 := hgrow ka (Nat.le_refl _) hk rfl
      have hlt : D + 1 < Wa.heap.size := (Array.getElem?_eq_some_iff.1 hl1).1
      refine ⟨_, run_beginRound hl1 (by rw [hrc]), ?_⟩
      obtain ⟨Wb, hWb⟩ : ∃ Wb, Wa.putObj (D + 1) (.loop { rc .ready none with state := .busy }) = Wb := ⟨_, rfl⟩
      have hl2 : Wb.heap[D + 1]? = some (.loop { rc .ready none with state := .busy }) := by rw [← hWb]; exact World.putObj_heap_same hlt
      have hk2 : Wb.heap[D]? = some (.deferred (some [])) := by rw [← hWb]; exact (World.putObj_heap_other (by omega)).trans hk1
      have s2 : Kp D Bo Bw W Wb := sa.trans (by rw [← hWb]; exact Kp.putObj _ _ (by omega) hl1 rfl)
      have ib : I pre Wb := by rw [← hWb]; exact hput ia (by omega) hl1 rfl
      have xb : Ax x a' Wb := by rw [← hWb]; exact hAx _ _ _ _ _ _ xa hl1 rfl
      rw [hWb]
      refine wpIn_mono (hbody (D + 1) pre x a' Wb (by omega) hlen ib xb) fun e a3 W3 hp => ?_
      match e, hp with
      | .normal, ⟨k3, s3, i3⟩ =>
        have hl3 := hgrow k3 (by omega) hl2 rfl
        have he := run_endRound (P := P) none hl3
        refine ⟨_, W3.putObj (D + 1) (.loop (rc .ready none)), by rw [he, hrc]; rfl, .inl ⟨rfl, ⟨hput i3 (by omega) hl3 rfl, World.putObj_heap_same (Array.getElem?_eq_some_iff.1 hl3).1, (World.putObj_heap_other (by omega)).trans (hgrow k3 (Nat.le_refl _) hk2 rfl)⟩, ?_⟩⟩
        rw [hD]
        exact (s2.trans s3).trans (Kp.putObj _ _ (by omega) hl3 rfl)
      | .ret, ⟨k3, i3⟩ =>
        have hl3 := hgrow k3 (by omega) hl2 rfl
        have he := run_endRound (P := P) (some .ret) hl3
        exact ⟨_, W3.putObj (D + 1) (.loop (rc .done (some .ret))), by rw [he, hrc]; rfl, .inr ⟨rfl, hIx _ _ _ _ _ i3 (by omega) hl3 rfl, World.putObj_heap_same (Array.getElem?_eq_some_iff.1 hl3).1, (World.putObj_heap_other (by omega)).trans (hgrow k3 (Nat.le_refl _) hk2 rfl)⟩⟩
end Go.Proofs.Ytdaobbffhfbceaa
