/- A range over an iterator that keeps its state in two cells blocks of its own (B1, B2), which it writes between two rounds. -/
import Derived.Test.YtlcbfabdfpdcgaaQuiet
import Derived.RangeFuncNested
import Derived.RangeFuncBound
import Derived.RangeFuncCalls
import Derived.RangeFuncLeaves
import Derived.RangeFuncBox
import Derived.Shelf.Abstract
import Derived.Shelf.RegionOpen
import Derived.OwnWalkIn
import Derived.TacticsInMore
import Derived.LoopNIn
import Derived.LoopIn
namespace Go.Proofs.Ytlcbfabdfpdcgaa
open Go.RowKit Go.Shelf
/-- The iterator's two blocks lie as they lay. -/
def Same2 (B1 B2 : Nat) (A C : World) : Prop := C.heap[B1]? = A.heap[B1]? ∧ C.heap[B2]? = A.heap[B2]?
theorem Same2.trans {B1 B2 : Nat} {A C E : World} (h : Same2 B1 B2 A C) (k : Same2 B1 B2 C E) : Same2 B1 B2 A E := ⟨k.1.trans h.1, k.2.trans h.2⟩
theorem Same2.putObj {B1 B2 l : Nat} (W : World) (o : Obj) (h1 : B1 < l) (h2 : B2 < l) : Same2 B1 B2 W (W.putObj l o) := ⟨World.putObj_heap_other (by omega), World.putObj_heap_other (by omega)⟩
theorem Same2.below {B1 B2 B : Nat} {A C : World} (h : Below B A C) (h1 : B1 < B) (h2 : B2 < B) : Same2 B1 B2 A C := ⟨h.block _ h1, h.block _ h2⟩
/-- What an iterator says that writes its own two blocks alone, and that only a round ends. -/
def SeqM {α : Type} (n : Nat) (P : Program) (g : Nat) (lb : Array Value) (encs : α → Array Value) (B1 B2 N : Nat) (mu : World → Nat) (Sp : List α → Prop) (w : World) : Prop :=
  ∀ (l : Nat) (J Jx : List α → World → Prop) (W : World), Below w.heap.size w W → (∀ s A p v, p.block = B1 ∨ p.block = B2 → J s A → J s (A.setCell p v)) → (∀ s A, J s A → mu A = s.length ∧ s.length < N) →
    (∀ pre x W1, J pre W1 → YieldAt Fence.wide (n - 1) P l (encs x) W1 fun e W' => (e = .returned (.bool true) ∧ J (pre ++ [x]) W' ∧ Same2 B1 B2 W1 W') ∨ (e = .returned (.bool false) ∧ Jx (pre ++ [x]) W')) →
    J [] W → CallsIn Fence.wide n P g (#[.func (.yield l) #[] #[]] ++ lb) W fun e W' => (∃ v, e = .returned v) ∧ ∃ pre, Sp pre ∧ Jx pre W'
def postM {α : Type} (B B1 B2 : Nat) (I : List α → World → Prop) (Ix : Code → List α → World → Prop) (xs : List α) (W : World) : Exit → Act → World → Prop
  | .normal, _, W' => KeepsFrom B W W' ∧ Same2 B1 B2 W W' ∧ I xs W'
  | .ret, _, W' => KeepsFrom B W W' ∧ Ix .ret xs W'
  | .exit id, _, W' => KeepsFrom B W W' ∧ Ix (.exit id) xs W'
  | .goto t, _, W' => KeepsFrom B W W' ∧ Ix (.goto t) xs W'
  | .panic _, _, _ => False
  | .outgrown, _, _ => False
theorem setCell_other (W : World) (p : Addr) (v : Value) {k : Nat} (h : k ≠ p.block) : (W.setCell p v).heap[k]? = W.heap[k]? := by
  unfold World.setCell
  split <;> simp [Array.getElem?_modify, Ne.symm h]
theorem setCell_size (W : World) (p : Addr) (v : Value) : (W.setCell p v).heap.size = W.heap.size := by
  unfold World.setCell; split <;> simp
theorem ownFrom_keptC {β : Type} (B : Nat) (w0 : World) (l : β → List (Addr × Value)) (F : List Addr) (hB : w0.heap.size ≤ B) (hF : ∀ s, (l s).map Prod.fst = F) : OwnFrom B (fun s W => KeptC w0 (l s) F W) :=
  fun s X Y row hs hg hr => ⟨hs.1.grown hg hs.1.size (fun k e => Nat.le_trans hB (hr k e).1), fun x hx => cell_kept (hs.2.1 x hx) hg (fun r e => (hr r e).2), fun a ha => by
    obtain ⟨⟨a, v⟩, hv, rfl⟩ := List.mem_map.1 (hF s ▸ ha)
    exact ⟨Nat.lt_of_lt_of_le (hs.2.2 a ha).1 hg.size, (frozen_kept (hs.2.1 _ hv) hg (fun r e => (hr r e).2)).trans (hs.2.2 a ha).2⟩⟩
theorem keeps_of_below {W W' : World} {B : Nat} (hb : Below B W W') (h : W.heap.size ≤ B) : KeepsOthers W W' :=
  ⟨hb.size, fun k o hk _ => (hb.block k (Nat.lt_of_lt_of_le (Array.getElem?_eq_some_iff.1 hk).1 h)).trans hk⟩
theorem keptC_far {w0 : World} {l : List (Addr × Value)} {F : List Addr} {W : World} {p : Addr} (v : Value) (h : KeptC w0 l F W) (h0 : w0.heap.size ≤ p.block) (hl : ∀ x ∈ l, p.block ≠ x.1.block) : KeptC w0 l F (W.setCell p v) :=
  ⟨h.1.setCell h0 v, fun x hx => (World.cell?_setCell_far W p x.1 v (hl x hx)).trans (h.2.1 x hx), fun a ha => ⟨by rw [setCell_size]; exact (h.2.2 a ha).1, by rw [World.frozen?_setCell]; exact (h.2.2 a ha).2⟩⟩
theorem row_low {W : World} {base : Nat} {e : TypeId} {size : Nat} {v : Value} {n : Nat} {xs : List Value} (h : W.ownsRow base e size v n xs) {B : Nat} (hB : B < base) : v.ownBlock ≠ some B := by
  rcases h.2 with ⟨rfl, _⟩ | ⟨g, cap, cur, rfl, hb, _⟩
  · simp [Value.ownBlock]
  · simp [Value.ownBlock]; omega
theorem row_from {β : Type} (B base : Nat) (e : TypeId) (size : Nat) (v : β → Value) (n : β → Nat) (f : β → List Value) : OwnFrom B (fun s W => W.ownsRow base e size (v s) (n s) (f s)) := by
  intro s X Y row hs hg hr
  refine World.ownsRow.kept hs hg ?_
  rcases hs.2 with ⟨h, _⟩ | ⟨g, cap, cur, h, _, hgb, _⟩
  · rw [h]; exact .inl rfl
  · refine .inr fun e' => ?_
    rw [h] at e'
    obtain ⟨_, o, ho, hc⟩ := hr g (by simpa [Value.ownBlock] using e'.symm)
    rw [hgb] at ho; cases ho; cases hc
theorem row_far {W : World} {base : Nat} {e : TypeId} {size : Nat} {v : Value} {n : Nat} {xs : List Value} (h : W.ownsRow base e size v n xs) {p : Addr} (u : Value) (hp : p.block < base) : (W.setCell p u).ownsRow base e size v n xs := by
  refine ⟨h.1, ?_⟩
  rcases h.2 with hn | ⟨g, cap, cur, hv, hb, hgb, rest⟩
  · exact .inl hn
  · exact .inr ⟨g, cap, cur, hv, hb, (setCell_other W p u (by omega)).trans hgb, rest⟩
theorem row_below {W W' : World} {base : Nat} {e : TypeId} {size : Nat} {v : Value} {n : Nat} {xs : List Value} (h : W.ownsRow base e size v n xs) (hb : Below W.heap.size W W') : W'.ownsRow base e size v n xs := by
  refine ⟨h.1, ?_⟩
  rcases h.2 with hn | ⟨g, cap, cur, hv, hb', hgb, rest⟩
  · exact .inl hn
  · exact .inr ⟨g, cap, cur, hv, hb', (hb.block g (Array.getElem?_eq_some_iff.1 hgb).1).trans hgb, rest⟩
theorem row_less {W : World} {base base' : Nat} {e : TypeId} {size : Nat} {v : Value} {n : Nat} {xs : List Value} (h : W.ownsRow base e size v n xs) (hb : base' ≤ base) : W.ownsRow base' e size v n xs := by
  refine ⟨h.1, ?_⟩
  rcases h.2 with hn | ⟨g, cap, cur, hv, hb', hgb, rest⟩
  · exact .inl hn
  · exact .inr ⟨g, cap, cur, hv, Nat.le_trans hb hb', hgb, rest⟩
/-- Behind an append onto a row of one's own: what lay below the base lies on, and whatever is no cells. -/
theorem row_grown {W w1 : World} {base : Nat} {e : TypeId} {size : Nat} {v : Value} {n : Nat} {xs : List Value} (h : W.ownsRow base e size v n xs) (hg : W.grownBy w1 v.ownBlock) (hb : base ≤ W.heap.size) : Below base W w1 ∧ KeepsOthers W w1 := by
  refine ⟨(Below.refl base W).grown hg hb fun j ej => ?_, KeepsOthers.of_grownBy hg fun j o ej hj => ?_⟩
  · rcases h.2 with ⟨rfl, _⟩ | ⟨g, cap, cur, rfl, hb, _⟩
    · simp [Value.ownBlock] at ej
    · obtain rfl : g = j := by simpa [Value.ownBlock] using ej
      exact hb
  · rcases h.2 with ⟨rfl, _⟩ | ⟨g, cap, cur, rfl, _, hgb, _⟩
    · simp [Value.ownBlock] at ej
    · obtain rfl : g = j := by simpa [Value.ownBlock] using ej
      rw [hgb] at hj; cases hj; rfl
theorem keptC_low {w0 : World} {l : List (Addr × Value)} {F : List Addr} {W W' : World} {B : Nat} (h : KeptC w0 l F W) (hb : Below B W W') (h0 : w0.heap.size ≤ B) (hl : ∀ x ∈ l, x.1.block < B) (hF : ∀ a ∈ F, a.block < B) : KeptC w0 l F W' :=
  ⟨h.1.trans (hb.mono h0), fun x hx => (hb.cell (hl x hx)).trans (h.2.1 x hx), fun a ha => ⟨Nat.lt_of_lt_of_le (h.2.2 a ha).1 hb.size, (hb.frozen (hF a ha)).trans (h.2.2 a ha).2⟩⟩
theorem Same2.set {B1 B2 : Nat} (W : World) (p : Addr) (v : Value) (h1 : B1 ≠ p.block) (h2 : B2 ≠ p.block) : Same2 B1 B2 W (W.setCell p v) := ⟨setCell_other W p v h1, setCell_other W p v h2⟩
theorem Same2.alloc {B1 B2 : Nat} (W : World) (o : Obj) (h1 : B1 < W.heap.size) (h2 : B2 < W.heap.size) : Same2 B1 B2 W (W.alloc o) := ⟨Below.heap_alloc _ _ _ h1, Below.heap_alloc _ _ _ h2⟩
theorem wpIn_range_m {α : Type} {P : Program} {n : Nat} {g : Operand} {ps : Array Tmp} {assign body : Code} {Q : Exit → Act → World → Prop} {a : Act} {w : World}
    (hn : 1 ≤ n) {gf : Nat} {lb : Array Value} (hg : a.eval g = .func (.func gf) #[] lb) (eg : ∀ args w, (callFunc gf args).run P w = .ok (.enter gf args) w)
    {encs : α → Array Value} {B1 B2 N : Nat} {mu : World → Nat} {Sp : List α → Prop} (hB1 : B1 < w.heap.size) (hB2 : B2 < w.heap.size) (hseq : SeqM (n - 1) P gf lb encs B1 B2 N mu Sp w) (hps : ∀ x, (encs x).size = ps.size)
    (I : List α → World → Prop) (Ix : Code → List α → World → Prop) (hI : OwnFrom w.heap.size I) (hIx : ∀ c, OwnFrom w.heap.size (Ix c)) (hIs : ∀ s A p v, p.block = B1 ∨ p.block = B2 → I s A → I s (A.setCell p v)) (hIN : ∀ s A, I s A → mu A = s.length ∧ s.length < N)
    (h0 : I [] w) (Ax : α → Act → World → Prop) (hAx : ∀ x a', OwnFrom w.heap.size (fun (_ : Unit) W => Ax x a' W))
    (hassign : ∀ (l : Nat) (pre : List α) (x : α) (W : World) (K : Act → World → Prop), I pre W → (∀ a' W', KeepsFrom w.heap.size W W' → Same2 B1 B2 W W' → I pre W' → Ax x a' W' → K a' W') →
      assign.wpIn (Fence.wide.inRound l) (n - 1 - 1) P (Exit.then K (fun _ _ _ => False)) { tmps := (ps.zip (encs x)).foldl (fun t (p, v) => t.setIfInBounds p v) a.tmps, defers := [] } W)
    (hbody : ∀ (l : Nat) (pre : List α) (x : α) (a' : Act) (W : World), w.heap.size ≤ l → I pre W → Ax x a' W → body.wpIn (Fence.wide.inRound l) (n - 1 - 1) P (postM w.heap.size B1 B2 I Ix (pre ++ [x]) W) a' W)
    (hstop : ∀ (D : Nat) (c : Code) (pre : List α) (W : World), w.heap.size ≤ D → Sp pre → Ix c pre W → W.heap[D]? = some (.deferred (some [])) → c.wpIn Fence.wide n P Q { a with defers := { target := .collected D, args := #[] } :: a.defers } W) :
    (Code.rangeFunc g ps assign body).wpIn Fence.wide n P Q a w := by
  refine wpIn_rangeFunc fun fn hfn => ?_
  generalize hD : w.heap.size = D at *
  obtain ⟨rc, hrc⟩ : ∃ rc : LoopState → Option Code → Loop, rc = fun st pe => { state := st, pending := pe, fn, tmps := a.tmps, params := ps, assign, body, defers := D } := ⟨_, rfl⟩
  have hgrow : ∀ {A C : World}, KeepsFrom D A C → ∀ {k : Nat} {o : Obj}, D ≤ k → A.heap[k]? = some o → o.isCells = false → C.heap[k]? = some o := fun h _ _ h1 h2 h3 => h.same _ _ h1 h2 h3
  obtain ⟨W1, hW1⟩ : ∃ W1, (w.alloc (.deferred (some []))).alloc (.loop (rc .ready none)) = W1 := ⟨_, rfl⟩
  have dD : W1.heap[D]? = some (.deferred (some [])) := by
    rw [← hW1, ← hD]; exact (Below.heap_alloc _ _ _ (by simp)).trans (World.alloc_heap_new w _)
  have dL : W1.heap[D + 1]? = some (.loop (rc .ready none)) := by
    rw [← hW1, ← hD]; have := World.alloc_heap_new (w.alloc (.deferred (some []))) (.loop (rc .ready none)); rwa [World.size_alloc] at this
  have i1 : I [] W1 := by rw [← hW1]; exact hI.alloc _ (hI.alloc _ h0)
  have b1 : Below D w W1 := by
    rw [← hW1, ← hD]; exact ((Below.refl _ w).alloc (Nat.le_refl _) _).alloc (by simp) _
  refine ⟨D + 1, [{ target := .collected D, args := #[] }], W1, { target := .fn (.func gf) lb, args := #[.func (.yield (D + 1)) #[] #[]] }, W1, gf, #[.func (.yield (D + 1)) #[] #[]] ++ lb, W1, ?_, ?_, fun _ _ => trivial, ?_, fun _ => hn, ?_⟩
  · have he := run_enterLoop_outer (P := P) (w := w) fn a.tmps ps assign body
    rw [hD] at he
    rw [← hW1, hrc]
    exact he
  · simp only [resolve, hg]
    simp [go_sem]
  · simp [invoke, go_sem, eg]
  · have hcall := hseq (D + 1)
      (fun pre W => I pre W ∧ W.heap[D + 1]? = some (.loop (rc .ready none)) ∧ W.heap[D]? = some (.deferred (some [])))
      (fun pre W => ∃ c, Ix c pre W ∧ W.heap[D + 1]? = some (.loop (rc .done (some c))) ∧ W.heap[D]? = some (.deferred (some [])))
      W1 (by rw [hD]; exact b1)
      (fun s A p v hp h => ⟨hIs s A p v hp h.1, (setCell_other A p v (by omega)).trans h.2.1, (setCell_other A p v (by omega)).trans h.2.2⟩)
      (fun s A h => hIN s A h.1) ?_ ⟨i1, dL, dD⟩
    · refine hcall.mono ?_
      rintro e W2 ⟨⟨v, rfl⟩, pre, hSp, c, hi, hl, hk⟩
      have hend := run_endLoop (P := P) hl (by rw [hrc]; simp)
      have hpe : (rc LoopState.done (some c)).pending = some c := by rw [hrc]
      rw [hpe] at hend
      exact ⟨some c, _, hend, hstop D c pre _ (Nat.le_refl _) hSp ((hIx c).putObj _ hi (by omega) hl rfl) ((World.putObj_heap_other (by omega)).trans hk)⟩
    · rintro pre x W ⟨hi, hl, hk⟩
      have hy := run_yield (P := P) (args := encs x) hl (by rw [hrc]; exact hps x)
      rw [hrc] at hy
      refine ⟨fn, _, assign, body, hy, roundIn_of_wpIn hfn (hassign (D + 1) pre x W _ hi fun a' Wa ka sa ia xa => ?_)⟩
      clear hy
      have hl1 := hgrow ka (by omega) hl rfl
      have hk1 := hgrow ka (Nat.le_refl _) hk rfl
      have hlt : D + 1 < Wa.heap.size := (Array.getElem?_eq_some_iff.1 hl1).1
      refine ⟨_, run_beginRound hl1 (by rw [hrc]), ?_⟩
      obtain ⟨Wb, hWb⟩ : ∃ Wb, Wa.putObj (D + 1) (.loop { rc .ready none with state := .busy }) = Wb := ⟨_, rfl⟩
      have hl2 : Wb.heap[D + 1]? = some (.loop { rc .ready none with state := .busy }) := by rw [← hWb]; exact World.putObj_heap_same hlt
      have hk2 : Wb.heap[D]? = some (.deferred (some [])) := by rw [← hWb]; exact (World.putObj_heap_other (by omega)).trans hk1
      have s2 : Same2 B1 B2 W Wb := sa.trans (by rw [← hWb]; exact Same2.putObj _ _ (by omega) (by omega))
      have ib : I pre Wb := by rw [← hWb]; exact hI.putObj _ ia (by omega) hl1 rfl
      have xb : Ax x a' Wb := by rw [← hWb]; exact (hAx x a').putObj (s := ()) _ xa (by omega) hl1 rfl
      rw [hWb]
      refine wpIn_mono (hbody (D + 1) pre x a' Wb (by omega) ib xb) fun e a3 W3 hp => ?_
      have fin : KeepsFrom D Wb W3 → ∀ jump : Option Code, (Instr.endRound (D + 1) jump).run P W3 = .ok (.bool jump.isNone) (W3.putObj (D + 1) (.loop (rc (if jump.isNone then .ready else .done) jump))) ∧ W3.heap[D + 1]? = some (.loop { rc .ready none with state := .busy }) ∧
          (W3.putObj (D + 1) (.loop (rc (if jump.isNone then .ready else .done) jump))).heap[D + 1]? = some (.loop (rc (if jump.isNone then .ready else .done) jump)) ∧ (W3.putObj (D + 1) (.loop (rc (if jump.isNone then .ready else .done) jump))).heap[D]? = some (.deferred (some [])) := fun k3 jump => by
        have hl3 := hgrow k3 (by omega) hl2 rfl
        have he := run_endRound (P := P) jump hl3
        refine ⟨?_, hl3, World.putObj_heap_same (Array.getElem?_eq_some_iff.1 hl3).1, (World.putObj_heap_other (by omega)).trans (hgrow k3 (Nat.le_refl _) hk2 rfl)⟩
        rw [he, hrc]
      match e, hp with
      | .normal, ⟨k3, s3, i3⟩ =>
        obtain ⟨hr, hl3, hl4, hk4⟩ := fin k3 none
        exact ⟨_, _, hr, .inl ⟨rfl, ⟨hI.putObj _ i3 (by omega) hl3 rfl, hl4, hk4⟩, (s2.trans s3).trans (Same2.putObj _ _ (by omega) (by omega))⟩⟩
      | .ret, ⟨k3, i3⟩ =>
        obtain ⟨hr, hl3, hl4, hk4⟩ := fin k3 (some .ret)
        exact ⟨_, _, hr, .inr ⟨rfl, .ret, (hIx _).putObj _ i3 (by omega) hl3 rfl, hl4, hk4⟩⟩
      | .exit id, ⟨k3, i3⟩ =>
        obtain ⟨hr, hl3, hl4, hk4⟩ := fin k3 (some (.exit id))
        exact ⟨_, _, hr, .inr ⟨rfl, .exit id, (hIx _).putObj _ i3 (by omega) hl3 rfl, hl4, hk4⟩⟩
      | .goto t, ⟨k3, i3⟩ =>
        obtain ⟨hr, hl3, hl4, hk4⟩ := fin k3 (some (.goto t))
        exact ⟨_, _, hr, .inr ⟨rfl, .goto t, (hIx _).putObj _ i3 (by omega) hl3 rfl, hl4, hk4⟩⟩
end Go.Proofs.Ytlcbfabdfpdcgaa
