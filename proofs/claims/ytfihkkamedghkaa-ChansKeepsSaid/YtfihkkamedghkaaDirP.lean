/- The iterator of dir.pairs, its second list being one record: its contract. -/
import Derived.Test.YtfihkkamedghkaaDirF
import Derived.Test.YtfihkkamedghkaaRngP
namespace Go.Proofs.Ytfihkkamedghkaa
open Go.RowKit Go.Shelf
set_option linter.unusedVariables false
attribute [local go_sem] Oper.semAt_some
/-- What 'next' leaves: the box R holds a slice of that length, the other blocks lie on. -/
def NextP (R n : Nat) (w w' : World) : Prop := w.heap.size ≤ w'.heap.size ∧ (∀ b, b < w.heap.size → b ≠ R → w'.heap[b]? = w.heap[b]?) ∧ (∃ A cp, w'.cell? ⟨R, 0, none⟩ = some (.slice A n cp)) ∧ w'.frozen? ⟨R, 0, none⟩ = false ∧ SameIO w w'
theorem setCell_sz (W : World) (p : Addr) (v : Value) : (W.setCell p v).heap.size = W.heap.size := by
  unfold World.setCell; split <;> simp
theorem set_others {w W : World} {R : Nat} {v : Value} (h : Below w.heap.size w W) {b : Nat} (hb : b < w.heap.size) (hR : b ≠ R) : (W.setCell ⟨R, 0, none⟩ v).heap[b]? = w.heap[b]? := by
  have : (W.setCell ⟨R, 0, none⟩ v).heap[b]? = W.heap[b]? := by
    unfold World.setCell
    split <;> simp [Array.getElem?_modify, Ne.symm hR]
  exact this.trans (h.block b hb)
set_option maxRecDepth 100000 in
set_option maxHeartbeats 4000000 in
theorem next_none (R : Nat) (A : Option Addr) (cp : Nat) (w : World) (h : w.cell? ⟨R, 0, none⟩ = some (.slice A 0 cp)) (hf : w.frozen? ⟨R, 0, none⟩ = false) :
    Calls Try.prog 105 #[.pointer (some ⟨R, 0, none⟩)] w fun x w' => x = .returned (.tuple #[.agg #[.string ⟨#[]⟩, .int .i64 0, .int .i64 0, .bool false, .int .i64 0, .int .i64 0], .bool false]) ∧ Below w.heap.size w w' := by
  have hR : R < w.heap.size := cell_lt h
  go_enter Try.func105, Try.ntmps105
  go_wp2
  refine bodyPost_ret (v := .tuple #[.agg #[.string ⟨#[]⟩, .int .i64 0, .int .i64 0, .bool false, .int .i64 0, .int .i64 0], .bool false]) (by simp [results, Try.results105, go_sem, *]) rfl ⟨rfl, (by repeat (first | with_reducible refine Below.setCell ?_ (by first | (simp; done) | (simp; omega) | omega) _ | with_reducible refine Below.alloc ?_ (by first | (simp; done) | (simp; omega) | omega) _ | with_reducible refine Below.drew ?_ | with_reducible refine below_drewN ?_ _ | with_reducible exact Below.refl _ _))⟩
set_option maxRecDepth 100000 in
set_option maxHeartbeats 4000000 in
theorem next_some (R Bc : Nat) (s : ByteArray) (e m : Int) (al : Bool) (k0 sc : Int) (w : World) (h : w.cell? ⟨R, 0, none⟩ = some (.slice (some ⟨Bc, 0, none⟩) 1 1)) (hf : w.frozen? ⟨R, 0, none⟩ = false) (hc : cells6 w ⟨Bc, 0, none⟩ ⟨s, e, m, al, k0, sc⟩) :
    Calls Try.prog 105 #[.pointer (some ⟨R, 0, none⟩)] w fun x w' => x = .returned (.tuple #[.agg #[.string s, .int .i64 e, .int .i64 m, .bool al, .int .i64 k0, .int .i64 sc], .bool true]) ∧ NextP R 0 w w' := by
  have hR : R < w.heap.size := cell_lt h
  obtain ⟨c0, c1, c2, c3, c4, c5⟩ := hc
  have hB : Bc < w.heap.size := cell_lt c0
  simp only [Nat.zero_add] at c0 c1 c2 c3 c4 c5
  go_enter Try.func105, Try.ntmps105
  go_wp2
  go_region
  all_goals go_wp2
  have hW : Below w.heap.size w (w.alloc (Obj.cells #[.string s, .int .i64 e, .int .i64 m, .bool al, .int .i64 k0, .int .i64 sc] 38)) := (Below.refl _ _).alloc (Nat.le_refl _) _
  refine bodyPost_ret (v := .tuple #[.agg #[.string s, .int .i64 e, .int .i64 m, .bool al, .int .i64 k0, .int .i64 sc], .bool true]) (by simp [results, Try.results105, go_sem, *]) rfl ⟨rfl, ?_, fun b hb hne => ?_, ⟨some ⟨Bc, 0, none⟩, 0, ?_⟩, ?_, (SameIO.setCell w ⟨R, 0, none⟩ (.slice (some ⟨Bc, 0, none⟩) 0 0)).trans ⟨rfl, rfl, rfl⟩⟩
  · simp [setCell_sz]
  · have h1 : ((w.setCell ⟨R, 0, none⟩ (.slice (some ⟨Bc, 0, none⟩) 0 0)).alloc (Obj.cells #[.string s, .int .i64 e, .int .i64 m, .bool al, .int .i64 k0, .int .i64 sc] 38)).heap[b]? = (w.setCell ⟨R, 0, none⟩ (.slice (some ⟨Bc, 0, none⟩) 0 0)).heap[b]? := Below.heap_alloc _ _ _ (by rw [setCell_sz]; exact hb)
    exact h1.trans (set_others (Below.refl _ _) hb hne)
  · go_simp
  · go_simp
/-- What the iterator gives: of a rising list and one record. -/
def pairs1 (c : Ch) : List Ch → Bool → List (Option Ch × Option Ch)
  | [], true => [(none, some c)]
  | [], false => []
  | x :: xs, false => (some x, none) :: pairs1 c xs false
  | x :: xs, true => if ltN c.name x.name then (none, some c) :: (some x, none) :: pairs1 c xs false
    else if c.name.toList == x.name.toList then (some x, some c) :: pairs1 c xs false else (some x, none) :: pairs1 c xs true
theorem pairs1_off (c x : Ch) (xs : List Ch) : pairs1 c (x :: xs) false = (some x, none) :: pairs1 c xs false := rfl
theorem pairs1_lt {c x : Ch} (xs : List Ch) (h : ltN c.name x.name = true) : pairs1 c (x :: xs) true = (none, some c) :: pairs1 c (x :: xs) false := by
  show (if ltN c.name x.name then _ else _) = _
  rw [if_pos h]
  rfl
theorem pairs1_eq {c x : Ch} (xs : List Ch) (h : ltN c.name x.name = false) (h2 : (c.name.toList == x.name.toList) = true) : pairs1 c (x :: xs) true = (some x, some c) :: pairs1 c xs false := by
  show (if ltN c.name x.name then _ else _) = _
  rw [h, h2]
  rfl
theorem pairs1_gt {c x : Ch} (xs : List Ch) (h : ltN c.name x.name = false) (h2 : (c.name.toList == x.name.toList) = false) : pairs1 c (x :: xs) true = (some x, none) :: pairs1 c xs true := by
  show (if ltN c.name x.name then _ else _) = _
  rw [h, h2]
  rfl
theorem pairs1_off_len (c : Ch) : ∀ xs : List Ch, (pairs1 c xs false).length = xs.length
  | [] => rfl
  | x :: xs => by rw [pairs1_off]; simp [pairs1_off_len c xs]
theorem pairs1_len (c : Ch) : ∀ (xs : List Ch) (b : Bool), (pairs1 c xs b).length ≤ xs.length + 1
  | [], true => by simp [pairs1]
  | [], false => by simp [pairs1]
  | x :: xs, false => by have := pairs1_len c xs false; rw [pairs1_off]; simp; omega
  | x :: xs, true => by
    have h1 := pairs1_len c xs true
    have h2 := pairs1_off_len c xs
    cases hL : ltN c.name x.name with
    | true => rw [pairs1_lt _ hL, pairs1_off]; simp; omega
    | false =>
      cases hE : (c.name.toList == x.name.toList) with
      | true => rw [pairs1_eq _ hL hE]; simp; omega
      | false => rw [pairs1_gt _ hL hE]; simp; omega
abbrev PtrE := Option (Addr × Ch) × Option (Addr × Ch)
def ptrV (o : Option (Addr × Ch)) : Value := .pointer (o.map (·.1))
def encsP (x : PtrE) : Array Value := #[ptrV x.1, ptrV x.2]
def projP (x : PtrE) : Option Ch × Option Ch := (x.1.map (·.2), x.2.map (·.2))
def PtP (x : PtrE) (W : World) : Prop := (∀ p c, x.1 = some (p, c) → cells6 W p c) ∧ (∀ p c, x.2 = some (p, c) → cells6 W p c) ∧ (x.1.isSome || x.2.isSome) = true
theorem Fr.set {D Bo : Nat} {A : World} {p : Addr} {v u : Value} (hp : A.cell? p = some u) (h : D ≤ p.block) (hr : rowB Bo A ≠ some p.block) : Fr D Bo A (A.setCell p v) := by
  refine ⟨Nat.le_of_eq (setCell_sz ..).symm, fun b hb hc => ?_, SameIO.setCell ..⟩
  have hne : b ≠ p.block := by
    intro e
    subst e
    rcases hc with hc | hc | ⟨o, ho, hc⟩
    · omega
    · exact hr hc
    · unfold World.cell? at hp
      rw [ho] at hp
      cases o <;> simp_all [Obj.isCells]
  unfold World.setCell
  split <;> simp [Array.getElem?_modify, Ne.symm hne]
/-- A cell that lies on through a round. -/
theorem Kp.cell {D Bo Bw : Nat} {A C : World} (h : Kp D Bo Bw A C) {p : Addr} {v : Value} (hp : A.cell? p = some v) (h1 : p.block ≠ Bo) (h2 : p.block ≠ Bw) (h3 : p.block < D ∨ rowB Bo A ≠ some p.block) : C.cell? p = some v ∧ C.frozen? p = A.frozen? p := by
  have hp' := hp
  unfold World.cell? at hp'
  cases ho : A.heap[p.block]? with
  | none => rw [ho] at hp'; cases hp'
  | some o =>
    rw [ho] at hp'
    have hc : o.isCells = true := by cases o <;> simp_all [Obj.isCells]
    have := h.2.2 p.block o h1 h2 h3 ho hc
    refine ⟨?_, ?_⟩
    · rw [← hp]; unfold World.cell?; rw [ho, this]
    · unfold World.frozen?; rw [ho, this]
theorem Fr.cell {D Bo : Nat} {A C : World} (h : Fr D Bo A C) {p : Addr} {v : Value} (hp : A.cell? p = some v) (h3 : p.block < D) : C.cell? p = some v ∧ C.frozen? p = A.frozen? p := by
  have := h.2.1 p.block (cell_lt hp) (.inl h3)
  refine ⟨?_, ?_⟩
  · rw [← hp]; unfold World.cell?; rw [this]
  · unfold World.frozen?; rw [this]
/-- Between two rounds: the boxes, and the list. -/
def ItS (Bl R C : Nat) (A : Option Addr) (n cp : Nat) (ls : List Ch) (cv : Ch) (W : World) : Prop :=
  W.cell? ⟨Bl, 0, none⟩ = some (.slice A n cp) ∧ (∀ ad, A = some ad → ∀ j x, ls[j]? = some x → cells6 W (ad.add (j * 6)) x) ∧ (∃ A2 c2, W.cell? ⟨R, 0, none⟩ = some (.slice A2 0 c2)) ∧ W.frozen? ⟨R, 0, none⟩ = false ∧
  cells6 W ⟨C, 0, none⟩ cv ∧ ∀ i, i < 6 → W.frozen? ⟨C, i, none⟩ = false
theorem heap_cell {A C : World} {p : Addr} (h : C.heap[p.block]? = A.heap[p.block]?) : C.cell? p = A.cell? p ∧ C.frozen? p = A.frozen? p := by
  unfold World.cell? World.frozen?
  rw [h]
  exact ⟨rfl, rfl⟩
theorem heap_cells6 {A C : World} {p : Addr} {x : Ch} (h : C.heap[p.block]? = A.heap[p.block]?) (k : cells6 A p x) : cells6 C p x :=
  ⟨(heap_cell (p := p) h).1.trans k.1, (heap_cell (p := ⟨p.block, p.off + 1, none⟩) h).1.trans k.2.1, (heap_cell (p := ⟨p.block, p.off + 2, none⟩) h).1.trans k.2.2.1, (heap_cell (p := ⟨p.block, p.off + 3, none⟩) h).1.trans k.2.2.2.1, (heap_cell (p := ⟨p.block, p.off + 4, none⟩) h).1.trans k.2.2.2.2.1, (heap_cell (p := ⟨p.block, p.off + 5, none⟩) h).1.trans k.2.2.2.2.2⟩
/-- A block that lies on through a round. -/
theorem Kp.heap {D Bo Bw : Nat} {A C : World} (h : Kp D Bo Bw A C) {p : Addr} {v : Value} (hp : A.cell? p = some v) (h1 : p.block ≠ Bo) (h2 : p.block ≠ Bw) (h3 : p.block < D ∨ rowB Bo A ≠ some p.block) : C.heap[p.block]? = A.heap[p.block]? := by
  have hp' := hp
  unfold World.cell? at hp'
  cases ho : A.heap[p.block]? with
  | none => rw [ho] at hp'; cases hp'
  | some o =>
    rw [ho] at hp'
    have hc : o.isCells = true := by cases o <;> simp_all [Obj.isCells]
    exact h.2.2 p.block o h1 h2 h3 ho hc
theorem ItS.same {Bl R C : Nat} {A : Option Addr} {n cp : Nat} {ls : List Ch} {cv : Ch} {W W' : World} (h : ItS Bl R C A n cp ls cv W) (h1 : W'.heap[Bl]? = W.heap[Bl]?) (h2 : ∀ ad, A = some ad → W'.heap[ad.block]? = W.heap[ad.block]?) (h3 : W'.heap[R]? = W.heap[R]?) (h4 : W'.heap[C]? = W.heap[C]?) : ItS Bl R C A n cp ls cv W' := by
  obtain ⟨a1, a2, ⟨A2, c2, a3⟩, a4, a5, a6⟩ := h
  exact ⟨(heap_cell (p := ⟨Bl, 0, none⟩) h1).1.trans a1, fun ad e j x hx => heap_cells6 (by rw [block_of_add]; exact h2 ad e) (a2 ad e j x hx), ⟨A2, c2, (heap_cell (p := ⟨R, 0, none⟩) h3).1.trans a3⟩, (heap_cell (p := ⟨R, 0, none⟩) h3).2.trans a4, heap_cells6 h4 a5, fun i hi => (heap_cell (p := ⟨C, i, none⟩) h4).2.trans (a6 i hi)⟩
theorem ItS.same' {Bl R C : Nat} {A : Option Addr} {n cp : Nat} {ls : List Ch} {cv : Ch} {W W' : World} (h : ItS Bl R C A n cp ls cv W) (h1 : W'.heap[Bl]? = W.heap[Bl]?) (h2 : ∀ ad, A = some ad → ∀ x, ls[0]? = some x → W'.heap[ad.block]? = W.heap[ad.block]?) (h3 : W'.heap[R]? = W.heap[R]?) (h4 : W'.heap[C]? = W.heap[C]?) : ItS Bl R C A n cp ls cv W' := by
  obtain ⟨a1, a2, ⟨A2, c2, a3⟩, a4, a5, a6⟩ := h
  refine ⟨(heap_cell (p := ⟨Bl, 0, none⟩) h1).1.trans a1, fun ad e j x hx => ?_, ⟨A2, c2, (heap_cell (p := ⟨R, 0, none⟩) h3).1.trans a3⟩, (heap_cell (p := ⟨R, 0, none⟩) h3).2.trans a4, heap_cells6 h4 a5, fun i hi => (heap_cell (p := ⟨C, i, none⟩) h4).2.trans (a6 i hi)⟩
  obtain ⟨y, hy⟩ : ∃ y, ls[0]? = some y := by cases ls with | nil => simp at hx | cons a t => exact ⟨a, rfl⟩
  exact heap_cells6 (by rw [block_of_add]; exact h2 ad e y hy) (a2 ad e j x hx)
theorem It_round {D Bo Bw Bl R C n cp : Nat} {A : Option Addr} {ls : List Ch} {cv : Ch} {W1 W3 : World} (hK : Kp D Bo Bw W1 W3) (hI : ItS Bl R C A n cp ls cv W1) (hrow : rowB Bo W1 ≠ some R ∧ rowB Bo W1 ≠ some C) (hsz : C + 1 ≤ W1.heap.size) (hRC : R < C) (hDR : D ≤ R) (hBo : Bo < D) (hBw : Bw < D)
    (hl : Bl < D ∧ Bl ≠ Bo ∧ Bl ≠ Bw) (ha : ∀ ad, A = some ad → 0 < ls.length → ad.block < D ∧ ad.block ≠ Bo ∧ ad.block ≠ Bw) : C + 1 ≤ W3.heap.size ∧ ItS Bl R C A n cp ls cv W3 ∧ (rowB Bo W3 ≠ some R ∧ rowB Bo W3 ≠ some C) := by
  have hI' := hI
  obtain ⟨a1, a2, ⟨A2, c2, a3⟩, a4, a5, a6⟩ := hI'
  refine ⟨Nat.le_trans hsz hK.1, ?_, ?_⟩
  · refine hI.same' (hK.heap (p := ⟨Bl, 0, none⟩) a1 hl.2.1 hl.2.2 (.inl hl.1)) (fun ad e x hx => ?_) (hK.heap (p := ⟨R, 0, none⟩) a3 (by show R ≠ Bo; omega) (by show R ≠ Bw; omega) (.inr hrow.1)) (hK.heap (p := ⟨C, 0, none⟩) a5.1 (by show C ≠ Bo; omega) (by show C ≠ Bw; omega) (.inr hrow.2))
    have hn : 0 < ls.length := by cases ls with | nil => simp at hx | cons _ _ => simp
    obtain ⟨b1, b2, b3⟩ := ha ad e hn
    have := hK.heap (a2 ad e 0 x hx).1 (by rw [block_of_add]; exact b2) (by rw [block_of_add]; exact b3) (.inl (by rw [block_of_add]; exact b1))
    rwa [block_of_add] at this
  · rcases hK.2.1 with h | ⟨r, h, h2⟩
    · rw [h]; exact hrow
    · rw [h]
      exact ⟨fun e => by cases e; omega, fun e => by cases e; omega⟩
def zeroC (W4 : World) (C : Nat) : World := ((((((W4.setCell ⟨C, 0, none⟩ (.string ⟨#[]⟩)).setCell ⟨C, 1, none⟩ (.int .i64 0)).setCell ⟨C, 2, none⟩ (.int .i64 0)).setCell ⟨C, 3, none⟩ (.bool false)).setCell ⟨C, 4, none⟩ (.int .i64 0)).setCell ⟨C, 5, none⟩ (.int .i64 0))
theorem zeroC_size (W : World) (C : Nat) : (zeroC W C).heap.size = W.heap.size := by unfold zeroC; simp only [setCell_sz]
theorem zeroC_io (W : World) (C : Nat) : SameIO W (zeroC W C) := by
  unfold zeroC
  exact (((((SameIO.setCell _ _ _).trans (SameIO.setCell _ _ _)).trans (SameIO.setCell _ _ _)).trans (SameIO.setCell _ _ _)).trans (SameIO.setCell _ _ _)).trans (SameIO.setCell _ _ _)
theorem zeroC_other (W : World) (C : Nat) {b : Nat} (h : b ≠ C) : (zeroC W C).heap[b]? = W.heap[b]? := by
  have h1 : ∀ (X : World) (i : Nat) (v : Value), (X.setCell ⟨C, i, none⟩ v).heap[b]? = X.heap[b]? := by
    intro X i v
    unfold World.setCell
    split <;> simp [Array.getElem?_modify, Ne.symm h]
  unfold zeroC
  simp only [h1]
theorem It_zero {D Bo Bl R C n cp : Nat} {A : Option Addr} {ls : List Ch} {cv : Ch} {W3 W4 : World} (hI : ItS Bl R C A n cp ls cv W3) (hb : Below W3.heap.size W3 W4) (hrow : rowB Bo W3 ≠ some R ∧ rowB Bo W3 ≠ some C) (hsz : C + 1 ≤ W3.heap.size) (hRC : R < C) (hDC : D ≤ C) (hBo : Bo < D) (hl : Bl ≠ C) (ha : ∀ ad, A = some ad → 0 < ls.length → ad.block < D) :
    C + 1 ≤ (zeroC W4 C).heap.size ∧ ItS Bl R C A n cp ls Ch0 (zeroC W4 C) ∧ (rowB Bo (zeroC W4 C) ≠ some R ∧ rowB Bo (zeroC W4 C) ≠ some C) ∧ Fr D Bo W3 (zeroC W4 C) := by
  have hk : ∀ b, b < W3.heap.size → b ≠ C → (zeroC W4 C).heap[b]? = W3.heap[b]? := fun b hb2 hne => (zeroC_other W4 C hne).trans (hb.block b hb2)
  have hfr : Fr D Bo W3 (zeroC W4 C) := by
    refine ⟨by rw [zeroC_size]; exact hb.size, fun b hb2 hc => hk b hb2 ?_, (SameIO.below hb).trans (zeroC_io _ _)⟩
    intro e
    subst e
    rcases hc with hc | hc | ⟨o, ho, hc⟩
    · omega
    · exact hrow.2 hc
    · have := hI.2.2.2.2.1.1
      unfold World.cell? at this
      rw [ho] at this
      cases o <;> simp_all [Obj.isCells]
  obtain ⟨a1, a2, ⟨A2, c2, a3⟩, a4, a5, a6⟩ := hI
  have hR := cell_lt a3
  have hBl := cell_lt a1
  simp only [] at hR hBl
  obtain ⟨c0, c1, c2', c3, c4, c5⟩ := a5.below (p := ⟨C, 0, none⟩) (by show C < _; omega) hb
  simp only [Nat.zero_add] at c0 c1 c2' c3 c4 c5
  have hr0 : rowB Bo (zeroC W4 C) = rowB Bo W3 := rowB_same (hk Bo (by omega) (by omega))
  refine ⟨by rw [zeroC_size]; exact Nat.le_trans hsz hb.size, ⟨(heap_cell (p := ⟨Bl, 0, none⟩) (hk Bl hBl hl)).1.trans a1, fun ad e j x hx => ?_, ⟨A2, c2, (heap_cell (p := ⟨R, 0, none⟩) (hk R hR (by omega))).1.trans a3⟩, (heap_cell (p := ⟨R, 0, none⟩) (hk R hR (by omega))).2.trans a4, ?_, fun i hi => ?_⟩, by rw [hr0]; exact hrow, hfr⟩
  · have hn : 0 < ls.length := by cases ls with | nil => simp at hx | cons _ _ => simp
    have h1 := (a2 ad e j x hx)
    have h2 := cell_lt h1.1
    rw [block_of_add] at h2
    exact heap_cells6 (by rw [block_of_add]; exact hk _ h2 (by have := ha ad e hn; omega)) h1
  · unfold zeroC cells6
    simp only [Nat.zero_add]
    exact ⟨by go_simp, by go_simp, by go_simp, by go_simp, by go_simp, by go_simp⟩
  · have h3 : (zeroC W4 C).frozen? ⟨C, i, none⟩ = W4.frozen? ⟨C, i, none⟩ := by unfold zeroC; simp only [World.frozen?_setCell]
    rw [h3]
    exact (hb.frozen (p := ⟨C, i, none⟩) (by show C < _; omega)).trans (a6 i hi)
set_option maxRecDepth 100000 in
set_option maxHeartbeats 8000000 in
theorem pairs_seq (k : Nat) (hk : 1 ≤ k) (Bm Bl Bc Bo Bw : Nat) (A : Option Addr) (n cp : Nat) (ls : List Ch) (s : ByteArray) (e m : Int) (al : Bool) (k0 sc : Int) (w : World) (hBo : Bo < w.heap.size) (hBw : Bw < w.heap.size)
    (hm : n * 56 ≤ 140737488351232) (h1 : w.cell? ⟨Bm, 0, none⟩ = some (.slice (some ⟨Bc, 0, none⟩) 1 1)) (h2 : w.cell? ⟨Bl, 0, none⟩ = some (.slice A n cp)) (h3 : cells6 w ⟨Bc, 0, none⟩ ⟨s, e, m, al, k0, sc⟩) (hr : ChsAt w w.heap.size A n ls)
    (d1 : Bl ≠ Bo ∧ Bl ≠ Bw) (d2 : 0 < ls.length → ∀ ad, A = some ad → ad.block ≠ Bo ∧ ad.block ≠ Bw) :
    SeqP k Try.prog 104 #[.pointer (some ⟨Bm, 0, none⟩), .pointer (some ⟨Bl, 0, none⟩)] encsP PtP Bo Bw (n + 2) (fun xs => xs.map projP = pairs1 ⟨s, e, m, al, k0, sc⟩ ls true) w := by
  intro l J W hW hJr hJF hY h0
  have g1 := (hW.cell (p := ⟨Bm, 0, none⟩) (cell_lt h1)).trans h1
  have g2 := (hW.cell (p := ⟨Bl, 0, none⟩) (cell_lt h2)).trans h2
  have g3 := h3.below (p := ⟨Bc, 0, none⟩) (cell_lt h3.1) hW
  have hBl := cell_lt h2
  have hBm := cell_lt h1
  have hBc := cell_lt h3.1
  have hws := hW.size
  have HR := Lib.hid (hr.below hW)
  simp only [] at hBl hBm hBc
  refine callsIn_of_wp Try.func104 rfl trivial ?_ rfl
  simp only [Try.ntmps104, List.size_toArray, List.length_cons, List.length_nil, Nat.reduceAdd, Nat.reduceSub, Array.replicate_succ, Array.replicate_zero, List.push_toArray, List.append_toArray, List.nil_append, List.cons_append]
  have hcs := next_some W.heap.size Bc s e m al k0 sc (W.alloc (Obj.cells #[.slice (some ⟨Bc, 0, none⟩) 1 1] 46)) (by go_simp) (by go_simp) (g3.below (p := ⟨Bc, 0, none⟩) (by show Bc < W.heap.size; omega) ((Below.refl _ _).alloc (Nat.le_refl _) _))
  have hR := hJr _ _ h0
  refine wpIn_wide.2 ?_
  have HY := Lib.hid hY; have HJR := Lib.hid hJr; have HJF := Lib.hid hJF; have H0 := Lib.hid h0; have CS := Lib.hid hcs
  have G3 := Lib.hid g3
  clear hY hJr hJF h0 hcs hr g3 h3 h1 h2
  go_wp2_with (fail)
  refine CS.out.mono ?_; rintro x W2 ⟨rfl, hsz, hoth, ⟨A2, c2, hRc⟩, hRf, hio⟩
  rw [World.size_alloc] at hsz
  have hall : ∀ b, b < W.heap.size → W2.heap[b]? = W.heap[b]? := fun b hb => (hoth b (by rw [World.size_alloc]; omega) (by omega)).trans (Below.heap_alloc _ _ _ hb)
  have gl := (heap_cell (p := ⟨Bl, 0, none⟩) (hall Bl (by omega))).1.trans g2
  have hBl2 : Bl < W2.heap.size := by omega
  have hR2 : W.heap.size < W2.heap.size := by omega
  have hst : ItS Bl W.heap.size W2.heap.size A n cp ls ⟨s, e, m, al, k0, sc⟩ (W2.alloc (Obj.cells #[.string s, .int .i64 e, .int .i64 m, .bool al, .int .i64 k0, .int .i64 sc] 38)) := by
    refine ⟨by go_simp, fun ad ea j x hx => ?_, ⟨A2, c2, by go_simp⟩, by go_simp, ⟨by go_simp, by go_simp, by go_simp, by go_simp, by go_simp, by go_simp⟩, fun i hi => by go_simp⟩
    have hn0 : 0 < n := by
      rcases Nat.eq_zero_or_pos n with h | h
      · have := HR.out.1; rw [h] at this; rw [List.eq_nil_of_length_eq_zero this] at hx; simp at hx
      · exact h
    obtain ⟨ad2, e2, hb2, hc2⟩ := HR.out.2.2 hn0
    obtain rfl : ad = ad2 := by rw [ea] at e2; exact Option.some.inj e2
    refine heap_cells6 ?_ (hc2 j x hx)
    rw [block_of_add]
    exact (Below.heap_alloc _ _ _ (by omega)).trans (hall _ (by omega))
  have hfr : Fr w.heap.size Bo W (W2.alloc (Obj.cells #[.string s, .int .i64 e, .int .i64 m, .bool al, .int .i64 k0, .int .i64 sc] 38)) := ⟨by simp; omega, fun b hb _ => (Below.heap_alloc _ _ _ (by omega)).trans (hall b hb), hio.trans ⟨rfl, rfl, rfl⟩⟩
  have hj := HJF.out _ _ _ H0.out hfr
  have hrow : ∀ r, rowB Bo (W2.alloc (Obj.cells #[.string s, .int .i64 e, .int .i64 m, .bool al, .int .i64 k0, .int .i64 sc] 38)) = some r → r < W.heap.size := by
    intro r hr
    have h5 : (W2.alloc (Obj.cells #[.string s, .int .i64 e, .int .i64 m, .bool al, .int .i64 k0, .int .i64 sc] 38)).heap[Bo]? = W.heap[Bo]? := (Below.heap_alloc _ _ _ (by omega)).trans (hall _ (by omega))
    rw [rowB_same h5] at hr
    exact ((HJR.out _ _ H0.out).2 r hr).2
  have hsz3 : W2.heap.size + 1 = (W2.alloc (Obj.cells #[.string s, .int .i64 e, .int .i64 m, .bool al, .int .i64 k0, .int .i64 sc] 38)).heap.size := by simp
  have HST := Lib.hid hst; have HJ := Lib.hid hj; have HROW := Lib.hid hrow; have HSZ := Lib.hid hsz3
  clear hst hfr hj hrow hsz3
  go_wp2
  refine (wpIn_wide (n := k)).1 ?_
  gi_loopw [7, 21] (fun ok i W' => ∃ (b : Bool) (j : Nat) (pre : List PtrE), ok = .bool b ∧ i = .int .i64 j ∧ j ≤ n ∧ J pre W' ∧ W2.heap.size + 1 ≤ W'.heap.size ∧ ItS Bl W.heap.size W2.heap.size A n cp ls (if b then ⟨s, e, m, al, k0, sc⟩ else Ch0) W' ∧ (rowB Bo W' ≠ some W.heap.size ∧ rowB Bo W' ≠ some W2.heap.size) ∧ pre.map projP ++ pairs1 ⟨s, e, m, al, k0, sc⟩ (ls.drop j) b = pairs1 ⟨s, e, m, al, k0, sc⟩ ls true) (fun _ i _ => n - (intOf i).toNat)
  case atStart => exact ⟨true, 0, [], rfl, rfl, Nat.zero_le _, HJ.out, Nat.le_of_eq HSZ.out, HST.out, ⟨fun h => by have := HROW.out _ h; omega, fun h => by have := HROW.out _ h; omega⟩, rfl⟩
  case round =>
    obtain ⟨b, j, pre, rfl, rfl, hj, hJ, hsz0, hIt, hro, hT⟩ := hrel
    have HJ1 := Lib.hid hJ; have HI1 := Lib.hid hIt; have HRO := Lib.hid hro; have HT := Lib.hid hT; have HS0 := Lib.hid hsz0
    clear HJ HST HROW HSZ hJ hIt hro hT H0
    have hla : ∀ ad, A = some ad → 0 < ls.length → ad.block < w.heap.size ∧ ad.block ≠ Bo ∧ ad.block ≠ Bw := fun ad ea hn => by
      obtain ⟨ad2, e2, hb2, _⟩ := HR.out.2.2 (by rw [← HR.out.1]; exact hn)
      obtain rfl : ad = ad2 := by rw [ea] at e2; exact Option.some.inj e2
      exact ⟨hb2, d2 hn ad ea⟩
    have HLA := Lib.hid hla
    clear hla
    by_cases hlt : j < n
    · obtain ⟨ad, x, hA, hab, hx, hxs, hc6⟩ := HR.out.get hlt
      subst hA
      obtain ⟨P, hP⟩ : ∃ P, ad.add (j * 6) = P := ⟨_, rfl⟩
      have hPb : P.block < w.heap.size := by rw [← hP, block_of_add]; exact hab
      have hdrop : ls.drop j = x :: ls.drop (j + 1) := by
        obtain ⟨h5, h6⟩ := List.getElem?_eq_some_iff.1 hx
        rw [← h6]; exact List.drop_eq_getElem_cons h5
      have HX := Lib.hid hx; have HDR := Lib.hid hdrop
      clear hx hdrop hc6
      gi_wp2
      gi_loopw [7] (fun ok W' => ∃ (b : Bool) (pre : List PtrE), ok = .bool b ∧ J pre W' ∧ W2.heap.size + 1 ≤ W'.heap.size ∧ ItS Bl W.heap.size W2.heap.size (some ad) n cp ls (if b then ⟨s, e, m, al, k0, sc⟩ else Ch0) W' ∧ (rowB Bo W' ≠ some W.heap.size ∧ rowB Bo W' ≠ some W2.heap.size) ∧ pre.map projP ++ pairs1 ⟨s, e, m, al, k0, sc⟩ (ls.drop j) b = pairs1 ⟨s, e, m, al, k0, sc⟩ ls true) (fun ok _ => match ok with | .bool true => 1 | _ => 0)
      case atStart => exact ⟨b, pre, rfl, HJ1.out, HS0.out, HI1.out, HRO.out, HT.out⟩
      case round =>
        clear HJ1 HI1 HRO HT HS0
        obtain ⟨b, pre, rfl, hJ, hsz0, hIt, hro, hT⟩ := hrel
        have HJ1 := Lib.hid hJ; have HI1 := Lib.hid hIt; have HRO := Lib.hid hro; have HT := Lib.hid hT; have HS0 := Lib.hid hsz0
        obtain ⟨i1, i2, ⟨A3, c3', i3⟩, i4, ⟨j0, j1, j2, j3, j4, j5⟩, i6⟩ := hIt
        simp only [Nat.zero_add] at j0 j1 j2 j3 j4 j5
        have q := i2 ad rfl j x HX.out
        rw [hP] at q
        obtain ⟨q0, q1, q2, q3, q4, q5⟩ := q
        clear hJ hro hT i2 i6
        have hPw := cell_lt q0
        have hblw := cell_lt i1
        simp only [] at hblw
        have hsW := HS0.out
        have hbw0 : Bo < wr.heap.size := by omega
        cases b with
        | false =>
          have hjy := HJF.out _ _ (wr.drew.drew) HJ1.out (⟨Nat.le_refl _, fun _ _ _ => rfl, ⟨rfl, rfl, rfl⟩⟩)
          obtain ⟨fn', tm', as', bo', hy, hR'⟩ := HY.out pre (some (P, x), none) (wr.drew.drew) hjy (⟨fun p c h => (by cases h; exact ⟨q0, q1, q2, q3, q4, q5⟩), fun p c h => (by cases h), rfl⟩) (by have h := congrArg List.length HT.out; rw [HDR.out, pairs1_off] at h; have h9 := pairs1_len ⟨s, e, m, al, k0, sc⟩ ls true; rw [HR.out.1] at h9; simp at h; omega)
          simp only [encsP, ptrV, Option.map] at hy
          have HRR := Lib.hid hR'
          clear hjy hR'
          gi_wp2_with (fail)
          refine wpIn_wide.2 ?_
          go_region
          gi_wp2_with (fail)
          refine wpIn_wide.2 ?_
          go_region
          gi_wp2
          refine HRR.out.mono ?_
          rintro e' W3 ⟨rfl, hJ3, hK3⟩
          have hi1 : ItS Bl W.heap.size W2.heap.size (some ad) n cp ls Ch0 (wr.drew.drew) := HI1.out
          have hr1 : rowB Bo (wr.drew.drew) ≠ some W.heap.size ∧ rowB Bo (wr.drew.drew) ≠ some W2.heap.size := HRO.out
          obtain ⟨t1, t2, t3⟩ := It_round hK3 hi1 hr1 HS0.out (by omega) (by omega) hBo hBw ⟨hBl, d1⟩ HLA.out
          gi_wp2
          go_roundw
          case rel => exact ⟨false, j + 1, pre ++ [(some (P, x), none)], rfl, by go_num, by omega, hJ3, t1, t2, t3, (by have h := HT.out; rw [HDR.out, pairs1_off] at h; simpa [projP] using h)⟩
          case measure => simp [intOf]; omega
        | true =>
          cases hL : Op.bytesLess s.toList x.name.toList with
          | true =>
            have hjy := HJF.out _ _ ((wr.alloc (Obj.cells #[.string s, .int .i64 e, .int .i64 m, .bool al, .int .i64 k0, .int .i64 sc] 38)).drew) HJ1.out (⟨by simp, fun b hb _ => Below.heap_alloc _ _ _ hb, ⟨rfl, rfl, rfl⟩⟩)
            obtain ⟨fn', tm', as', bo', hy, hR'⟩ := HY.out pre (none, some (⟨wr.heap.size, 0, none⟩, ⟨s, e, m, al, k0, sc⟩)) ((wr.alloc (Obj.cells #[.string s, .int .i64 e, .int .i64 m, .bool al, .int .i64 k0, .int .i64 sc] 38)).drew) hjy (⟨fun p c h => (by cases h), fun p c h => (by cases h; exact ⟨by go_simp, by go_simp, by go_simp, by go_simp, by go_simp, by go_simp⟩), rfl⟩) (by have h := congrArg List.length HT.out; rw [HDR.out, pairs1_lt (c := ⟨s, e, m, al, k0, sc⟩) (x := x) _ hL] at h; have h9 := pairs1_len ⟨s, e, m, al, k0, sc⟩ ls true; rw [HR.out.1] at h9; simp at h; omega)
            simp only [encsP, ptrV, Option.map] at hy
            have HRR := Lib.hid hR'
            clear hjy hR'
            gi_wp2_with (fail)
            refine wpIn_wide.2 ?_
            go_region
            gi_wp2
            refine HRR.out.mono ?_
            rintro e' W3 ⟨rfl, hJ3, hK3⟩
            have hi1 : ItS Bl W.heap.size W2.heap.size (some ad) n cp ls ⟨s, e, m, al, k0, sc⟩ ((wr.alloc (Obj.cells #[.string s, .int .i64 e, .int .i64 m, .bool al, .int .i64 k0, .int .i64 sc] 38)).drew) := HI1.out.same (Below.heap_alloc _ _ _ (by omega)) (fun ad' ea => by cases ea; exact Below.heap_alloc _ _ _ (by rw [← hP, block_of_add] at hPw; exact hPw)) (Below.heap_alloc _ _ _ (by omega)) (Below.heap_alloc _ _ _ (by omega))
            have hr1 : rowB Bo ((wr.alloc (Obj.cells #[.string s, .int .i64 e, .int .i64 m, .bool al, .int .i64 k0, .int .i64 sc] 38)).drew) ≠ some W.heap.size ∧ rowB Bo ((wr.alloc (Obj.cells #[.string s, .int .i64 e, .int .i64 m, .bool al, .int .i64 k0, .int .i64 sc] 38)).drew) ≠ some W2.heap.size := by rw [show rowB Bo ((wr.alloc (Obj.cells #[.string s, .int .i64 e, .int .i64 m, .bool al, .int .i64 k0, .int .i64 sc] 38)).drew) = rowB Bo wr from rowB_same (Below.heap_alloc _ _ _ (by omega))]; exact HRO.out
            obtain ⟨t1, t2, t3⟩ := It_round hK3 hi1 hr1 (by simp; have := HS0.out; omega) (by omega) (by omega) hBo hBw ⟨hBl, d1⟩ HLA.out
            obtain ⟨u1, u2, ⟨A4, c4', u3⟩, u4, ⟨v0, v1, v2, v3, v4, v5⟩, u6⟩ := id t2
            simp only [Nat.zero_add] at v0 v1 v2 v3 v4 v5
            have f0 := u6 0 (by omega); have f1 := u6 1 (by omega); have f2 := u6 2 (by omega); have f3 := u6 3 (by omega); have f4 := u6 4 (by omega); have f5 := u6 5 (by omega)
            have cn := next_none W.heap.size A4 c4' W3 u3 u4
            have CN := Lib.hid cn
            have T1 := Lib.hid t1; have T2 := Lib.hid t2; have T3 := Lib.hid t3; have HJ3 := Lib.hid hJ3
            have hc3 : W2.heap.size < W3.heap.size := by omega
            clear cn t2 t3 hJ3 hK3 hi1 hr1 hy u6 u1
            gi_wp2_with (fail)
            refine ⟨trivial, (callsIn_wide.2 CN.out).mono ?_⟩; rintro e' W4 ⟨rfl, hb4⟩
            obtain ⟨hc4, hf4⟩ := bcell hb4
            have hz4 : W2.heap.size < W4.heap.size := by have := hb4.size; omega
            obtain ⟨z1, z2, z3, z4⟩ := It_zero (D := w.heap.size) (Bo := Bo) T2.out hb4 T3.out T1.out (by omega) (by omega) hBo (by omega) (fun ad' ea hn => (HLA.out ad' ea hn).1)
            have hj5 := HJF.out _ _ _ HJ3.out z4
            have Z1 := Lib.hid z1; have Z2 := Lib.hid z2; have Z3 := Lib.hid z3; have HJ5 := Lib.hid hj5
            clear z1 z2 z3 z4 hj5
            gi_wp2
            go_roundw
            case rel => exact ⟨false, pre ++ [(none, some (⟨wr.heap.size, 0, none⟩, ⟨s, e, m, al, k0, sc⟩))], rfl, HJ5.out, Z1.out, Z2.out, Z3.out, (by have h := HT.out; rw [HDR.out, pairs1_lt (c := ⟨s, e, m, al, k0, sc⟩) (x := x) _ hL] at h; rw [HDR.out]; simpa [projP] using h)⟩
            case measure => simp
          | false =>
            cases hE : (s.toList == x.name.toList) with
            | false =>
              have hjy := HJF.out _ _ (wr.drew.drew) HJ1.out (⟨Nat.le_refl _, fun _ _ _ => rfl, ⟨rfl, rfl, rfl⟩⟩)
              obtain ⟨fn', tm', as', bo', hy, hR'⟩ := HY.out pre (some (P, x), none) (wr.drew.drew) hjy (⟨fun p c h => (by cases h; exact ⟨q0, q1, q2, q3, q4, q5⟩), fun p c h => (by cases h), rfl⟩) (by have h := congrArg List.length HT.out; rw [HDR.out, pairs1_gt (c := ⟨s, e, m, al, k0, sc⟩) (x := x) _ hL hE] at h; have h9 := pairs1_len ⟨s, e, m, al, k0, sc⟩ ls true; rw [HR.out.1] at h9; simp at h; omega)
              simp only [encsP, ptrV, Option.map] at hy
              have HRR := Lib.hid hR'
              clear hjy hR'
              gi_wp2_with (fail)
              refine wpIn_wide.2 ?_
              go_region
              gi_wp2_with (fail)
              refine wpIn_wide.2 ?_
              go_region
              gi_wp2
              refine HRR.out.mono ?_
              rintro e' W3 ⟨rfl, hJ3, hK3⟩
              have hi1 : ItS Bl W.heap.size W2.heap.size (some ad) n cp ls ⟨s, e, m, al, k0, sc⟩ (wr.drew.drew) := HI1.out
              have hr1 : rowB Bo (wr.drew.drew) ≠ some W.heap.size ∧ rowB Bo (wr.drew.drew) ≠ some W2.heap.size := HRO.out
              obtain ⟨t1, t2, t3⟩ := It_round hK3 hi1 hr1 HS0.out (by omega) (by omega) hBo hBw ⟨hBl, d1⟩ HLA.out
              gi_wp2
              go_roundw
              case rel => exact ⟨true, j + 1, pre ++ [(some (P, x), none)], rfl, by go_num, by omega, hJ3, t1, t2, t3, (by have h := HT.out; rw [HDR.out, pairs1_gt (c := ⟨s, e, m, al, k0, sc⟩) (x := x) _ hL hE] at h; simpa [projP] using h)⟩
              case measure => simp [intOf]; omega
            | true =>
              have hjy := HJF.out _ _ ((wr.alloc (Obj.cells #[.string s, .int .i64 e, .int .i64 m, .bool al, .int .i64 k0, .int .i64 sc] 38)).drew.drew) HJ1.out (⟨by simp, fun b hb _ => Below.heap_alloc _ _ _ hb, ⟨rfl, rfl, rfl⟩⟩)
              obtain ⟨fn', tm', as', bo', hy, hR'⟩ := HY.out pre (some (P, x), some (⟨wr.heap.size, 0, none⟩, ⟨s, e, m, al, k0, sc⟩)) ((wr.alloc (Obj.cells #[.string s, .int .i64 e, .int .i64 m, .bool al, .int .i64 k0, .int .i64 sc] 38)).drew.drew) hjy (⟨fun p c h => (by cases h; exact heap_cells6 (A := wr) (Below.heap_alloc _ _ _ hPw) ⟨q0, q1, q2, q3, q4, q5⟩), fun p c h => (by cases h; exact ⟨by go_simp, by go_simp, by go_simp, by go_simp, by go_simp, by go_simp⟩), rfl⟩) (by have h := congrArg List.length HT.out; rw [HDR.out, pairs1_eq (c := ⟨s, e, m, al, k0, sc⟩) (x := x) _ hL hE] at h; have h9 := pairs1_len ⟨s, e, m, al, k0, sc⟩ ls true; rw [HR.out.1] at h9; simp at h; omega)
              simp only [encsP, ptrV, Option.map] at hy
              have HRR := Lib.hid hR'
              clear hjy hR'
              gi_wp2_with (fail)
              refine wpIn_wide.2 ?_
              go_region
              gi_wp2_with (fail)
              refine wpIn_wide.2 ?_
              go_region
              gi_wp2
              refine HRR.out.mono ?_
              rintro e' W3 ⟨rfl, hJ3, hK3⟩
              have hi1 : ItS Bl W.heap.size W2.heap.size (some ad) n cp ls ⟨s, e, m, al, k0, sc⟩ ((wr.alloc (Obj.cells #[.string s, .int .i64 e, .int .i64 m, .bool al, .int .i64 k0, .int .i64 sc] 38)).drew.drew) := HI1.out.same (Below.heap_alloc _ _ _ (by omega)) (fun ad' ea => by cases ea; exact Below.heap_alloc _ _ _ (by rw [← hP, block_of_add] at hPw; exact hPw)) (Below.heap_alloc _ _ _ (by omega)) (Below.heap_alloc _ _ _ (by omega))
              have hr1 : rowB Bo ((wr.alloc (Obj.cells #[.string s, .int .i64 e, .int .i64 m, .bool al, .int .i64 k0, .int .i64 sc] 38)).drew.drew) ≠ some W.heap.size ∧ rowB Bo ((wr.alloc (Obj.cells #[.string s, .int .i64 e, .int .i64 m, .bool al, .int .i64 k0, .int .i64 sc] 38)).drew.drew) ≠ some W2.heap.size := by rw [show rowB Bo ((wr.alloc (Obj.cells #[.string s, .int .i64 e, .int .i64 m, .bool al, .int .i64 k0, .int .i64 sc] 38)).drew.drew) = rowB Bo wr from rowB_same (Below.heap_alloc _ _ _ (by omega))]; exact HRO.out
              obtain ⟨t1, t2, t3⟩ := It_round hK3 hi1 hr1 (by simp; have := HS0.out; omega) (by omega) (by omega) hBo hBw ⟨hBl, d1⟩ HLA.out
              obtain ⟨u1, u2, ⟨A4, c4', u3⟩, u4, ⟨v0, v1, v2, v3, v4, v5⟩, u6⟩ := id t2
              simp only [Nat.zero_add] at v0 v1 v2 v3 v4 v5
              have f0 := u6 0 (by omega); have f1 := u6 1 (by omega); have f2 := u6 2 (by omega); have f3 := u6 3 (by omega); have f4 := u6 4 (by omega); have f5 := u6 5 (by omega)
              have cn := next_none W.heap.size A4 c4' W3 u3 u4
              have CN := Lib.hid cn
              have T1 := Lib.hid t1; have T2 := Lib.hid t2; have T3 := Lib.hid t3; have HJ3 := Lib.hid hJ3
              have hc3 : W2.heap.size < W3.heap.size := by omega
              clear cn t2 t3 hJ3 hK3 hi1 hr1 hy u6 u1
              gi_wp2_with (fail)
              refine ⟨trivial, (callsIn_wide.2 CN.out).mono ?_⟩; rintro e' W4 ⟨rfl, hb4⟩
              obtain ⟨hc4, hf4⟩ := bcell hb4
              have hz4 : W2.heap.size < W4.heap.size := by have := hb4.size; omega
              obtain ⟨z1, z2, z3, z4⟩ := It_zero (D := w.heap.size) (Bo := Bo) T2.out hb4 T3.out T1.out (by omega) (by omega) hBo (by omega) (fun ad' ea hn => (HLA.out ad' ea hn).1)
              have hj5 := HJF.out _ _ _ HJ3.out z4
              have Z1 := Lib.hid z1; have Z2 := Lib.hid z2; have Z3 := Lib.hid z3; have HJ5 := Lib.hid hj5
              clear z1 z2 z3 z4 hj5
              gi_wp2
              go_roundw
              case rel => exact ⟨false, j + 1, pre ++ [(some (P, x), some (⟨wr.heap.size, 0, none⟩, ⟨s, e, m, al, k0, sc⟩))], rfl, by go_num, by omega, HJ5.out, Z1.out, Z2.out, Z3.out, (by have h := HT.out; rw [HDR.out, pairs1_eq (c := ⟨s, e, m, al, k0, sc⟩) (x := x) _ hL hE] at h; simpa [projP] using h)⟩
              case measure => simp [intOf]; omega
    · obtain rfl : j = n := by omega
      have hend : ls.drop j = [] := List.drop_eq_nil_of_le (by rw [HR.out.1]; exact Nat.le_refl _)
      have HEND := Lib.hid hend
      clear hend
      gi_wp2
      refine (wpIn_wide (n := k)).1 ?_
      gi_wp2
      gi_loopw [7] (fun ok W' => ∃ (b : Bool) (pre : List PtrE), ok = .bool b ∧ J pre W' ∧ W2.heap.size + 1 ≤ W'.heap.size ∧ ItS Bl W.heap.size W2.heap.size A j cp ls (if b then ⟨s, e, m, al, k0, sc⟩ else Ch0) W' ∧ (rowB Bo W' ≠ some W.heap.size ∧ rowB Bo W' ≠ some W2.heap.size) ∧ pre.map projP ++ (if b then [(none, some ⟨s, e, m, al, k0, sc⟩)] else []) = pairs1 ⟨s, e, m, al, k0, sc⟩ ls true) (fun ok _ => match ok with | .bool true => 1 | _ => 0)
      case atStart => exact ⟨b, pre, rfl, HJ1.out, HS0.out, HI1.out, HRO.out, by have h := HT.out; rw [HEND.out] at h; cases b <;> exact h⟩
      case round =>
        clear HJ1 HI1 HRO HT HS0
        obtain ⟨b, pre, rfl, hJ, hsz0, hIt, hro, hT⟩ := hrel
        have HJ1 := Lib.hid hJ; have HI1 := Lib.hid hIt; have HRO := Lib.hid hro; have HT := Lib.hid hT; have HS0 := Lib.hid hsz0
        have hsW := HS0.out
        have hbw0 : Bo < wr.heap.size := by omega
        obtain ⟨i1, i2, ⟨A3, c3', i3⟩, i4, ⟨j0, j1, j2, j3, j4, j5⟩, i6⟩ := hIt
        simp only [Nat.zero_add] at j0 j1 j2 j3 j4 j5
        clear hJ hro hT i2 i6
        have hblw := cell_lt i1
        simp only [] at hblw
        cases b with
        | false =>
          gi_wp2
          go_end0
          exact ⟨⟨_, rfl⟩, pre, by simpa using HT.out, HJ1.out⟩
        | true =>
          have hjy := HJF.out _ _ ((wr.alloc (Obj.cells #[.string s, .int .i64 e, .int .i64 m, .bool al, .int .i64 k0, .int .i64 sc] 38))) HJ1.out (⟨by simp, fun b hb _ => Below.heap_alloc _ _ _ hb, ⟨rfl, rfl, rfl⟩⟩)
          obtain ⟨fn', tm', as', bo', hy, hR'⟩ := HY.out pre (none, some (⟨wr.heap.size, 0, none⟩, ⟨s, e, m, al, k0, sc⟩)) ((wr.alloc (Obj.cells #[.string s, .int .i64 e, .int .i64 m, .bool al, .int .i64 k0, .int .i64 sc] 38))) hjy (⟨fun p c h => (by cases h), fun p c h => (by cases h; exact ⟨by go_simp, by go_simp, by go_simp, by go_simp, by go_simp, by go_simp⟩), rfl⟩) (by have h := congrArg List.length HT.out; skip; have h9 := pairs1_len ⟨s, e, m, al, k0, sc⟩ ls true; rw [HR.out.1] at h9; simp at h; omega)
          simp only [encsP, ptrV, Option.map] at hy
          have HRR := Lib.hid hR'
          clear hjy hR'
          gi_wp2
          refine HRR.out.mono ?_
          rintro e' W3 ⟨rfl, hJ3, hK3⟩
          have hi1 : ItS Bl W.heap.size W2.heap.size A j cp ls ⟨s, e, m, al, k0, sc⟩ ((wr.alloc (Obj.cells #[.string s, .int .i64 e, .int .i64 m, .bool al, .int .i64 k0, .int .i64 sc] 38))) := HI1.out.same' (Below.heap_alloc _ _ _ (by omega)) (fun ad' ea y hy => Below.heap_alloc _ _ _ (by have h9 := (HLA.out ad' ea (by cases ls with | nil => simp at hy | cons _ _ => simp)).1; omega)) (Below.heap_alloc _ _ _ (by omega)) (Below.heap_alloc _ _ _ (by omega))
          have hr1 : rowB Bo ((wr.alloc (Obj.cells #[.string s, .int .i64 e, .int .i64 m, .bool al, .int .i64 k0, .int .i64 sc] 38))) ≠ some W.heap.size ∧ rowB Bo ((wr.alloc (Obj.cells #[.string s, .int .i64 e, .int .i64 m, .bool al, .int .i64 k0, .int .i64 sc] 38))) ≠ some W2.heap.size := by rw [show rowB Bo ((wr.alloc (Obj.cells #[.string s, .int .i64 e, .int .i64 m, .bool al, .int .i64 k0, .int .i64 sc] 38))) = rowB Bo wr from rowB_same (Below.heap_alloc _ _ _ (by omega))]; exact HRO.out
          obtain ⟨t1, t2, t3⟩ := It_round hK3 hi1 hr1 (by simp; have := HS0.out; omega) (by omega) (by omega) hBo hBw ⟨hBl, d1⟩ HLA.out
          obtain ⟨u1, u2, ⟨A4, c4', u3⟩, u4, ⟨v0, v1, v2, v3, v4, v5⟩, u6⟩ := id t2
          simp only [Nat.zero_add] at v0 v1 v2 v3 v4 v5
          have f0 := u6 0 (by omega); have f1 := u6 1 (by omega); have f2 := u6 2 (by omega); have f3 := u6 3 (by omega); have f4 := u6 4 (by omega); have f5 := u6 5 (by omega)
          have cn := next_none W.heap.size A4 c4' W3 u3 u4
          have CN := Lib.hid cn
          have T1 := Lib.hid t1; have T2 := Lib.hid t2; have T3 := Lib.hid t3; have HJ3 := Lib.hid hJ3
          have hc3 : W2.heap.size < W3.heap.size := by omega
          clear cn t2 t3 hJ3 hK3 hi1 hr1 hy u6 u1
          gi_wp2_with (fail)
          refine ⟨trivial, (callsIn_wide.2 CN.out).mono ?_⟩; rintro e' W4 ⟨rfl, hb4⟩
          obtain ⟨hc4, hf4⟩ := bcell hb4
          have hz4 : W2.heap.size < W4.heap.size := by have := hb4.size; omega
          obtain ⟨z1, z2, z3, z4⟩ := It_zero (D := w.heap.size) (Bo := Bo) T2.out hb4 T3.out T1.out (by omega) (by omega) hBo (by omega) (fun ad' ea hn => (HLA.out ad' ea hn).1)
          have hj5 := HJF.out _ _ _ HJ3.out z4
          have Z1 := Lib.hid z1; have Z2 := Lib.hid z2; have Z3 := Lib.hid z3; have HJ5 := Lib.hid hj5
          clear z1 z2 z3 z4 hj5
          gi_wp2
          go_roundw
          case rel => exact ⟨false, pre ++ [(none, some (⟨wr.heap.size, 0, none⟩, ⟨s, e, m, al, k0, sc⟩))], rfl, HJ5.out, Z1.out, Z2.out, Z3.out, (by have h := HT.out; simpa [projP] using h)⟩
          case measure => simp
end Go.Proofs.Ytfihkkamedghkaa
