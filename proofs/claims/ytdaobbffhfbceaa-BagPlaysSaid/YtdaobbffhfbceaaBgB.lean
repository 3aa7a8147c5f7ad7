/- Between of a bag: what the call computes. -/
import Derived.Test.YtdaobbffhfbceaaBgF
namespace Go.Proofs.Ytdaobbffhfbceaa
open Go.RowKit Go.Shelf
set_option linter.unusedVariables false
set_option linter.unusedSimpArgs false
set_option maxRecDepth 100000
attribute [local go_sem] Oper.semAt_some
theorem row_grown {W w1 : World} {base : Nat} {e : TypeId} {size : Nat} {v : Value} {n : Nat} {xs : List Value} (h : W.ownsRow base e size v n xs) (hg : W.grownBy w1 v.ownBlock) (hb : base ≤ W.heap.size) : Below base W w1 := by
  refine (Below.refl base W).grown hg hb fun j ej => ?_
  rcases h.2 with ⟨rfl, _⟩ | ⟨g, cap, cur, rfl, hb, _⟩
  · simp [Value.ownBlock] at ej
  · simp [Value.ownBlock] at ej
    omega
theorem row_blk {W : World} {base : Nat} {e : TypeId} {size : Nat} {v : Value} {n : Nat} {xs : List Value} (h : W.ownsRow base e size v n xs) {r : Nat} (hr : v.ownBlock = some r) : base ≤ r ∧ r < W.heap.size ∧ ∃ o, W.heap[r]? = some o ∧ o.isCells = true := by
  rcases h.2 with ⟨rfl, _⟩ | ⟨g, cap, cur, rfl, hb, hg, _⟩
  · simp [Value.ownBlock] at hr
  · obtain rfl : g = r := by simpa [Value.ownBlock] using hr
    exact ⟨hb, (Array.getElem?_eq_some_iff.1 hg).1, _, hg, rfl⟩
theorem row_less {W : World} {base base' : Nat} {e : TypeId} {size : Nat} {v : Value} {n : Nat} {xs : List Value} (h : W.ownsRow base e size v n xs) (hb : base' ≤ base) : W.ownsRow base' e size v n xs := by
  refine ⟨h.1, ?_⟩
  rcases h.2 with hn | ⟨g, cap, cur, hv, hb', hgb, rest⟩
  · exact .inl hn
  · exact .inr ⟨g, cap, cur, hv, Nat.le_trans hb hb', hgb, rest⟩
/-- An append onto the row of a box. -/
theorem box_app {W w6 : World} {D Bo : Nat} {e : TypeId} {k n n' : Nat} {xs xs' : List Value} {v v' : Value} {o : Obj} (hBo : Bo < D) (h1 : D ≤ W.heap.size) (h2 : W.cell? ⟨Bo, 0, none⟩ = some v) (h3 : W.frozen? ⟨Bo, 0, none⟩ = false) (hrow : W.ownsRow D e k v n xs)
    (hown : w6.ownsRow D e k v' n' xs') (hgrow : (W.alloc o).grownBy w6 v.ownBlock) (hat : v'.ownBlock = v.ownBlock ∨ v'.ownBlock = some (W.alloc o).heap.size) :
    KeepsFrom D W (w6.setCell ⟨Bo, 0, none⟩ v') ∧ Kp D Bo Bo W (w6.setCell ⟨Bo, 0, none⟩ v') ∧ (w6.setCell ⟨Bo, 0, none⟩ v').cell? ⟨Bo, 0, none⟩ = some v' ∧ (w6.setCell ⟨Bo, 0, none⟩ v').frozen? ⟨Bo, 0, none⟩ = false ∧ (w6.setCell ⟨Bo, 0, none⟩ v').ownsRow D e k v' n' xs' ∧
      (∀ b, b < D → b ≠ Bo → (w6.setCell ⟨Bo, 0, none⟩ v').heap[b]? = W.heap[b]?) ∧ SameIO W (w6.setCell ⟨Bo, 0, none⟩ v') ∧ W.heap.size ≤ (w6.setCell ⟨Bo, 0, none⟩ v').heap.size := by
  have hra : (W.alloc o).ownsRow D e k v n xs := hrow.alloc _
  have hsz : (W.alloc o).heap.size = W.heap.size + 1 := World.size_alloc ..
  have hb6 := row_grown hra hgrow (by omega)
  have ho6 : w6.cell? ⟨Bo, 0, none⟩ = some v := (hb6.cell (p := ⟨Bo, 0, none⟩) hBo).trans ((World.cell?_alloc_lt W o _ (by show Bo < _; omega)).trans h2)
  have hf6 : w6.frozen? ⟨Bo, 0, none⟩ = false := (hb6.frozen (p := ⟨Bo, 0, none⟩) hBo).trans ((frozen_of_block (p := ⟨Bo, 0, none⟩) (w := W) (w' := W.alloc o) (Below.heap_alloc _ _ _ (by show Bo < _; omega))).trans h3)
  have hset : ∀ b, b ≠ Bo → (w6.setCell ⟨Bo, 0, none⟩ v').heap[b]? = w6.heap[b]? := fun b hb => Below.heap_setCell _ _ _ _ hb
  have hco : (w6.setCell ⟨Bo, 0, none⟩ v').cell? ⟨Bo, 0, none⟩ = some v' := World.cell?_setCell_same _ _ _ ho6
  have hrb : rowB Bo W = v.ownBlock := by unfold rowB; rw [h2]
  have hgs := hgrow.size
  have hown2 : ∀ b, v.ownBlock = some b → D ≤ b := fun b e => (row_blk hrow e).1
  have hkb : ∀ (b : Nat) (ob : Obj), b ≠ Bo → (b < D ∨ rowB Bo W ≠ some b) → W.heap[b]? = some ob → (w6.setCell ⟨Bo, 0, none⟩ v').heap[b]? = some ob := fun b ob hb1 hb3 ho => by
    rw [hset b hb1]
    have hbl := (Array.getElem?_eq_some_iff.1 ho).1
    refine (hgrow.block b (by omega) ?_).trans ((Below.heap_alloc _ _ _ hbl).trans ho)
    rw [← hrb]
    rcases hb3 with h | h
    · intro e
      rw [hrb] at e
      have := hown2 b e.symm
      omega
    · exact fun e => h e.symm
  refine ⟨⟨by simp; omega, fun k ob hk ho hc => ?_⟩, ⟨by simp; omega, ?_, fun b ob hb1 hb2 hb3 ho hc => hkb b ob hb1 hb3 ho⟩, hco, by rw [World.frozen?_setCell]; exact hf6, ownsRow_setCell_below hown hBo _, fun b hb hne => ?_, ?_, by simp; omega⟩
  · refine hkb k ob (by omega) (.inr fun e => ?_) ho
    rw [hrb] at e
    obtain ⟨_, _, o2, h5, h6⟩ := row_blk hrow e
    rw [h5] at ho
    cases ho
    rw [h6] at hc
    cases hc
  · unfold rowB
    rw [hco]
    rcases hat with h | h
    · left
      rw [← hrb] at h
      exact h
    · exact .inr ⟨_, h, by omega⟩
  · rw [hset b hne]
    exact (hb6.block b hb).trans (Below.heap_alloc _ _ _ (by omega))
  · exact (SameIO.below (B := D) ((Below.refl D W).alloc h1 o)).trans ((SameIO.below hb6).trans (SameIO.setCell _ _ _))
def outI (a b : Int) (pre : List (Nat × Dg)) : List Int := ((pre.map Prod.snd).filter (btwB a b)).map Dg.num
theorem outI_snoc (a b : Int) (pre : List (Nat × Dg)) (x : Nat × Dg) : outI a b (pre ++ [x]) = outI a b pre ++ (if btwB a b x.2 then [x.2.num] else []) := by
  unfold outI
  rw [List.map_append, List.filter_append, List.map_append]
  congr 1
  cases h : btwB a b x.2 <;> simp [h]
theorem outI_len (a b : Int) (pre : List (Nat × Dg)) : (outI a b pre).length ≤ pre.length := by
  unfold outI
  rw [List.length_map]
  exact Nat.le_trans (List.length_filter_le ..) (by rw [List.length_map]; exact Nat.le_refl _)
theorem outI_all (s : BS) (a b : Int) : outI a b (upto s.ls s.ls.length) = btwS s a b := by
  unfold outI btwS upto
  rw [List.map_map]
  congr 2
  refine List.ext_getElem? fun i => ?_
  rw [List.getElem?_map]
  rcases Nat.lt_or_ge i s.ls.length with h | h
  · simp [List.getElem?_range h, List.getElem?_eq_getElem h]
  · rw [List.getElem?_eq_none (by simpa using h), List.getElem?_eq_none h]
    rfl
abbrev RowI (w : World) (base : Nat) (v : Value) (xs : List Int) : Prop := w.ownsRow base 2 1 v xs.length (xs.map (Value.int .i64))
/-- What holds in the rounds of Between. -/
def BtwI (w W0 : World) (a b : Int) (pre : List (Nat × Dg)) (W : World) : Prop :=
  Below w.heap.size w W ∧ W0.heap.size ≤ W.heap.size ∧ W.cell? ⟨w.heap.size, 0, none⟩ = some (.int .i64 a) ∧ W.cell? ⟨w.heap.size + 1, 0, none⟩ = some (.int .i64 b) ∧
    ∃ v, W.cell? ⟨w.heap.size + 2, 0, none⟩ = some v ∧ W.frozen? ⟨w.heap.size + 2, 0, none⟩ = false ∧ RowI W W0.heap.size v (outI a b pre)
theorem BtwI.row {w W0 W : World} {a b : Int} {pre : List (Nat × Dg)} (h : BtwI w W0 a b pre W) : W0.heap.size ≤ W.heap.size ∧ ∀ r, rowB (w.heap.size + 2) W = some r → W0.heap.size ≤ r ∧ (∃ o, W.heap[r]? = some o ∧ o.isCells = true) := by
  obtain ⟨_, h1, _, _, lv, h2, _, h3⟩ := h
  refine ⟨h1, fun r hr => ?_⟩
  unfold rowB at hr
  rw [h2] at hr
  obtain ⟨h4, _, h5⟩ := row_blk h3 hr
  exact ⟨h4, h5⟩
theorem BtwI.fr {w W0 A C : World} {a b : Int} {pre : List (Nat × Dg)} (hD : w.heap.size + 3 ≤ W0.heap.size) (h : BtwI w W0 a b pre A) (hf : FrI W0.heap.size (w.heap.size + 2) A C) : BtwI w W0 a b pre C := by
  obtain ⟨h0, h1, ha, hb, lv, h2, h3, h4⟩ := h
  obtain ⟨f1, f2, f3⟩ := hf
  have e0 := f2 w.heap.size (by omega) (.inl (by omega))
  have e1 := f2 (w.heap.size + 1) (by omega) (.inl (by omega))
  have e2 := f2 (w.heap.size + 2) (by omega) (.inl (by omega))
  refine ⟨h0.trans ⟨f3.1, f3.2.1, f3.2.2, f1, fun k hk => f2 k (Nat.lt_of_lt_of_le hk h0.size) (.inl (by omega))⟩, Nat.le_trans h1 f1, (World.cell?_of_block (a := ⟨_, 0, none⟩) e0).trans ha, (World.cell?_of_block (a := ⟨_, 0, none⟩) e1).trans hb, lv, (World.cell?_of_block (a := ⟨_, 0, none⟩) e2).trans h2, (frozen_of_block (p := ⟨_, 0, none⟩) e2).trans h3, ⟨h4.1, ?_⟩⟩
  rcases h4.2 with hn | ⟨g, cap, cur, rfl, hb, hg, rest⟩
  · exact .inl hn
  · refine .inr ⟨g, cap, cur, rfl, hb, (f2 g (Array.getElem?_eq_some_iff.1 hg).1 (.inr ?_)).trans hg, rest⟩
    unfold rowB
    rw [h2]
    rfl
theorem btw_app {w W0 W w6 : World} {a b : Int} {pre : List (Nat × Dg)} {x : Nat × Dg} {v v' : Value} {o : Obj} (hx : btwB a b x.2 = true) (hD1 : w.heap.size + 3 ≤ W0.heap.size) (h0 : Below w.heap.size w W) (h1 : W0.heap.size ≤ W.heap.size) (ha : W.cell? ⟨w.heap.size, 0, none⟩ = some (.int .i64 a)) (hb : W.cell? ⟨w.heap.size + 1, 0, none⟩ = some (.int .i64 b))
    (h2 : W.cell? ⟨w.heap.size + 2, 0, none⟩ = some v) (h3 : W.frozen? ⟨w.heap.size + 2, 0, none⟩ = false) (hrow : RowI W W0.heap.size v (outI a b pre))
    (hown : w6.ownsRow W0.heap.size 2 1 v' ((outI a b pre).length + 1) ((outI a b pre).map (Value.int .i64) ++ [.int .i64 x.2.num])) (hgrow : (W.alloc o).grownBy w6 v.ownBlock) (hat : v'.ownBlock = v.ownBlock ∨ v'.ownBlock = some (W.alloc o).heap.size) :
    KeepsFrom W0.heap.size W (w6.setCell ⟨w.heap.size + 2, 0, none⟩ v') ∧ Kp W0.heap.size (w.heap.size + 2) (w.heap.size + 2) W (w6.setCell ⟨w.heap.size + 2, 0, none⟩ v') ∧ BtwI w W0 a b (pre ++ [x]) (w6.setCell ⟨w.heap.size + 2, 0, none⟩ v') := by
  obtain ⟨k1, k2, k3, k4, k5, k6, k7, k8⟩ := box_app (Bo := w.heap.size + 2) (by omega) h1 h2 h3 hrow hown hgrow hat
  refine ⟨k1, k2, ⟨h0.trans ⟨k7.1, k7.2.1, k7.2.2, k8, fun c hc => k6 c (by omega) (by omega)⟩, by omega, ?_, ?_, v', k3, k4, ?_⟩⟩
  · exact (World.cell?_of_block (a := ⟨_, 0, none⟩) (k6 w.heap.size (by omega) (by omega))).trans ha
  · exact (World.cell?_of_block (a := ⟨_, 0, none⟩) (k6 (w.heap.size + 1) (by omega) (by omega))).trans hb
  · rw [outI_snoc, if_pos hx]
    unfold RowI
    rw [List.length_append, List.map_append]
    exact k5
set_option maxHeartbeats 2000000 in
theorem between_any (Bb bm : Nat) (lv : Value) (s : BS) (a b : Int) (w : World) (h : BagAt w Bb bm lv s) :
    Calls Try.prog 13 #[.pointer (some ⟨Bb, 0, none⟩), .int .i64 a, .int .i64 b] w fun e w' => ∃ v, e = .returned v ∧ RowI w' w.heap.size v (btwS s a b) ∧ Below w.heap.size w w' := by
  have HB := Lib.hid h
  have hlen := h.ok.len
  clear h
  obtain ⟨i0, hi0, hj0, hj1, hj2⟩ := info_parts (P := Try.prog) (e := 2) (z := .int .i64 0) (size := 1) (bytes := 8) (by kernel_rfl)
  refine (callsIn_wide (n := 6)).1 ?_
  refine callsIn_of_wp_marks Try.func13 rfl trivial ?_ rfl
  simp only [Try.ntmps13, List.size_toArray, List.length_cons, List.length_nil, Nat.reduceAdd, Nat.reduceSub, Array.replicate_succ, Array.replicate_zero, List.push_toArray, List.append_toArray, List.nil_append, List.cons_append]
  refine wpIn_wide.2 ?_
  go_wp2_with (fail)
  refine (flying_any _ _).mono ?_; rintro x w2 ⟨rfl, rfl⟩
  go_wp2
  obtain ⟨W0, hW0⟩ : ∃ W0, W0 = ((((w.alloc (Obj.cells #[.int .i64 a] 3)).alloc (Obj.cells #[.int .i64 b] 3)).alloc (Obj.cells #[.slice none 0 0] 37)).alloc (Obj.cells #[.pointer (some ⟨Bb, 0, none⟩)] 23)) := ⟨_, rfl⟩
  have hz : W0.heap.size = w.heap.size + 4 := by rw [hW0]; simp
  have hb0 : Below w.heap.size w W0 := by rw [hW0]; exact (by repeat (first | with_reducible refine Below.setCell ?_ (by first | (simp; done) | (simp; omega) | omega) _ | with_reducible refine Below.alloc ?_ (by first | (simp; done) | (simp; omega) | omega) _ | with_reducible refine Below.drew ?_ | with_reducible refine below_drewN ?_ _ | with_reducible exact Below.refl _ _))
  have hI0 : BtwI w W0 a b [] W0 := ⟨hb0, Nat.le_refl _, by rw [hW0]; go_simp, by rw [hW0]; go_simp, .slice none 0 0, by rw [hW0]; go_simp, by rw [hW0]; go_simp, rfl, .inl ⟨rfl, rfl⟩⟩
  have q3 : W0.cell? ⟨w.heap.size + 3, 0, none⟩ = some (.pointer (some ⟨Bb, 0, none⟩)) := by rw [hW0]; go_simp
  rw [← hW0]
  clear hW0
  have hB0 := HB.out.below hb0
  have hfl := HB.out.lt
  have hR0 := hB0.reads (Bo := w.heap.size + 2) (Bw := w.heap.size + 2) (fun b hb => by have := hfl b hb; omega)
  have HR0 := Lib.hid hR0
  clear hR0 hB0 hfl HB
  refine (wpIn_wide (n := 6)).1 ?_
  refine wpIn_range_s (by omega) (gf := 44) (lb := #[.pointer (some ⟨w.heap.size + 3, 0, none⟩)]) rfl (enters_of Try.func44 (by kernel_rfl) rfl)
    (encs := encsF) (Bo := w.heap.size + 2) (Bw := w.heap.size + 2) (by omega) (flying_seq 5 (by omega) (w.heap.size + 3) (w.heap.size + 2) (w.heap.size + 2) Bb lv s.ls W0 (by omega) (by omega) q3 ⟨by omega, by omega⟩ HR0.out) (fun _ => rfl)
    (BtwI w W0 a b) (fun _ _ => False) (fun _ _ h => h.row) (fun _ _ _ h hf => h.fr (by omega) hf)
    (fun _ _ _ _ _ h _ _ _ => h) hI0
    (fun x a' W => ∃ Bx, W0.heap.size ≤ Bx ∧ W.cell? ⟨Bx, 0, none⟩ = some (.int .i64 x.2.num) ∧ W.cell? ⟨Bx, 1, none⟩ = some (.int .i64 x.2.frm) ∧ W.cell? ⟨Bx, 2, none⟩ = some (.int .i64 x.2.dst) ∧ W.cell? ⟨Bx, 3, none⟩ = some (.string x.2.body) ∧
      a' = { tmps := #[.pointer (some ⟨Bb, 0, none⟩), .int .i64 a, .int .i64 b, undef, .pointer (some ⟨w.heap.size, 0, none⟩), .pointer (some ⟨w.heap.size + 1, 0, none⟩), .slice none 0 0, .pointer (some ⟨w.heap.size + 1 + 1, 0, none⟩), undef, .pointer (some ⟨Bx, 0, none⟩), .pointer (some ⟨Bb, 0, none⟩), .func (.func 44) #[] #[.pointer (some ⟨w.heap.size + 1 + 1 + 1, 0, none⟩)], .int .i64 x.1, dAgg x.2, undef, undef, undef, undef, undef, undef, undef, undef, undef, undef, undef, undef, undef, undef, undef, undef, undef, undef, undef, undef, undef, undef, undef, undef], defers := [] })
    (fun x a' A l o o' hx ho hc => by
      obtain ⟨Bx, h1, h2, h3, h4, h5, h6⟩ := hx
      exact ⟨Bx, h1, cell_putObj ho hc h2, cell_putObj ho hc h3, cell_putObj ho hc h4, cell_putObj ho hc h5, h6⟩) ?assign ?body ?done ?stop
  all_goals clear HR0
  case assign =>
    intro l pre x W K hl hI hK
    unfold encsF
    obtain ⟨xi, xn, xf, xt, xb⟩ := x
    have hIs := hI.2.1
    gi_wp2
    refine hK _ _ ((KeepsOthers.alloc _ _).from _) (Kp.below ((Below.refl _ _).alloc (Nat.le_refl _) _) (by omega)) (hI.fr (by omega) (Fr.alloc _).I) ⟨W.heap.size, hIs, by go_simp, by go_simp, by go_simp, by go_simp, rfl⟩
  case body =>
    intro l pre x a' W hl hlen hI hx
    obtain ⟨Bx, hx0, x0, x1, x2, x3, rfl⟩ := hx
    obtain ⟨hIb, hIs, ca, cb, lw, c2, g2, hrow⟩ := hI
    obtain ⟨xi, xn, xf, xt, xb⟩ := x
    simp only [] at x0 x1 x2 x3
    have hbl := cell_lt x0
    simp only [] at hbl
    obtain ⟨A2, cp2, rfl⟩ := row_slice' hrow
    have hol := outI_len a b pre
    have HR := Lib.hid hrow
    have HRA : Hid ((W.alloc (Obj.cells #[.int .i64 xn] 2)).ownsRow W0.heap.size 2 1 (.slice A2 (outI a b pre).length cp2) (outI a b pre).length ((outI a b pre).map (Value.int .i64))) := Lib.hid (hrow.alloc _)
    have hz3 : w.heap.size + 3 ≤ W0.heap.size := by omega
    clear hz hrow
    cases h1 : (a == -1) with
    | true =>
      cases h3 : (b == -1) with
      | true =>
        gi_wp2_with (gi_at_builtin; (refine wpListIn_append_own_at _ rfl _ _ 37 rfl W0.heap.size 2 i0 _ 1 8 Try.underlying37 hi0 hj0 hj1 hj2 rfl (by decide) (.slice A2 (outI a b pre).length cp2) (outI a b pre).length ((outI a b pre).map (Value.int .i64)) rfl HRA.out ⟨W.heap.size, 0, none⟩ 1 1 [.int .i64 xn] rfl rfl (cell_one_new _ _ _) (by simp [Value.oneCell']) (by simp only [maxLen]; omega) (by omega) (by simp; omega) ?_; intro v' w6 hown hgrow _ hat; obtain ⟨A6, c6, hv6⟩ := row_slice' hown; subst hv6; have hra := row_grown HRA.out hgrow (by simp; omega); have e7 : w6.cell? ⟨w.heap.size + 2, 0, none⟩ = some (.slice A2 (outI a b pre).length cp2) := (hra.cell (p := ⟨w.heap.size + 2, 0, none⟩) (by show w.heap.size + 2 < W0.heap.size; omega)).trans ((World.cell?_alloc_lt W _ _ (by show w.heap.size + 2 < _; omega)).trans c2); have g7 : w6.frozen? ⟨w.heap.size + 2, 0, none⟩ = false := (hra.frozen (p := ⟨w.heap.size + 2, 0, none⟩) (by show w.heap.size + 2 < W0.heap.size; omega)).trans ((frozen_of_block (p := ⟨w.heap.size + 2, 0, none⟩) (w := W) (w' := W.alloc _) (Below.heap_alloc _ _ _ (by show w.heap.size + 2 < _; omega))).trans g2)))
        exact btw_app (x := (xi, ⟨xn, xf, xt, xb⟩)) (by simp [btwB, *]) hz3 hIb hIs ca cb c2 g2 HR.out hown hgrow hat
      | false =>
        cases h4 : (xt == b) with
        | true =>
          gi_wp2_with (gi_at_builtin; (refine wpListIn_append_own_at _ rfl _ _ 37 rfl W0.heap.size 2 i0 _ 1 8 Try.underlying37 hi0 hj0 hj1 hj2 rfl (by decide) (.slice A2 (outI a b pre).length cp2) (outI a b pre).length ((outI a b pre).map (Value.int .i64)) rfl HRA.out ⟨W.heap.size, 0, none⟩ 1 1 [.int .i64 xn] rfl rfl (cell_one_new _ _ _) (by simp [Value.oneCell']) (by simp only [maxLen]; omega) (by omega) (by simp; omega) ?_; intro v' w6 hown hgrow _ hat; obtain ⟨A6, c6, hv6⟩ := row_slice' hown; subst hv6; have hra := row_grown HRA.out hgrow (by simp; omega); have e7 : w6.cell? ⟨w.heap.size + 2, 0, none⟩ = some (.slice A2 (outI a b pre).length cp2) := (hra.cell (p := ⟨w.heap.size + 2, 0, none⟩) (by show w.heap.size + 2 < W0.heap.size; omega)).trans ((World.cell?_alloc_lt W _ _ (by show w.heap.size + 2 < _; omega)).trans c2); have g7 : w6.frozen? ⟨w.heap.size + 2, 0, none⟩ = false := (hra.frozen (p := ⟨w.heap.size + 2, 0, none⟩) (by show w.heap.size + 2 < W0.heap.size; omega)).trans ((frozen_of_block (p := ⟨w.heap.size + 2, 0, none⟩) (w := W) (w' := W.alloc _) (Below.heap_alloc _ _ _ (by show w.heap.size + 2 < _; omega))).trans g2)))
          exact btw_app (x := (xi, ⟨xn, xf, xt, xb⟩)) (by simp [btwB, *]) hz3 hIb hIs ca cb c2 g2 HR.out hown hgrow hat
        | false =>
          gi_wp2
          exact ⟨KeepsFrom.refl _ _, Kp.refl _ _ _ _, hIb, hIs, ca, cb, _, c2, g2, by rw [outI_snoc, if_neg (by simp [btwB, *]), List.append_nil]; exact HR.out⟩
    | false =>
      cases h2 : (xf == a) with
      | true =>
        cases h3 : (b == -1) with
        | true =>
          gi_wp2_with (gi_at_builtin; (refine wpListIn_append_own_at _ rfl _ _ 37 rfl W0.heap.size 2 i0 _ 1 8 Try.underlying37 hi0 hj0 hj1 hj2 rfl (by decide) (.slice A2 (outI a b pre).length cp2) (outI a b pre).length ((outI a b pre).map (Value.int .i64)) rfl HRA.out ⟨W.heap.size, 0, none⟩ 1 1 [.int .i64 xn] rfl rfl (cell_one_new _ _ _) (by simp [Value.oneCell']) (by simp only [maxLen]; omega) (by omega) (by simp; omega) ?_; intro v' w6 hown hgrow _ hat; obtain ⟨A6, c6, hv6⟩ := row_slice' hown; subst hv6; have hra := row_grown HRA.out hgrow (by simp; omega); have e7 : w6.cell? ⟨w.heap.size + 2, 0, none⟩ = some (.slice A2 (outI a b pre).length cp2) := (hra.cell (p := ⟨w.heap.size + 2, 0, none⟩) (by show w.heap.size + 2 < W0.heap.size; omega)).trans ((World.cell?_alloc_lt W _ _ (by show w.heap.size + 2 < _; omega)).trans c2); have g7 : w6.frozen? ⟨w.heap.size + 2, 0, none⟩ = false := (hra.frozen (p := ⟨w.heap.size + 2, 0, none⟩) (by show w.heap.size + 2 < W0.heap.size; omega)).trans ((frozen_of_block (p := ⟨w.heap.size + 2, 0, none⟩) (w := W) (w' := W.alloc _) (Below.heap_alloc _ _ _ (by show w.heap.size + 2 < _; omega))).trans g2)))
          exact btw_app (x := (xi, ⟨xn, xf, xt, xb⟩)) (by simp [btwB, *]) hz3 hIb hIs ca cb c2 g2 HR.out hown hgrow hat
        | false =>
          cases h4 : (xt == b) with
          | true =>
            gi_wp2_with (gi_at_builtin; (refine wpListIn_append_own_at _ rfl _ _ 37 rfl W0.heap.size 2 i0 _ 1 8 Try.underlying37 hi0 hj0 hj1 hj2 rfl (by decide) (.slice A2 (outI a b pre).length cp2) (outI a b pre).length ((outI a b pre).map (Value.int .i64)) rfl HRA.out ⟨W.heap.size, 0, none⟩ 1 1 [.int .i64 xn] rfl rfl (cell_one_new _ _ _) (by simp [Value.oneCell']) (by simp only [maxLen]; omega) (by omega) (by simp; omega) ?_; intro v' w6 hown hgrow _ hat; obtain ⟨A6, c6, hv6⟩ := row_slice' hown; subst hv6; have hra := row_grown HRA.out hgrow (by simp; omega); have e7 : w6.cell? ⟨w.heap.size + 2, 0, none⟩ = some (.slice A2 (outI a b pre).length cp2) := (hra.cell (p := ⟨w.heap.size + 2, 0, none⟩) (by show w.heap.size + 2 < W0.heap.size; omega)).trans ((World.cell?_alloc_lt W _ _ (by show w.heap.size + 2 < _; omega)).trans c2); have g7 : w6.frozen? ⟨w.heap.size + 2, 0, none⟩ = false := (hra.frozen (p := ⟨w.heap.size + 2, 0, none⟩) (by show w.heap.size + 2 < W0.heap.size; omega)).trans ((frozen_of_block (p := ⟨w.heap.size + 2, 0, none⟩) (w := W) (w' := W.alloc _) (Below.heap_alloc _ _ _ (by show w.heap.size + 2 < _; omega))).trans g2)))
            exact btw_app (x := (xi, ⟨xn, xf, xt, xb⟩)) (by simp [btwB, *]) hz3 hIb hIs ca cb c2 g2 HR.out hown hgrow hat
          | false =>
            gi_wp2
            exact ⟨KeepsFrom.refl _ _, Kp.refl _ _ _ _, hIb, hIs, ca, cb, _, c2, g2, by rw [outI_snoc, if_neg (by simp [btwB, *]), List.append_nil]; exact HR.out⟩
      | false =>
        gi_wp2
        exact ⟨KeepsFrom.refl _ _, Kp.refl _ _ _ _, hIb, hIs, ca, cb, _, c2, g2, by rw [outI_snoc, if_neg (by simp [btwB, *]), List.append_nil]; exact HR.out⟩
  case done =>
    intro D ys W hDw hS hI hDd
    subst hS
    obtain ⟨hIb, hIs, ca, cb, lw, c2, g2, hrow⟩ := hI
    rw [outI_all] at hrow
    obtain ⟨A2, cp2, rfl⟩ := row_slice' hrow
    simp only [Exit.inBlock, Exit.then]
    go_wp2
    refine ⟨by simp, .inl ⟨_, _, rfl, run_takeDeferred hDd, ?_⟩⟩
    exact ⟨.slice A2 (btwS s a b).length cp2, by simp [results, Try.results13, go_sem, *], _, rfl, row_less (ownsRow_putObj hrow _ hDd rfl) (by omega), hIb.trans (below_putObj _ _ (by omega))⟩
  case stop =>
    intro D pre W hDw hS hI hDd
    exact hI.elim
end Go.Proofs.Ytdaobbffhfbceaa
