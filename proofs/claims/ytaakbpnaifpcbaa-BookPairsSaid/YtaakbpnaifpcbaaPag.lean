/- Page of book, for half-edges with one line each: what the call computes. -/
import Derived.Test.YtaakbpnaifpcbaaTot
import Derived.Test.YtaakbpnaifpcbaaHlg
import Derived.Maps.AppendAt
import Derived.Maps.OwnIn
namespace Go.Proofs.Ytaakbpnaifpcbaa
open Go.RowKit Go.Shelf
set_option linter.unusedVariables false
set_option linter.unusedSimpArgs false
attribute [local go_sem] Oper.semAt_some
def encE (x : Int × Int) : List Value := [.int .i64 x.1, .int .i64 x.2]
theorem encE_len (x : Int × Int) : (encE x).length = 2 := rfl
theorem encE_one (x : Int × Int) : ∀ u ∈ encE x, u.oneCell' = true := by
  intro u hu
  simp only [encE, List.mem_cons, List.not_mem_nil, or_false] at hu
  rcases hu with rfl | rfl <;> rfl
theorem entry_inf : (Try.prog.info? 47).map (fun i => (i.zero, i.size, i.bytes)) = some (some (.agg #[.int .i64 0, .int .i64 0]), 2, 16) := by kernel_rfl
theorem ecells_new (W : World) (x : Int × Int) : ∀ (j : Nat) (u : Value), (encE x)[j]? = some u → (W.alloc (Obj.cells #[.int .i64 x.1, .int .i64 x.2] 47)).cell? ((⟨W.heap.size, 0, none⟩ : Addr).add j) = some u := by
  intro j u hu
  have hj : j < 2 := by have := (List.getElem?_eq_some_iff.1 hu).1; simpa [encE] using this
  rw [Addr.add_lit]
  match j, hj with
  | 0, _ | 1, _ => simp [encE] at hu; subst hu; go_simp
/-- What holds in the rounds of Page: the row so far. -/
def PagI (w : World) (D : Nat) (pre : List (Int × Int)) (W : World) : Prop :=
  Below w.heap.size w W ∧ D ≤ W.heap.size ∧ ∃ v, W.cell? ⟨w.heap.size, 0, none⟩ = some v ∧ W.frozen? ⟨w.heap.size, 0, none⟩ = false ∧ W.ownsRow D 47 2 v pre.length (flatE encE pre)
theorem PagI.row {w W : World} {D : Nat} {pre : List (Int × Int)} (h : PagI w D pre W) : D ≤ W.heap.size ∧ ∀ r, rowB w.heap.size W = some r → D ≤ r ∧ (∃ o, W.heap[r]? = some o ∧ o.isCells = true) := by
  obtain ⟨_, h1, lv, h2, _, h3⟩ := h
  refine ⟨h1, fun r hr => ?_⟩
  unfold rowB at hr
  rw [h2] at hr
  rcases h3.2 with ⟨rfl, _⟩ | ⟨g, cap, cur, rfl, hb, hg, _⟩
  · simp [Value.ownBlock] at hr
  · obtain rfl : g = r := by simpa [Value.ownBlock] using hr
    exact ⟨hb, _, hg, rfl⟩
theorem PagI.fr {w A C : World} {D : Nat} {pre : List (Int × Int)} (hD : w.heap.size + 1 ≤ D) (h : PagI w D pre A) (hf : FrI D w.heap.size A C) : PagI w D pre C := by
  obtain ⟨h0, h1, lv, h2, h3, h4⟩ := h
  obtain ⟨f1, f2, f3⟩ := hf
  have e1 := f2 w.heap.size (by omega) (.inl (by omega))
  refine ⟨h0.trans ⟨f3.1, f3.2.1, f3.2.2, f1, fun k hk => f2 k (Nat.lt_of_lt_of_le hk h0.size) (.inl (by omega))⟩, Nat.le_trans h1 f1, lv, (heap_cell' (p := ⟨w.heap.size, 0, none⟩) e1).1.trans h2, (heap_cell' (p := ⟨w.heap.size, 0, none⟩) e1).2.trans h3, ⟨h4.1, ?_⟩⟩
  rcases h4.2 with hn | ⟨g, cap, cur, rfl, hb, hg, rest⟩
  · exact .inl hn
  · refine .inr ⟨g, cap, cur, rfl, hb, (f2 g (Array.getElem?_eq_some_iff.1 hg).1 (.inr ?_)).trans hg, rest⟩
    unfold rowB
    rw [h2]
    rfl
theorem pag_app {w W w6 : World} {D : Nat} {pre : List (Int × Int)} {x : Int × Int} {v v' : Value} {o : Obj} (hD1 : w.heap.size + 1 ≤ D) (h0 : Below w.heap.size w W) (h1 : D ≤ W.heap.size) (h2 : W.cell? ⟨w.heap.size, 0, none⟩ = some v) (h3 : W.frozen? ⟨w.heap.size, 0, none⟩ = false) (hrow : W.ownsRow D 47 2 v pre.length (flatE encE pre))
    (hown : w6.ownsRow D 47 2 v' (pre.length + 1) (flatE encE pre ++ encE x)) (hgrow : (W.alloc o).grownBy w6 v.ownBlock) (hat : v'.ownBlock = v.ownBlock ∨ v'.ownBlock = some (W.alloc o).heap.size) :
    KeepsFrom D W (w6.setCell ⟨w.heap.size, 0, none⟩ v') ∧ Kp D w.heap.size w.heap.size W (w6.setCell ⟨w.heap.size, 0, none⟩ v') ∧ PagI w D (pre ++ [x]) (w6.setCell ⟨w.heap.size, 0, none⟩ v') := by
  have hra : (W.alloc o).ownsRow D 47 2 v pre.length (flatE encE pre) := hrow.alloc _
  have hsz : (W.alloc o).heap.size = W.heap.size + 1 := World.size_alloc ..
  have hb6 := row_grown hra hgrow (by omega)
  have ho6 : w6.cell? ⟨w.heap.size, 0, none⟩ = some v := (hb6.cell (p := ⟨w.heap.size, 0, none⟩) (by show w.heap.size < D; omega)).trans ((World.cell?_alloc_lt W o _ (by show w.heap.size < _; omega)).trans h2)
  have hf6 : w6.frozen? ⟨w.heap.size, 0, none⟩ = false := (hb6.frozen (p := ⟨w.heap.size, 0, none⟩) (by show w.heap.size < D; omega)).trans ((heap_cell' (p := ⟨w.heap.size, 0, none⟩) (A := W) (C := W.alloc o) (Below.heap_alloc _ _ _ (by show w.heap.size < _; omega))).2.trans h3)
  have hset : ∀ b, b ≠ w.heap.size → (w6.setCell ⟨w.heap.size, 0, none⟩ v').heap[b]? = w6.heap[b]? := fun b hb => Below.heap_setCell _ _ _ _ hb
  have hco : (w6.setCell ⟨w.heap.size, 0, none⟩ v').cell? ⟨w.heap.size, 0, none⟩ = some v' := World.cell?_setCell_same _ _ _ ho6
  have hrb : rowB w.heap.size W = v.ownBlock := by unfold rowB; rw [h2]
  have hgs := hgrow.size
  have hkb : ∀ (b : Nat) (ob : Obj), b ≠ w.heap.size → (b < D ∨ rowB w.heap.size W ≠ some b) → W.heap[b]? = some ob → (w6.setCell ⟨w.heap.size, 0, none⟩ v').heap[b]? = some ob := fun b ob hb1 hb3 ho => by
    rw [hset b hb1]
    have hbl := (Array.getElem?_eq_some_iff.1 ho).1
    refine (hgrow.block b (by omega) ?_).trans ((Below.heap_alloc _ _ _ hbl).trans ho)
    rw [← hrb]
    rcases hb3 with h | h
    · intro e
      rw [hrb] at e
      rcases hrow.2 with ⟨h1, _⟩ | ⟨g, cap, cur, h1, h2, _⟩
      · rw [h1] at e; simp [Value.ownBlock] at e
      · rw [h1] at e
        simp [Value.ownBlock] at e
        omega
    · exact fun e => h e.symm
  refine ⟨⟨by simp; omega, fun k ob hk ho hc => ?_⟩, ⟨by simp; omega, ?_, fun b ob hb1 hb2 hb3 ho hc => hkb b ob hb1 hb3 ho⟩, ?_⟩
  · refine hkb k ob (by omega) (.inr fun e => ?_) ho
    rw [hrb] at e
    rcases hrow.2 with ⟨h1, _⟩ | ⟨g, cap, cur, h1, h2, h3', _⟩
    · rw [h1] at e; simp [Value.ownBlock] at e
    · rw [h1] at e
      simp [Value.ownBlock] at e
      subst e
      rw [h3'] at ho
      cases ho
      cases hc
  · unfold rowB
    rw [hco]
    rcases hat with h | h
    · left
      rw [← hrb] at h
      exact h
    · exact .inr ⟨_, h, by omega⟩
  · refine ⟨((h0.alloc (by have := h0.size; omega) o).trans (hb6.mono (by omega))).setCell (Nat.le_refl _) _, by simp; omega, v', hco, by rw [World.frozen?_setCell]; exact hf6, ?_⟩
    rw [List.length_append, flatE_snoc]
    exact ownsRow_setCell_below hown (by show w.heap.size < D; omega) _
def OwnN (w : World) (base : Nat) (v : Value) (l : List (Int × Int)) : Prop := OwnE encE 2 47 w base v l
set_option maxRecDepth 100000 in
set_option maxHeartbeats 8000000 in
theorem page_any (id : Int) (A : Option Addr) (n cp : Nat) (xs : List HL) (w : World) (hr : HsAt w w.heap.size A n xs) (hn : n ≤ 16) :
    Calls Try.prog 11 #[.int .i64 id, .slice A n cp, .string ⟨#[109]⟩] w fun e w' => ∃ lv, e = .returned lv ∧ OwnN w' w.heap.size lv (xs.map (outH id)) ∧ Below w.heap.size w w' := by
  have HR := Lib.hid hr
  clear hr
  obtain ⟨i0, hi0, hj0, hj1, hj2⟩ := info_parts entry_inf
  refine (callsIn_wide (n := 6)).1 ?_
  refine callsIn_of_wp_marks Try.func11 rfl trivial ?_ rfl
  simp only [Try.ntmps11, List.size_toArray, List.length_cons, List.length_nil, Nat.reduceAdd, Nat.reduceSub, Array.replicate_succ, Array.replicate_zero, List.push_toArray, List.append_toArray, List.nil_append, List.cons_append]
  refine wpIn_wide.2 ?_
  go_wp2_with (fail)
  refine (entries_any id A n cp _).mono ?_; rintro x w2 ⟨rfl, rfl⟩
  go_wp2
  obtain ⟨W0, hW0⟩ : ∃ W0, W0 = ((((w.alloc (Obj.cells #[.slice none 0 0] 44)).alloc (Obj.cells #[.int .i64 id] 3)).alloc (Obj.cells #[.slice A n cp] 36)).alloc (Obj.cells #[.string ⟨#[109]⟩] 9)) := ⟨_, rfl⟩
  have hz : W0.heap.size = w.heap.size + 4 := by rw [hW0]; simp
  have hb0 : Below w.heap.size w W0 := by rw [hW0]; exact (by repeat (first | with_reducible refine Below.setCell ?_ (by first | (simp; done) | (simp; omega) | omega) _ | with_reducible refine Below.alloc ?_ (by first | (simp; done) | (simp; omega) | omega) _ | with_reducible refine Below.drew ?_ | with_reducible refine below_drewN ?_ _ | with_reducible exact Below.refl _ _))
  have hI0 : PagI w W0.heap.size [] W0 := ⟨hb0, Nat.le_refl _, .slice none 0 0, by rw [hW0]; go_simp, by rw [hW0]; go_simp, rfl, .inl ⟨rfl, rfl⟩⟩
  have q3 : W0.cell? ⟨w.heap.size + 1, 0, none⟩ = some (.int .i64 id) := by rw [hW0]; go_simp
  have q4 : W0.cell? ⟨w.heap.size + 2, 0, none⟩ = some (.slice A n cp) := by rw [hW0]; go_simp
  have q5 : W0.cell? ⟨w.heap.size + 3, 0, none⟩ = some (.string ⟨#[109]⟩) := by rw [hW0]; go_simp
  rw [← hW0]
  clear hW0
  have hr0 := ((HR.out.below hb0).more hb0.size)
  have hda : ∀ ad, A = some ad → 0 < n → ad.block ≠ w.heap.size ∧ ad.block ≠ w.heap.size := fun ad ea hn0 => by
    obtain ⟨ad2, e2, hb2, _⟩ := HR.out.1.2 hn0
    obtain rfl : ad = ad2 := by rw [ea] at e2; exact Option.some.inj e2
    exact ⟨by omega, by omega⟩
  have hdl : ∀ x ∈ xs, x.la.block ≠ w.heap.size ∧ x.la.block ≠ w.heap.size := fun x hx => by have := (HR.out.2 x hx).1; exact ⟨by omega, by omega⟩
  refine (wpIn_wide (n := 6)).1 ?_
  refine wpIn_range_p (by omega) (gf := 23) (lb := #[.pointer (some ⟨w.heap.size + 2, 0, none⟩), .pointer (some ⟨w.heap.size + 3, 0, none⟩), .pointer (some ⟨w.heap.size + 1, 0, none⟩)]) rfl (enters_of Try.func23 (by kernel_rfl) rfl)
    (encs := encsN) (Pt := PtN) (Bo := w.heap.size) (Bw := w.heap.size) (by omega) (entries_seq 5 (by omega) (w.heap.size + 2) (w.heap.size + 3) (w.heap.size + 1) w.heap.size w.heap.size A n cp xs id W0 (by omega) (by omega) q4 q5 q3 hr0 (by omega) ⟨by omega, by omega⟩ ⟨by omega, by omega⟩ ⟨by omega, by omega⟩ hda hdl) (fun _ => rfl)
    (PagI w W0.heap.size) (fun _ _ h => h.row) (fun _ _ _ h hf => h.fr (by omega) hf) (fun _ _ _ h _ => h) hI0
    (fun x => { tmps := #[.int .i64 id, .slice A n cp, .string ⟨#[109]⟩, undef, undef, undef, .slice none 0 0, .pointer (some ⟨w.heap.size, 0, none⟩), .int .i64 x.1, .int .i64 x.2, .int .i64 id, .slice A n cp, .string ⟨#[109]⟩, .func (.func 23) #[] #[.pointer (some ⟨w.heap.size + 1 + 1, 0, none⟩), .pointer (some ⟨w.heap.size + 1 + 1 + 1, 0, none⟩), .pointer (some ⟨w.heap.size + 1, 0, none⟩)], .int .i64 x.1, .int .i64 x.2, undef, undef, undef, undef, undef, undef, undef], defers := [] }) ?assign ?body ?done
  case assign =>
    intro l x W K hK
    unfold encsN
    gi_wp2
    exact hK
  case body =>
    intro l pre x W hl hlen hI hP
    obtain ⟨j1, j2, v, j3, j4, j5⟩ := hI
    obtain ⟨A2, cp2, rfl⟩ := row_slice' j5
    have HRA : Hid ((W.alloc (Obj.cells #[.int .i64 x.1, .int .i64 x.2] 47)).ownsRow W0.heap.size 47 2 (.slice A2 pre.length cp2) pre.length (flatE encE pre)) := Lib.hid (j5.alloc _)
    have HCN := Lib.hid (ecells_new W x)
    have hz1 : w.heap.size + 4 ≤ W0.heap.size := by omega
    clear hz
    gi_wp2_with (gi_at_builtin; (refine wpListIn_append_own_at _ rfl _ _ 44 rfl W0.heap.size 47 i0 _ 2 16 Try.underlying44 hi0 hj0 hj1 hj2 rfl (by decide) (.slice A2 pre.length cp2) pre.length (flatE encE pre) rfl HRA.out ⟨W.heap.size, 0, none⟩ 1 1 (encE x) rfl rfl HCN.out (encE_one x) (by simp only [maxLen]; omega) (by omega) (by simp; omega) ?_; intro v' w6 hown hgrow _ hat; obtain ⟨A6, c6, hv6⟩ := row_slice' hown; subst hv6; have hra := row_grown HRA.out hgrow (by simp; omega); have e7 : w6.cell? ⟨w.heap.size, 0, none⟩ = some (.slice A2 pre.length cp2) := (hra.cell (p := ⟨w.heap.size, 0, none⟩) (by show w.heap.size < W0.heap.size; omega)).trans ((World.cell?_alloc_lt W _ _ (by show w.heap.size < _; omega)).trans j3); have g7 : w6.frozen? ⟨w.heap.size, 0, none⟩ = false := (hra.frozen (p := ⟨w.heap.size, 0, none⟩) (by show w.heap.size < W0.heap.size; omega)).trans ((heap_cell' (p := ⟨w.heap.size, 0, none⟩) (A := W) (C := W.alloc _) (Below.heap_alloc _ _ _ (by show w.heap.size < _; omega))).2.trans j4)))
    exact pag_app (by omega) j1 j2 j3 j4 j5 hown hgrow hat
  case done =>
    intro D ys W hDw hS hI hDd
    subst hS
    obtain ⟨j1, j2, v, j3, j4, j5⟩ := hI
    obtain ⟨A2, cp2, rfl⟩ := row_slice' j5
    simp only [Exit.inBlock, Exit.then]
    go_wp2
    refine ⟨by simp, .inl ⟨_, _, rfl, run_takeDeferred hDd, ?_⟩⟩
    refine ⟨.slice A2 (xs.map (outH id)).length cp2, by simp [results, Try.results11, go_sem, *], _, rfl, ?_, j1.trans (belowK_b (w := w) (Nat.le_refl _) W D _ _ (by omega) hDd rfl rfl)⟩
    exact OwnE.less (base := W0.heap.size) (show OwnE _ _ _ _ _ _ _ from ownsRow_putObj j5 _ hDd rfl) (by omega)
end Go.Proofs.Ytaakbpnaifpcbaa
