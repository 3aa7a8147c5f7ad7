/- Plain facts for the laws of chapter 6 over many calls. -/
import Derived.Test.YtdaobbffhfbceaaBgZ
namespace Go.Proofs.Ytdaobbffhfbceaa
open Go.RowKit Go.Shelf Go.Maps
set_option linter.unusedVariables false
set_option linter.unusedSimpArgs false
set_option maxRecDepth 100000
theorem putS_sv (s : BS) (a b : Int) (t : ByteArray) : (putS s a b t).1.sv = s.sv := by
  unfold putS
  split
  · rfl
  · split <;> rfl
theorem actS_sv (s : BS) (a : Ac) : (actS s a).sv.length ≤ s.sv.length + 1 := by
  unfold actS
  split
  · rw [putS_sv]; omega
  split
  · unfold takeS; split <;> simp
  split
  · unfold doubS
    split
    · simp
    · simp only []; rw [putS_sv]; omega
  split
  · unfold sevS
    split
    · simp
    · exact svS_len ..
  split
  · unfold mendS
    split
    · exact Nat.le_succ_of_le (List.length_filter_le ..)
    · simp
  split
  · simp [forS]
  · simp
theorem actS_fit {s : BS} {a : Ac} (h : FitS s) : FitS (actS s a) := by
  unfold actS
  split
  · exact putS_fit h
  split
  · exact takeS_fit h
  split
  · exact doubS_fit h
  split
  · exact sevS_fit h
  split
  · exact mendS_fit h
  split
  · exact ⟨h.nx0, h.nx1, Nat.le_trans List.filter_sublist.length_le h.len, fun d hd => h.num d (List.mem_filter.1 hd).1, h.rise.sublist List.filter_sublist, h.lt, h.sv⟩
  · exact h
theorem wide_of {L : Nat} (h : L ≤ 13000000000000) : (L + 1 + (L + 1) / 4 + 192) * 16 ≤ 281474976710656 := by omega
theorem acell (w : World) (p : Addr) (y : Ac) (h : CellsE encA w p y) : w.cell? p = some (.int .i64 y.kind) ∧ w.cell? ⟨p.block, p.off + 1, none⟩ = some (.int .i64 y.num) ∧ w.cell? ⟨p.block, p.off + 2, none⟩ = some (.int .i64 y.frm) ∧ w.cell? ⟨p.block, p.off + 3, none⟩ = some (.int .i64 y.dst) ∧ w.cell? ⟨p.block, p.off + 4, none⟩ = some (.string y.body) :=
  ⟨by have := h 0 _ rfl; rwa [add_z p] at this, by have := h 1 _ rfl; rwa [add_next p 0] at this, by have := h 2 _ rfl; rwa [add_next p 1] at this, by have := h 3 _ rfl; rwa [add_next p 2] at this, by have := h 4 _ rfl; rwa [add_next p 3] at this⟩
/-- The reference's bag of a copied state, in a new block. -/
theorem ref_new {w : World} {base : Nat} {nx : Int} {lv kv : Value} {ls : List Dg} {sv : List LK} (h1 : OwnE encD 4 33 w base lv ls) (h2 : OwnE encL 2 64 w base kv sv) (hd : ∀ b, lv.ownBlock = some b → kv.ownBlock ≠ some b) (hok : OkS ⟨nx, ls, sv⟩) :
    RefAt (w.alloc (Obj.cells #[.int .i64 nx, lv, kv] 59)) w.heap.size lv kv ⟨nx, ls, sv⟩ := by
  have l1 := own_lt h1
  have l2 := own_lt h2
  have hb : Below w.heap.size w (w.alloc (Obj.cells #[.int .i64 nx, lv, kv] 59)) := (Below.refl _ _).alloc (Nat.le_refl _) _
  exact ⟨(cell_of_row _ w.heap.size 0 _ _ (0, 0) (heap_alloc_new w _)).trans rfl, (cell_of_row _ w.heap.size 1 _ _ (0, 0) (heap_alloc_new w _)).trans rfl, (cell_of_row _ w.heap.size 2 _ _ (0, 0) (heap_alloc_new w _)).trans rfl,
    by unfold World.frozen?; rw [heap_alloc_new]; simp, by unfold World.frozen?; rw [heap_alloc_new]; simp, by unfold World.frozen?; rw [heap_alloc_new]; simp,
    (h1.below hb).less (Nat.zero_le _), (h2.below hb).less (Nat.zero_le _), fun e => by have := l1 _ e; omega, fun e => by have := l2 _ e; omega, hd, hok⟩
theorem tp_turn {w w' : World} {Bb bm g : Nat} {lv lr kr : Value} {s : BS} (h : TwoPost w Bb bm g lv lr kr s w') : Turn (feet Bb bm g lv lr kr) w w' := by
  obtain ⟨_, _, _, _, _, h⟩ := h
  exact h
/-- The other pair lies on. -/
theorem two_other {w0 w1 w2 w3 : World} {Bb bm g Cb cm q : Nat} {lv lr kr lc lq kq : Value} {s' t : BS} (hC : Two w0 Cb cm q lc lq kq t) (hd : ∀ x ∈ feet Bb bm g lv lr kr, x ∉ feet Cb cm q lc lq kq) (h1 : Below w0.heap.size w0 w1) (hp : TwoPost w1 Bb bm g lv lr kr s' w2) (h3 : Below w2.heap.size w2 w3) : Two w3 Cb cm q lc lq kq t :=
  ((hC.below h1).turn (tp_turn hp) (fun b hb hf => hd b hf hb)).below h3
/-- One pair's call, then the other's. -/
theorem two_acts {w0 w1 w2 w3 w4 : World} {Bb bm g Cb cm q : Nat} {lv lr kr lc lq kq : Value} {s s' t t' : BS} (hA : Two w0 Bb bm g lv lr kr s) (hC : Two w0 Cb cm q lc lq kq t) (hd : ∀ x ∈ feet Bb bm g lv lr kr, x ∉ feet Cb cm q lc lq kq)
    (h1 : Below w0.heap.size w0 w1) (hp : TwoPost w1 Bb bm g lv lr kr s' w2) (h3 : Below w2.heap.size w2 w3) (hq : TwoPost w3 Cb cm q lc lq kq t' w4) :
    ∃ lv' lr' kr' lc' lq' kq', Two w4 Bb bm g lv' lr' kr' s' ∧ Two w4 Cb cm q lc' lq' kq' t' ∧ (∀ x ∈ feet Bb bm g lv' lr' kr', x ∉ feet Cb cm q lc' lq' kq') ∧ (∀ x ∈ feet Bb bm g lv' lr' kr', x ∈ feet Bb bm g lv lr kr ∨ w0.heap.size ≤ x) ∧ (∀ x ∈ feet Cb cm q lc' lq' kq', x ∈ feet Cb cm q lc lq kq ∨ w0.heap.size ≤ x) ∧ Turn (feet Bb bm g lv lr kr ++ feet Cb cm q lc lq kq) w0 w4 := by
  obtain ⟨lv', lr', kr', a1, a2, a3⟩ := hp
  obtain ⟨lc', lq', kq', b1, b2, b3⟩ := hq
  have s1 := h1.size
  have s2 := a3.size
  have s3 := h3.size
  have s4 := b3.size
  have la := a1.lt
  have lA := hA.lt
  have lC := hC.lt
  have a4 : Two w4 Bb bm g lv' lr' kr' s' := (a1.below h3).turn b3 (fun b hb hf => by
    rcases a2 b hb with h | h
    · exact hd b h hf
    · have := lC b hf; omega)
  refine ⟨lv', lr', kr', lc', lq', kq', a4, b1, fun x hx hy => ?_, fun x hx => (a2 x hx).imp id (by omega), fun x hx => (b2 x hx).imp id (by omega), ?_⟩
  · rcases b2 x hy with h | h
    · rcases a2 x hx with h' | h'
      · exact hd x h' h
      · have := lC x h; omega
    · have := la x hx; omega
  · have t1 : Turn (feet Bb bm g lv lr kr ++ feet Cb cm q lc lq kq) w0 w1 := Turn.below h1 (Nat.le_refl _)
    have t2 := t1.trans a3 (fun b hb => .inl (List.mem_append.2 (.inl hb)))
    have t3 := t2.trans (Turn.below (F := []) h3 (Nat.le_refl _)) (by simp)
    exact t3.trans b3 (fun b hb => .inl (List.mem_append.2 (.inr hb)))
end Go.Proofs.Ytdaobbffhfbceaa
