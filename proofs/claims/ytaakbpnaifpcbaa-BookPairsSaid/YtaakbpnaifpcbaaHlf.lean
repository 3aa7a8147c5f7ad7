/- Half-edges with one line each: their cells; One of the reference of chapter 10: what the call computes. -/
import Derived.Test.YtaakbpnaifpcbaaRow
import Derived.Test.YtaakbpnaifpcbaaReg
import Derived.Test.YtaakbpnaifpcbaaQuiet
import Derived.Deep.CutRange
import Derived.Deep.RegionHeld3
namespace Go.Proofs.Ytaakbpnaifpcbaa
open Go.RowKit
set_option linter.unusedVariables false
set_option linter.unusedSimpArgs false
/-- A half-edge with one line (its name is "m", its version 1): the peer, the writer, the flow, where the line lies. -/
structure HL where
  peer : Int
  wr : Int
  fl : Int
  la : Addr
  lc : Nat
def encH (x : HL) : List Value := [.int .i64 x.peer, .int .i64 1, .int .i64 0, .slice (some x.la) 1 x.lc, .bool false, .int .i64 0]
def encL (wr fl : Int) : List Value := [.string ⟨#[109]⟩, .int .i64 1, .int .i64 wr, .int .i64 fl]
theorem encH_len (x : HL) : (encH x).length = 6 := rfl
theorem encH_one (x : HL) : ∀ u ∈ encH x, u.oneCell' = true := by
  intro u hu
  simp only [encH, List.mem_cons, List.not_mem_nil, or_false] at hu
  rcases hu with rfl | rfl | rfl | rfl | rfl | rfl <;> rfl
theorem encL_one (a b : Int) : ∀ u ∈ encL a b, u.oneCell' = true := by
  intro u hu
  simp only [encL, List.mem_cons, List.not_mem_nil, or_false] at hu
  rcases hu with rfl | rfl | rfl | rfl <;> rfl
theorem half_inf : (Try.prog.info? 33).map (fun i => (i.zero, i.size, i.bytes)) = some (some (.agg #[.int .i64 0, .int .i64 0, .int .i64 0, .slice none 0 0, .bool false, .int .i64 0]), 6, 64) := by kernel_rfl
theorem line_inf : (Try.prog.info? 50).map (fun i => (i.zero, i.size, i.bytes)) = some (some (.agg #[.string ⟨#[]⟩, .int .i64 0, .int .i64 0, .int .i64 0]), 4, 40) := by kernel_rfl
theorem add_next (a : Addr) (i : Nat) : a.add (i + 1) = ⟨a.block, a.off + (i + 1), none⟩ := by simp [Addr.add]
/-- The cells of a line. -/
def line4 (w : World) (p : Addr) (wr fl : Int) : Prop := w.cell? p = some (.string ⟨#[109]⟩) ∧ w.cell? ⟨p.block, p.off + 1, none⟩ = some (.int .i64 1) ∧ w.cell? ⟨p.block, p.off + 2, none⟩ = some (.int .i64 wr) ∧ w.cell? ⟨p.block, p.off + 3, none⟩ = some (.int .i64 fl)
theorem line4.below {w w' : World} {B : Nat} {p : Addr} {a b : Int} (h : line4 w p a b) (hp : p.block < B) (hb : Below B w w') : line4 w' p a b := by
  obtain ⟨h0, h1, h2, h3⟩ := h
  exact ⟨(hb.cell hp).trans h0, (hb.cell (p := ⟨_, _, none⟩) hp).trans h1, (hb.cell (p := ⟨_, _, none⟩) hp).trans h2, (hb.cell (p := ⟨_, _, none⟩) hp).trans h3⟩
theorem line4.setCell {w : World} {p q : Addr} {a b : Int} {v : Value} (h : line4 w p a b) (hb : p.block ≠ q.block) : line4 (w.setCell q v) p a b := by
  obtain ⟨h0, h1, h2, h3⟩ := h
  have far : ∀ r : Addr, r.block = p.block → (w.setCell q v).cell? r = w.cell? r := fun r hr => World.cell?_setCell_other _ _ _ _ (by intro e; first | exact hb (hr.symm.trans (congrArg Addr.block e)) | exact hb (hr.symm.trans (congrArg Addr.block e).symm))
  exact ⟨(far p rfl).trans h0, (far ⟨_, _, none⟩ rfl).trans h1, (far ⟨_, _, none⟩ rfl).trans h2, (far ⟨_, _, none⟩ rfl).trans h3⟩
theorem line4.reads {w : World} {p : Addr} {a b : Int} (h : line4 w p a b) {B : Nat} (hB : p.block < B) : Reads w B 4 (some p) 1 (encL a b) := by
  refine ⟨rfl, fun _ => ⟨p, rfl, hB, fun j u hu => ?_⟩⟩
  obtain ⟨h0, h1, h2, h3⟩ := h
  have hj : j < 4 := by have := (List.getElem?_eq_some_iff.1 hu).1; simpa [encL] using this
  match j, hj with
  | 0, _ => simp [encL] at hu; subst hu; exact h0
  | 1, _ => simp [encL] at hu; subst hu; rw [add_next p 0]; exact h1
  | 2, _ => simp [encL] at hu; subst hu; rw [add_next p 1]; exact h2
  | 3, _ => simp [encL] at hu; subst hu; rw [add_next p 2]; exact h3
theorem line4_of {w : World} {B : Nat} {A : Option Addr} {a b : Int} (h : Reads w B 4 A 1 (encL a b)) : ∃ p, A = some p ∧ p.block < B ∧ line4 w p a b := by
  obtain ⟨p, e, hB, hc⟩ := h.2 (by omega)
  have hs : ∀ i u, (encL a b)[i + 1]? = some u → w.cell? ⟨p.block, p.off + (i + 1), none⟩ = some u := fun i u hu => by rw [← add_next p i]; exact hc (i + 1) u hu
  exact ⟨p, e, hB, hc 0 _ rfl, hs 0 _ rfl, hs 1 _ rfl, hs 2 _ rfl⟩
/-- The cells of a half-edge. -/
def half6 (w : World) (p : Addr) (x : HL) : Prop := w.cell? p = some (.int .i64 x.peer) ∧ w.cell? ⟨p.block, p.off + 1, none⟩ = some (.int .i64 1) ∧ w.cell? ⟨p.block, p.off + 2, none⟩ = some (.int .i64 0) ∧ w.cell? ⟨p.block, p.off + 3, none⟩ = some (.slice (some x.la) 1 x.lc) ∧ w.cell? ⟨p.block, p.off + 4, none⟩ = some (.bool false) ∧ w.cell? ⟨p.block, p.off + 5, none⟩ = some (.int .i64 0)
theorem half6_of {w : World} {p : Addr} {x : HL} (h : CellsE encH w p x) : half6 w p x := by
  have hs : ∀ i u, (encH x)[i + 1]? = some u → w.cell? ⟨p.block, p.off + (i + 1), none⟩ = some u := fun i u hu => by rw [← add_next p i]; exact h (i + 1) u hu
  exact ⟨h 0 _ rfl, hs 0 _ rfl, hs 1 _ rfl, hs 2 _ rfl, hs 3 _ rfl, hs 4 _ rfl⟩
theorem half6.below {w w' : World} {B : Nat} {p : Addr} {x : HL} (h : half6 w p x) (hp : p.block < B) (hb : Below B w w') : half6 w' p x := by
  obtain ⟨h0, h1, h2, h3, h4, h5⟩ := h
  exact ⟨(hb.cell hp).trans h0, (hb.cell (p := ⟨_, _, none⟩) hp).trans h1, (hb.cell (p := ⟨_, _, none⟩) hp).trans h2, (hb.cell (p := ⟨_, _, none⟩) hp).trans h3, (hb.cell (p := ⟨_, _, none⟩) hp).trans h4, (hb.cell (p := ⟨_, _, none⟩) hp).trans h5⟩
/-- Half-edges with their lines, as they are read. -/
def LnsAt (w : World) (B : Nat) (xs : List HL) : Prop := ∀ x ∈ xs, x.la.block < B ∧ line4 w x.la x.wr x.fl
theorem LnsAt.below {w w' : World} {B : Nat} {xs : List HL} (h : LnsAt w B xs) (hb : Below B w w') : LnsAt w' B xs := fun x hx => ⟨(h x hx).1, (h x hx).2.below (h x hx).1 hb⟩
theorem LnsAt.more {w : World} {B B' : Nat} {xs : List HL} (h : LnsAt w B xs) (hB : B ≤ B') : LnsAt w B' xs := fun x hx => ⟨by have := (h x hx).1; omega, (h x hx).2⟩
theorem LnsAt.append {w : World} {B : Nat} {xs ys : List HL} (h : LnsAt w B xs) (k : LnsAt w B ys) : LnsAt w B (xs ++ ys) := fun x hx => (List.mem_append.1 hx).elim (h x) (k x)
theorem LnsAt.sub {w : World} {B : Nat} {xs ys : List HL} (h : LnsAt w B xs) (k : ∀ x ∈ ys, x ∈ xs) : LnsAt w B ys := fun x hx => h x (k x hx)
def HsAt (w : World) (B : Nat) (A : Option Addr) (n : Nat) (xs : List HL) : Prop := RowsE encH 6 w B A n xs ∧ LnsAt w B xs
theorem HsAt.below {w w' : World} {B n : Nat} {A : Option Addr} {xs : List HL} (h : HsAt w B A n xs) (hb : Below B w w') : HsAt w' B A n xs := ⟨h.1.below hb, h.2.below hb⟩
theorem HsAt.more {w : World} {B B' n : Nat} {A : Option Addr} {xs : List HL} (h : HsAt w B A n xs) (hB : B ≤ B') : HsAt w B' A n xs := ⟨h.1.more hB, h.2.more hB⟩
theorem HsAt.len {w : World} {B n : Nat} {A : Option Addr} {xs : List HL} (h : HsAt w B A n xs) : xs.length = n := h.1.1
theorem hs_nil (w : World) (B : Nat) (A : Option Addr) : HsAt w B A 0 [] := ⟨rowsE_nil w B A, fun x hx => by cases hx⟩
theorem HsAt.get {w : World} {B n : Nat} {A : Option Addr} {xs : List HL} (h : HsAt w B A n xs) {k : Nat} (hk : k < n) : ∃ ad x, A = some ad ∧ ad.block < B ∧ xs[k]? = some x ∧ half6 w (ad.add (k * 6)) x ∧ x.la.block < B ∧ line4 w x.la x.wr x.fl := by
  obtain ⟨ad, x, e, hb, hx, hc⟩ := h.1.get hk
  have := h.2 x (List.mem_of_getElem? hx)
  exact ⟨ad, x, e, hb, hx, half6_of hc, this.1, this.2⟩
set_option maxRecDepth 100000 in
set_option maxHeartbeats 8000000 in
theorem one_any (x : HL) (w : World) (hx : x.la.block < w.heap.size) (hl : line4 w x.la x.wr x.fl) :
    Calls Try.prog 14 #[.agg #[.int .i64 x.peer, .int .i64 1, .int .i64 0, .slice (some x.la) 1 x.lc, .bool false, .int .i64 0]] w fun e w' => ∃ la lc, e = .returned (.agg #[.int .i64 x.peer, .int .i64 1, .int .i64 0, .slice (some la) 1 lc, .bool false, .int .i64 0]) ∧ la.block < w'.heap.size ∧ line4 w' la x.wr x.fl ∧ w.heap.size ≤ la.block ∧ Below w.heap.size w w' := by
  obtain ⟨i0, hi0, hz0, hz1, hz2⟩ := info_parts line_inf
  have hR := hl.reads hx
  go_enter Try.func14, Try.ntmps14
  go_wp2_with (at_builtin; refine wpList_append_any _ rfl (.tmp 7) (.tmp 9) _ rfl w.heap.size 50 i0 _ 4 40 Try.underlying31 hi0 hz0 hz1 hz2 rfl (by omega) (.slice none 0 0) 0 [] rfl ⟨by simp, .inl ⟨rfl, rfl⟩⟩ w.heap.size (some x.la) 1 x.lc _ rfl (hR.below (by repeat (first | with_reducible refine Below.setCell ?_ (by first | (simp; done) | (simp; omega) | omega) _ | with_reducible refine Below.alloc ?_ (by first | (simp; done) | (simp; omega) | omega) _ | with_reducible refine Below.drew ?_ | with_reducible refine below_drewN ?_ _ | with_reducible exact Below.refl _ _))) (encL_one _ _) (by simp only [maxLen]; omega) (by omega) (by simp; omega) ?_; intro v1 w1 hown1 hg1 hat1; obtain ⟨A1, c1, hv1⟩ := row_slice' hown1; subst hv1; have hbg := (Below.refl _ _).grown hg1 (Nat.le_refl _) (by simp [Value.ownBlock]); obtain ⟨hc1, hf1⟩ := bcell hbg; have hs1 := hbg.size; (try simp at hs1); simp only [List.nil_append, Nat.zero_add] at hown1; obtain ⟨la, hA1, hlb, hl1⟩ := line4_of (Reads.of_own hown1); subst hA1; have hla : la.block = w.heap.size + 1 + 1 + 1 := (by rcases hat1 with h | h <;> simp [Value.ownBlock] at h <;> omega); have kb1 : Below w.heap.size w w1 := (by repeat (first | with_reducible refine Below.setCell ?_ (by first | (simp; done) | (simp; omega) | omega) _ | with_reducible refine Below.alloc ?_ (by first | (simp; done) | (simp; omega) | omega) _ | with_reducible refine Below.drew ?_ | with_reducible refine below_drewN ?_ _ | with_reducible exact Below.refl _ _ | with_reducible refine Below.trans ?_ (Below.mono hbg (by first | (simp; done) | (simp; omega) | omega)))); have q0 : w.heap.size < w1.heap.size := (by omega); have q1 : w.heap.size + 1 < w1.heap.size := (by omega); have q2 : w.heap.size + 1 + 1 < w1.heap.size := (by omega); clear hown1 hg1 hat1 hbg)
  have d1 : la.block ≠ w.heap.size + 1 := by omega
  have d2 : la.block ≠ w.heap.size + 1 + 1 := by omega
  refine bodyPost_ret (v := .agg #[.int .i64 x.peer, .int .i64 1, .int .i64 0, .slice (some la) 1 c1, .bool false, .int .i64 0]) (by simp [results, Try.results14, go_sem, *]) rfl ⟨la, c1, rfl, by simp; omega, (by repeat (first | with_reducible exact hl1 | with_reducible refine line4.setCell ?_ (by simp only []; omega))), by omega, (by repeat (first | with_reducible refine Below.setCell ?_ (by first | (simp; done) | (simp; omega) | omega) _ | with_reducible refine Below.alloc ?_ (by first | (simp; done) | (simp; omega) | omega) _ | with_reducible refine Below.drew ?_ | with_reducible refine below_drewN ?_ _ | with_reducible exact Below.refl _ _ | with_reducible refine Below.trans ?_ (Below.mono kb1 (by first | (simp; done) | (simp; omega) | omega))))⟩
end Go.Proofs.Ytaakbpnaifpcbaa
