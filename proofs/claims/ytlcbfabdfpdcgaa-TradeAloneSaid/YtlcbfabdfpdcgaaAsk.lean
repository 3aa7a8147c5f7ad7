/- trade.asks: who asks whom, turn by turn: the iterator's contract. -/
import Derived.Test.YtlcbfabdfpdcgaaRng
import Derived.Test.YtlcbfabdfpdcgaaTrd
namespace Go.Proofs.Ytlcbfabdfpdcgaa
open Go.RowKit Go.Shelf
attribute [local go_sem] Oper.semAt_some
abbrev EndN := Int × Int
def pickE (x y : EndN) (j : Nat) : EndN × EndN := if j % 2 = 0 then (x, y) else (y, x)
def altE (x y : EndN) (i : Nat) : List (EndN × EndN) := (List.range i).map (pickE x y)
theorem altE_succ (x y : EndN) (i : Nat) : altE x y (i + 1) = altE x y i ++ [pickE x y i] := by simp [altE, List.range_succ]
theorem altE_len (x y : EndN) (i : Nat) : (altE x y i).length = i := by simp [altE]
theorem pickE_succ (x y : EndN) (i : Nat) : pickE x y (i + 1) = ((pickE x y i).2, (pickE x y i).1) := by
  unfold pickE
  rcases Nat.mod_two_eq_zero_or_one i with h | h
  · have h' : (i + 1) % 2 = 1 := by omega
    simp [h, h']
  · have h' : (i + 1) % 2 = 0 := by omega
    simp [h, h']
def encsE (p : EndN × EndN) : Array Value := #[.agg #[.int .i64 p.1.1, .int .i64 p.1.2], .agg #[.int .i64 p.2.1, .int .i64 p.2.2]]
/-- Block B is a box of an end. -/
def BoxE (W : World) (B : Nat) (x : EndN) : Prop := W.heap[B]? = some (.cells #[.int .i64 x.1, .int .i64 x.2] 60 (0, 0))
theorem BoxE.cells {W : World} {B : Nat} {x : EndN} (h : BoxE W B x) : W.cell? ⟨B, 0, none⟩ = some (.int .i64 x.1) ∧ W.cell? ⟨B, 1, none⟩ = some (.int .i64 x.2) ∧ W.frozen? ⟨B, 0, none⟩ = false ∧ W.frozen? ⟨B, 1, none⟩ = false ∧ B < W.heap.size := by
  have h' : W.heap[B]? = _ := h
  exact ⟨by simp [World.cell?, h'], by simp [World.cell?, h'], by simp [World.frozen?, h'], by simp [World.frozen?, h'], (Array.getElem?_eq_some_iff.1 h').1⟩
theorem BoxE.set2 {W : World} {B : Nat} {x : EndN} (h : BoxE W B x) (y : EndN) : BoxE ((W.setCell ⟨B, 0, none⟩ (.int .i64 y.1)).setCell ⟨B, 1, none⟩ (.int .i64 y.2)) B y := by
  have h' : W.heap[B]? = _ := h
  obtain ⟨hlt, hk⟩ := Array.getElem?_eq_some_iff.1 h'
  unfold BoxE World.setCell
  simp [Array.getElem?_modify, h']
theorem BoxE.far {W : World} {B : Nat} {x : EndN} (h : BoxE W B x) {p : Addr} (hp : B ≠ p.block) (v : Value) : BoxE (W.setCell p v) B x := (setCell_other W p v hp).trans h
set_option maxRecDepth 100000 in
set_option maxHeartbeats 2000000 in
theorem asks_m (n : Nat) (hn : 1 ≤ n) (B1 B2 N : Nat) (mu : World → Nat) (hB : B1 ≠ B2) (x y : EndN) (w : World) (h1 : BoxE w B1 x) (h2 : BoxE w B2 y) :
    SeqM n Try.prog 36 #[.pointer (some ⟨B1, 0, none⟩), .pointer (some ⟨B2, 0, none⟩)] encsE B1 B2 N mu (fun pre => ∃ i, pre = altE x y (i + 1)) w := by
  intro l J Jx W hW hJs hN hY h0
  have g1 : BoxE W B1 x := (hW.block _ h1.cells.2.2.2.2).trans h1
  have g2 : BoxE W B2 y := (hW.block _ h2.cells.2.2.2.2).trans h2
  clear h1 h2 hW
  refine callsIn_of_wp Try.func36 rfl trivial ?_ rfl
  simp only [Try.ntmps36, List.size_toArray, List.length_cons, List.length_nil, Nat.reduceAdd, Nat.reduceSub, Array.replicate_succ, Array.replicate_zero, List.push_toArray, List.append_toArray, List.nil_append, List.cons_append]
  gi_wp2
  gi_loopw [7] (fun _ wr => ∃ i : Nat, J (altE x y i) wr ∧ BoxE wr B1 (pickE x y i).1 ∧ BoxE wr B2 (pickE x y i).2) (fun _ wr => N - mu wr)
  case atStart => exact ⟨0, h0, g1, g2⟩
  case round =>
    obtain ⟨i, hJ, b1, b2⟩ := hrel
    obtain ⟨fn, tmps, assign, body, hy, hR⟩ := hY _ (pickE x y i) _ hJ
    obtain ⟨c1, d1, e1, f1, k1⟩ := b1.cells
    obtain ⟨c2, d2, e2, f2, k2⟩ := b2.cells
    have hm := hN _ _ hJ
    rw [altE_len] at hm
    rw [← altE_succ] at hR
    have hps := pickE_succ x y i
    have B1E := Lib.hid b1; have B2E := Lib.hid b2; have PS := Lib.hid hps
    clear b1 b2 hps g1 g2
    unfold encsE at hy
    generalize hp : pickE x y i = pp at *
    obtain ⟨⟨p1, p2⟩, q1, q2⟩ := pp
    clear hp
    simp only [] at c1 d1 c2 d2 hy
    gi_wp2
    refine hR.mono ?_
    rintro e W3 (⟨rfl, hJ3, hk3⟩ | ⟨rfl, hJx3⟩)
    · have b1 : BoxE W3 B1 (p1, p2) := hk3.1.trans B1E.out
      have b2 : BoxE W3 B2 (q1, q2) := hk3.2.trans B2E.out
      clear c1 d1 e1 f1 k1 c2 d2 e2 f2 k2
      obtain ⟨c1, d1, e1, f1, k1⟩ := b1.cells
      obtain ⟨c2, d2, e2, f2, k2⟩ := b2.cells
      have hm3 := hN _ _ hJ3
      rw [altE_len] at hm3
      have hj4 : J (altE x y (i + 1)) ((((W3.setCell ⟨B1, 0, none⟩ (.int .i64 q1)).setCell ⟨B1, 1, none⟩ (.int .i64 q2)).setCell ⟨B2, 0, none⟩ (.int .i64 p1)).setCell ⟨B2, 1, none⟩ (.int .i64 p2)) :=
        hJs _ _ _ _ (.inr rfl) (hJs _ _ _ _ (.inr rfl) (hJs _ _ _ _ (.inl rfl) (hJs _ _ _ _ (.inl rfl) hJ3)))
      have hm4 := (hN _ _ hj4).1
      rw [altE_len] at hm4
      have g1 : BoxE ((((W3.setCell ⟨B1, 0, none⟩ (.int .i64 q1)).setCell ⟨B1, 1, none⟩ (.int .i64 q2)).setCell ⟨B2, 0, none⟩ (.int .i64 p1)).setCell ⟨B2, 1, none⟩ (.int .i64 p2)) B1 (q1, q2) :=
        ((b1.set2 (q1, q2)).far (p := ⟨B2, 0, none⟩) hB _).far (p := ⟨B2, 1, none⟩) hB _
      have g2 : BoxE ((((W3.setCell ⟨B1, 0, none⟩ (.int .i64 q1)).setCell ⟨B1, 1, none⟩ (.int .i64 q2)).setCell ⟨B2, 0, none⟩ (.int .i64 p1)).setCell ⟨B2, 1, none⟩ (.int .i64 p2)) B2 (p1, p2) :=
        BoxE.set2 ((b2.far (p := ⟨B1, 0, none⟩) (Ne.symm hB) _).far (p := ⟨B1, 1, none⟩) (Ne.symm hB) _) (p1, p2)
      have HJ4 := Lib.hid hj4; have HM4 := Lib.hid hm4; have G1 := Lib.hid g1; have G2 := Lib.hid g2
      clear hj4 hm4 g1 g2 b1 b2
      gi_wp2
      go_roundw
      case rel => exact ⟨i + 1, HJ4.out, by rw [PS.out]; exact G1.out, by rw [PS.out]; exact G2.out⟩
      case measure => rw [HM4.out]; omega
    · gi_wp2
      go_end0
      exact ⟨⟨_, rfl⟩, _, ⟨i, rfl⟩, hJx3⟩
end Go.Proofs.Ytlcbfabdfpdcgaa
