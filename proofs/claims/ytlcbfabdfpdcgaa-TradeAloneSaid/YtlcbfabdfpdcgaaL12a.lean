/- eddylaw12's awake, and TradeBalances: whatever the numbers and the register it returns true. No conditions. -/
import Derived.Test.YtlcbfabdfpdcgaaPlay
import Derived.Test.YtlcbfabdfpdcgaaLaw
namespace Go.Proofs.Ytlcbfabdfpdcgaa
open Go.ChangeShapes Go.WideShapes Go.ChangeAt Go.RowKit Go.Joins
set_option linter.unusedVariables false

theorem cells_reg : Try.prog.cellsOf 23 = 3 := by kernel_rfl
theorem open_reg {H : Type} {enc : TypeId × Value → H} {w : World} {base b0 : Nat} {spare : Nat → Bool} {held : Bool} {v : Value} {d : DataW H} {p : List MemPlace}
    (hv : Value.okWide Try.prog w .any b0 23 v) (h : DataW.Trod enc Try.prog w base spare held 23 v d p) :
    ∃ a b c : Int, v = .agg #[.int .i64 a, .int .i64 b, .int .i64 c] ∧ (Lit.int .i64 a).wf = true ∧ (Lit.int .i64 b).wf = true ∧ (Lit.int .i64 c).wf = true := by
  obtain ⟨c0, c1, c2, y0, y1, y2, m, rfl, rfl, rfl, h0, h1, h2⟩ := open_agg3 Try.underlying23 (by kernel_rfl) cells_reg hv h
  obtain ⟨a, e0, _, wa⟩ := DataW.trod_int Try.underlying2 h0
  obtain ⟨b, e1, _, wb⟩ := DataW.trod_int Try.underlying3 h1
  obtain ⟨c, e2, _, wc⟩ := DataW.trod_int Try.underlying2 h2
  simp at e0 e1 e2
  subst e0 e1 e2
  exact ⟨a, b, c, rfl, wa, wb, wc⟩
theorem row_get {W : World} {base : Nat} {e : TypeId} {A : Option Addr} {n m c : Nat} {xs : List Value} (h : W.ownsRow base e 1 (.slice A m c) n xs) {i : Nat} (hi : i < n) :
    ∃ g x, A = some ⟨g, 0, none⟩ ∧ base ≤ g ∧ W.cell? ⟨g, i, none⟩ = some x ∧ xs[i]? = some x := by
  obtain ⟨hl, hc⟩ := h
  rcases hc with ⟨_, hn⟩ | ⟨g, cap, cur, hv, hb, hh, hn, _, hsz, ht⟩
  · omega
  · cases hv
    have h1 : i < cur.size := by omega
    refine ⟨g, cur[i], rfl, hb, ?_, ?_⟩
    · simp [World.cell?, hh, h1]
    · rw [← ht, List.getElem?_take_of_lt (by omega)]
      simp [h1]
theorem a1 : endsT 1 2 7 2 5 10 20 = (3, 27, 0) := by decide
theorem a2 : balT 1 2 7 2 5 10 20 = (⟨2, 2, -5⟩, 12, 0) := by decide
theorem a3 : playT 2 5 ⟨0, 0, 0⟩ 0 9 3 = (⟨1, 5, -4⟩, [-4, 0, 0], 0) := by decide +kernel
set_option maxHeartbeats 4000000 in
theorem awake_any (w : World) : Calls Try.prog 10 #[] w fun e w' => e = .returned (.bool true) ∧ Below w.heap.size w w' := by
  have c1 := ends_any 1 2 7 2 5 10 20
  rw [a1] at c1
  have c2 := bal_any 1 2 7 2 5 10 20
  rw [a2] at c2
  have c3 := play_any 2 5 0 0 0 0 9 3
  rw [a3] at c3
  have C1 := Lib.hid c1; have C2 := Lib.hid c2; have C3 := Lib.hid c3
  clear c1 c2 c3
  go_enter Try.func10, Try.ntmps10
  go_wp2_with (fail)
  refine (C1.out _).mono ?_; rintro e w1 ⟨rfl, hb1⟩; obtain ⟨hc1, hf1⟩ := bcell hb1; have hz1 := hb1.size; (try simp at hz1)
  go_wp2_with (fail)
  refine (C2.out _).mono ?_; rintro e w2 ⟨rfl, hb2⟩; obtain ⟨hc2, hf2⟩ := bcell hb2; have hz2 := hb2.size; (try simp at hz2)
  go_wp2_with (fail)
  refine (C3.out _).mono ?_; rintro e w3 ⟨lv, rfl, hr, hb3⟩
  obtain ⟨hc3, hf3⟩ := bcell hb3; have hz3 := hb3.size; simp at hz3; have hz3_0 : w2.heap.size < w3.heap.size := (by omega); have hz3_1 : w2.heap.size < w3.heap.size + 1 := (by omega)
  obtain ⟨A, cp, rfl⟩ := row_slice hr
  obtain ⟨g, x, rfl, hg, hx, hxi⟩ := row_get (i := 0) hr (by decide)
  obtain rfl : x = .int .i64 (-4) := by simpa using hxi.symm
  simp at hg
  clear hr hxi
  have hgl : g < w3.heap.size := cell_lt hx
  go_wp2
  go_ret
  exact ⟨rfl, (by repeat (first | with_reducible refine Below.setCell ?_ (by first | (simp; done) | (simp; omega) | omega) _ | with_reducible refine Below.alloc ?_ (by first | (simp; done) | (simp; omega) | omega) _ | with_reducible refine Below.drew ?_ | with_reducible exact Below.refl _ _ | with_reducible refine Below.trans ?_ (Below.mono hb1 (by first | (simp; done) | (simp; omega) | omega)) | with_reducible refine Below.trans ?_ (Below.mono hb2 (by first | (simp; done) | (simp; omega) | omega)) | with_reducible refine Below.trans ?_ (Below.mono hb3 (by first | (simp; done) | (simp; omega) | omega))))⟩

set_option maxHeartbeats 4000000 in
theorem tradeBalances_any (me peer v wr f rest told : Int) (w : World) :
    Calls Try.prog 3 #[.int .i64 me, .int .i64 peer, .agg #[.int .i64 v, .int .i64 wr, .int .i64 f], .int .i64 rest, .int .i64 told] w fun e w' => e = .returned (.bool true) ∧ Below w.heap.size w w' := by
  have c1 := fun w => bal_any v wr f me peer rest told w
  have c2 := fun w => rbal_any v wr f me peer rest told w
  generalize balT v wr f me peer rest told = m at c1 c2
  obtain ⟨⟨x, y, z⟩, n, e⟩ := m
  have C1 := Lib.hid c1; have C2 := Lib.hid c2
  clear c1 c2
  go_enter Try.func3, Try.ntmps3
  go_wp2_with (fail)
  refine (C1.out _).mono ?_; rintro e w1 ⟨rfl, hb1⟩; obtain ⟨hc1, hf1⟩ := bcell hb1; have hz1 := hb1.size; (try simp at hz1); have hz1_0 : w.heap.size < w1.heap.size := (by omega)
  go_wp2_with (fail)
  refine (C2.out _).mono ?_; rintro e w2 ⟨rfl, hb2⟩; obtain ⟨hc2, hf2⟩ := bcell hb2; have hz2 := hb2.size; (try simp at hz2); have hz2_0 : w.heap.size < w2.heap.size := (by omega); have hz2_1 : w1.heap.size < w2.heap.size := (by omega)
  go_wp2_with (fail)
  refine (awake_any _).mono ?_; rintro e w3 ⟨rfl, hb3⟩; obtain ⟨hc3, hf3⟩ := bcell hb3; have hz3 := hb3.size; (try simp at hz3); have hz3_0 : w.heap.size < w3.heap.size := (by omega); have hz3_1 : w1.heap.size < w3.heap.size := (by omega); have hz3_2 : w2.heap.size < w3.heap.size := (by omega)
  go_wp2
  go_ret
  exact ⟨rfl, (by repeat (first | with_reducible refine Below.setCell ?_ (by first | (simp; done) | (simp; omega) | omega) _ | with_reducible refine Below.alloc ?_ (by first | (simp; done) | (simp; omega) | omega) _ | with_reducible refine Below.drew ?_ | with_reducible exact Below.refl _ _ | with_reducible refine Below.trans ?_ (Below.mono hb1 (by first | (simp; done) | (simp; omega) | omega)) | with_reducible refine Below.trans ?_ (Below.mono hb2 (by first | (simp; done) | (simp; omega) | omega)) | with_reducible refine Below.trans ?_ (Below.mono hb3 (by first | (simp; done) | (simp; omega) | omega))))⟩

theorem tradeBalances_lifted (os : Os) (started : os.Started) (H : Type) (enc : TypeId × Value → H) :
    ReturnsInHanded {} Try.checked os 3 .any (Rows.tradeBalancesSpec.pre6 enc Try.prog Try.f3 Rows.tradeBalancesRow.domain false) (Rows.tradeBalancesSpec.post enc Try.prog Try.f3 false true false false) := by
  refine returnsInHanded_of_change_sized (C := Try.checked) own started (by kernel_rfl) Try.func3
    (ChangeSpec.witness6 (enc := enc) (C := Try.checked) false ⟨#[], #[.int .i64 0, .int .i64 0, .agg #[.int .i64 0, .int .i64 0, .int .i64 0], .int .i64 0, .int .i64 0], []⟩ 8 (by kernel_rfl) (by kernel_rfl) (by kernel_rfl) (by kernel_rfl)) ?_
  intro W base args ds gs before hval hW _ hsz _
  have hW' := hW
  obtain ⟨p, q, hA, hV, rfl, hfz, hnd⟩ := hW
  obtain ⟨rfl, rfl⟩ := trodVars_none hV
  rw [Try.params3] at hA hval
  obtain ⟨v0, vs0, d0, ds0, p0, q0, hargs, rfl, rfl, h0, r0⟩ := trodAll_cons hA
  obtain ⟨v1, vs1, d1, ds1, p1, q1, rfl, rfl, rfl, h1, r1⟩ := trodAll_cons r0
  obtain ⟨v2, vs2, d2, ds2, p2, q2, rfl, rfl, rfl, h2, r2⟩ := trodAll_cons r1
  obtain ⟨v3, vs3, d3, ds3, p3, q3, rfl, rfl, rfl, h3, r3⟩ := trodAll_cons r2
  obtain ⟨v4, vs4, d4, ds4, p4, q4, rfl, rfl, rfl, h4, r4⟩ := trodAll_cons r3
  obtain ⟨rfl, rfl, rfl⟩ := trodAll_nil r4
  obtain rfl : args = #[v0, v1, v2, v3, v4] := by cases args; simp_all
  obtain ⟨me, rfl, _, _, wa⟩ := open_int Try.underlying3 (hval 0 _ v0 rfl rfl) h0
  obtain ⟨peer, rfl, _, _, wb⟩ := open_int Try.underlying3 (hval 1 _ v1 rfl rfl) h1
  obtain ⟨v, wr, f, rfl, _, _, _⟩ := open_reg (hval 2 _ v2 rfl rfl) h2
  obtain ⟨rest, rfl, _, _, wam⟩ := open_int Try.underlying2 (hval 3 _ v3 rfl rfl) h3
  obtain ⟨told, rfl, _, _, wk⟩ := open_int Try.underlying2 (hval 4 _ v4 rfl rfl) h4
  refine (tradeBalances_any me peer v wr f rest told W).mono fun e W' ⟨he, hg⟩ => ?_
  subst he
  exact ⟨_, rfl, law_post laidOut rfl (by kernel_rfl) rfl Try.underlying4 rfl hW' hg⟩

theorem tradeBalances_holds : Rows.TradeBalancesSaid :=
  OpenClaim.holds_of_wide 3 Try.f3 rfl rfl rfl rfl rfl rfl rfl ⟨rfl, rfl, rfl, rfl, rfl⟩ rfl rfl rfl rfl rfl (by kernel_rfl) Try.func3 (by kernel_rfl)
    (of_decide_eq_true (by kernel_rfl)) (by unfold Func.isWrapper; first | (rw [if_pos (by decide +kernel)]; kernel_rfl) | (rw [if_neg (by decide +kernel)]; exact ⟨rfl, rfl⟩))
    (fun os started H enc _ => tradeBalances_lifted os started H enc)

end Go.Proofs.Ytlcbfabdfpdcgaa
