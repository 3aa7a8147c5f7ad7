/- trade.Play: what the call computes, for every argument. -/
import Derived.Test.YtlcbfabdfpdcgaaAsk
import Derived.Maps.AppendAt
namespace Go.Proofs.Ytlcbfabdfpdcgaa
open Go.RowKit Go.Shelf
attribute [local go_sem] Oper.semAt_some
/-- One turn: the first of the pair asks, the second moves. -/
def stepP (s : R × List Int) (p : EndN × EndN) : Except Int (R × List Int) :=
  if (balT s.1.ver s.1.wr s.1.flow p.2.1 p.1.1 p.2.2 p.1.2).2.2 = 0 then .ok ((balT s.1.ver s.1.wr s.1.flow p.2.1 p.1.1 p.2.2 p.1.2).1, s.2 ++ [(balT s.1.ver s.1.wr s.1.flow p.2.1 p.1.1 p.2.2 p.1.2).2.1])
  else .error (balT s.1.ver s.1.wr s.1.flow p.2.1 p.1.1 p.2.2 p.1.2).2.2
def runP (r0 : R) (pre : List (EndN × EndN)) : Except Int (R × List Int) := pre.foldlM stepP (r0, [])
def turnsN (n : Int) : Nat := (min n 100).toNat
def outP (r0 : R) (x y : EndN) (N : Nat) : R × List Int × Int := match runP r0 (altE x y N) with
  | .ok s => (s.1, s.2, 0)
  | .error e => (⟨0, 0, 0⟩, [], e)
def playT (a b : Int) (r0 : R) (ra rb n : Int) : R × List Int × Int :=
  if (endsT r0.ver r0.wr r0.flow a b ra rb).2.2 = 0 then outP r0 (a, ra) (b, rb) (turnsN n) else (⟨0, 0, 0⟩, [], (endsT r0.ver r0.wr r0.flow a b ra rb).2.2)
theorem runP_snoc (r0 : R) (pre : List (EndN × EndN)) (p : EndN × EndN) : runP r0 (pre ++ [p]) = (runP r0 pre).bind (fun s => stepP s p) := by
  unfold runP
  rw [List.foldlM_append]
  simp only [List.foldlM_cons, List.foldlM_nil]
  cases List.foldlM stepP (r0, []) pre with
  | error e => rfl
  | ok s => show (stepP s p).bind _ = stepP s p; cases stepP s p <;> rfl
theorem altE_split (x y : EndN) {i N : Nat} (h : i ≤ N) : ∃ rest, altE x y N = altE x y i ++ rest := by
  refine ⟨(altE x y N).drop i, ?_⟩
  have : (altE x y N).take i = altE x y i := by
    unfold altE
    rw [← List.map_take, List.take_range, Nat.min_eq_left h]
  rw [← this, List.take_append_drop]
theorem runP_error {r0 : R} {pre rest : List (EndN × EndN)} {e : Int} (h : runP r0 pre = .error e) : runP r0 (pre ++ rest) = .error e := by
  unfold runP at *
  rw [List.foldlM_append, h]
  rfl
theorem outP_error {r0 : R} {x y : EndN} {i N : Nat} {e : Int} (hi : i ≤ N) (h : runP r0 (altE x y i) = .error e) : outP r0 x y N = (⟨0, 0, 0⟩, [], e) := by
  obtain ⟨rest, hr⟩ := altE_split x y hi
  unfold outP
  rw [hr, runP_error h]
theorem outP_ok {r0 : R} {x y : EndN} {N : Nat} {s : R × List Int} (h : runP r0 (altE x y N) = .ok s) : outP r0 x y N = (s.1, s.2, 0) := by
  unfold outP; rw [h]
def stOf (r0 : R) (pre : List (EndN × EndN)) : R × List Int := match runP r0 pre with
  | .ok s => s
  | .error _ => (⟨0, 0, 0⟩, [])
/-- No turn of these has failed. -/
def okP (r0 : R) (pre : List (EndN × EndN)) : Prop := runP r0 pre = .ok (stOf r0 pre)
theorem okP_nil (r0 : R) : okP r0 [] := rfl
theorem stOf_nil (r0 : R) : stOf r0 [] = (r0, []) := rfl
theorem okP_snoc {r0 : R} {pre : List (EndN × EndN)} {p : EndN × EndN} {q : R} {am : Int} (h : okP r0 pre) (hb : balT (stOf r0 pre).1.ver (stOf r0 pre).1.wr (stOf r0 pre).1.flow p.2.1 p.1.1 p.2.2 p.1.2 = (q, am, 0)) :
    okP r0 (pre ++ [p]) ∧ stOf r0 (pre ++ [p]) = (q, (stOf r0 pre).2 ++ [am]) := by
  have hs : runP r0 (pre ++ [p]) = .ok (q, (stOf r0 pre).2 ++ [am]) := by
    rw [runP_snoc, h]
    show stepP _ p = _
    unfold stepP
    rw [hb]
    rfl
  have : stOf r0 (pre ++ [p]) = (q, (stOf r0 pre).2 ++ [am]) := by unfold stOf; rw [hs]; rfl
  exact ⟨by unfold okP; rw [this]; exact hs, this⟩
theorem errP_snoc {r0 : R} {pre : List (EndN × EndN)} {p : EndN × EndN} {q : R} {am e : Int} (h : okP r0 pre) (he : e ≠ 0) (hb : balT (stOf r0 pre).1.ver (stOf r0 pre).1.wr (stOf r0 pre).1.flow p.2.1 p.1.1 p.2.2 p.1.2 = (q, am, e)) :
    runP r0 (pre ++ [p]) = .error e := by
  rw [runP_snoc, h]
  show stepP _ p = _
  unfold stepP
  rw [hb]
  exact if_neg he
theorem stOf_len {r0 : R} : ∀ {k : Nat} {pre : List (EndN × EndN)}, pre.length = k → okP r0 pre → (stOf r0 pre).2.length = k
  | 0, pre, h, _ => by
    obtain rfl := List.eq_nil_of_length_eq_zero h
    rfl
  | k + 1, pre, h, ho => by
    obtain ⟨ini, p, rfl⟩ : ∃ ini p, pre = ini ++ [p] := ⟨pre.dropLast, pre.getLast (by intro e; simp [e] at h), (List.dropLast_concat_getLast _).symm⟩
    have hi : ini.length = k := by simpa using h
    have oi : okP r0 ini := by
      unfold okP stOf
      cases hr : runP r0 ini with
      | ok s => rfl
      | error e =>
        have := runP_error (rest := [p]) hr
        unfold okP at ho
        rw [this] at ho
        cases ho
    obtain ⟨q, am, e, hb⟩ : ∃ q am e, balT (stOf r0 ini).1.ver (stOf r0 ini).1.wr (stOf r0 ini).1.flow p.2.1 p.1.1 p.2.2 p.1.2 = (q, am, e) := ⟨_, _, _, rfl⟩
    by_cases he : e = 0
    · subst he
      rw [(okP_snoc oi hb).2]
      simp [stOf_len hi oi]
    · have := errP_snoc oi he hb
      unfold okP at ho
      rw [this] at ho
      cases ho
set_option maxHeartbeats 1000000 in
theorem asks_in (n : Nat) (a ra b rb : Int) (w : World) :
    CallsIn Fence.wide n Try.prog 22 #[.agg #[.int .i64 a, .int .i64 ra], .agg #[.int .i64 b, .int .i64 rb]] w fun e w' => e = .returned (.func (.func 36) #[] #[.pointer (some ⟨w.heap.size, 0, none⟩), .pointer (some ⟨w.heap.size + 1, 0, none⟩)]) ∧ w' = (w.alloc (.cells #[.int .i64 a, .int .i64 ra] 60)).alloc (.cells #[.int .i64 b, .int .i64 rb] 60) := by
  refine callsIn_of_wp Try.func22 rfl trivial ?_ rfl
  simp only [Try.ntmps22, List.size_toArray, List.length_cons, List.length_nil, Nat.reduceAdd, Nat.reduceSub, Array.replicate_succ, Array.replicate_zero, List.push_toArray, List.append_toArray, List.nil_append, List.cons_append]
  gi_wp2
  go_ret
  exact ⟨rfl, rfl⟩
def playCells (w : World) (Bl : Nat) (n : Int) (rr : R) (lv : Value) (e : Int) : List (Addr × Value) := [(⟨w.heap.size, 0, none⟩, .int .i64 rr.ver), (⟨w.heap.size, 1, none⟩, .int .i64 rr.wr), (⟨w.heap.size, 2, none⟩, .int .i64 rr.flow), (⟨w.heap.size + 1, 0, none⟩, .int .i64 n), (⟨w.heap.size + 1 + 1, 0, none⟩, .int .i64 0), (⟨w.heap.size + 1 + 1, 1, none⟩, .int .i64 0), (⟨w.heap.size + 1 + 1, 2, none⟩, .int .i64 0), (⟨Bl, 0, none⟩, lv), (⟨Bl + 1, 0, none⟩, .int .i64 e)]
def playFz (w : World) (Bl : Nat) : List Addr := [⟨w.heap.size, 0, none⟩, ⟨w.heap.size, 1, none⟩, ⟨w.heap.size, 2, none⟩, ⟨w.heap.size + 1, 0, none⟩, ⟨w.heap.size + 1 + 1, 0, none⟩, ⟨w.heap.size + 1 + 1, 1, none⟩, ⟨w.heap.size + 1 + 1, 2, none⟩, ⟨Bl, 0, none⟩, ⟨Bl + 1, 0, none⟩]
/-- Between two rounds. -/
def playI (w : World) (Bl N base : Nat) (n : Int) (r0 : R) (pre : List (EndN × EndN)) (W : World) : Prop :=
  okP r0 pre ∧ (pre.length ≤ N ∧ base ≤ W.heap.size) ∧ ∃ lv, KeptC w (playCells w Bl n (stOf r0 pre).1 lv 0) (playFz w Bl) W ∧ W.ownsRow base 2 1 lv pre.length ((stOf r0 pre).2.map (Value.int .i64))
/-- Behind the last round. -/
def playX (w : World) (Bl N base : Nat) (n : Int) (r0 : R) (c : Code) (pre : List (EndN × EndN)) (W : World) : Prop :=
  c = .exit 0 ∧ ∃ ini p lv e, pre = ini ++ [p] ∧ okP r0 ini ∧ KeptC w (playCells w Bl n (stOf r0 ini).1 lv e) (playFz w Bl) W ∧ W.ownsRow base 2 1 lv ini.length ((stOf r0 ini).2.map (Value.int .i64)) ∧ ((e = 0 ∧ ini.length = N) ∨ (e ≠ 0 ∧ ini.length < N ∧ runP r0 (ini ++ [p]) = .error e))
theorem playI_own {w : World} {Bl N base : Nat} {n : Int} {r0 : R} (hB : w.heap.size ≤ base) : OwnFrom base (playI w Bl N base n r0) :=
  fun s X Y row ⟨ho, hN, lv, hK, hr⟩ hg hrow => ⟨ho, ⟨hN.1, Nat.le_trans hN.2 hg.size⟩, lv, ownFrom_keptC base w (fun _ : Unit => playCells w Bl n (stOf r0 s).1 lv 0) (playFz w Bl) hB (fun _ => rfl) () X Y row hK hg hrow, row_from base base _ _ (fun _ : Unit => lv) (fun _ => s.length) (fun _ => (stOf r0 s).2.map (Value.int .i64)) () X Y row hr hg hrow⟩
theorem playX_own {w : World} {Bl N base : Nat} {n : Int} {r0 : R} (hB : w.heap.size ≤ base) (c : Code) : OwnFrom base (playX w Bl N base n r0 c) :=
  fun s X Y row ⟨hc, ini, p, lv, e, hp, ho, hK, hr, hx⟩ hg hrow => ⟨hc, ini, p, lv, e, hp, ho, ownFrom_keptC base w (fun _ : Unit => playCells w Bl n (stOf r0 ini).1 lv e) (playFz w Bl) hB (fun _ => rfl) () X Y row hK hg hrow, row_from base base _ _ (fun _ : Unit => lv) (fun _ => ini.length) (fun _ => (stOf r0 ini).2.map (Value.int .i64)) () X Y row hr hg hrow, hx⟩
theorem playI_far {w : World} {Bl N base : Nat} {n : Int} {r0 : R} {s : List (EndN × EndN)} {A : World} {p : Addr} (v : Value) (hw : w.heap.size + 1 + 1 + 1 ≤ Bl) (hlo : Bl + 1 < p.block) (hhi : p.block < base) (h : playI w Bl N base n r0 s A) : playI w Bl N base n r0 s (A.setCell p v) := by
  obtain ⟨ho, hN, lv, hK, hr⟩ := h
  refine ⟨ho, ⟨hN.1, by rw [setCell_size]; exact hN.2⟩, lv, keptC_far v hK (by omega) ?_, row_far hr v hhi⟩
  intro x hx
  simp only [playCells, List.mem_cons, List.not_mem_nil, or_false] at hx
  rcases hx with rfl | rfl | rfl | rfl | rfl | rfl | rfl | rfl | rfl <;> simp <;> omega
def playMu (Bl : Nat) (W : World) : Nat := match W.cell? ⟨Bl, 0, none⟩ with
  | some (.slice _ k _) => k
  | _ => 0
theorem row_slice {W : World} {base : Nat} {e : TypeId} {size : Nat} {v : Value} {n : Nat} {xs : List Value} (h : W.ownsRow base e size v n xs) : ∃ A c, v = .slice A n c := by
  rcases h.2 with ⟨rfl, rfl⟩ | ⟨g, cap, cur, rfl, _⟩
  · exact ⟨none, 0, rfl⟩
  · exact ⟨_, _, rfl⟩
theorem playI_mu {w : World} {Bl N base : Nat} {n : Int} {r0 : R} {s : List (EndN × EndN)} {A : World} (h : playI w Bl N base n r0 s A) : playMu Bl A = s.length ∧ s.length < N + 1 := by
  obtain ⟨ho, hN, lv, hK, hr⟩ := h
  obtain ⟨B, c, rfl⟩ := row_slice hr
  have := hK.2.1 (⟨Bl, 0, none⟩, .slice B s.length c) (by simp [playCells])
  refine ⟨?_, by have := hN.1; omega⟩
  unfold playMu
  simp only [] at this
  rw [this]
def playA (a b ra rb n v wr f e0 e1 : Int) (w : World) (Bl : Nat) (p : EndN × EndN) (Bx By : Nat) : Act :=
  { tmps := #[.int .i64 a, .int .i64 b, .agg #[.int .i64 v, .int .i64 wr, .int .i64 f], .int .i64 ra, .int .i64 rb, .int .i64 n, undef, undef, .pointer (some ⟨w.heap.size, 0, none⟩), undef, undef, .pointer (some ⟨w.heap.size + 1, 0, none⟩), .pointer (some ⟨w.heap.size + 1 + 1, 0, none⟩), .slice none 0 0, .int .i64 0, .int .i64 e0, .int .i64 e1, .int .i64 0, .pointer (some ⟨Bl, 0, none⟩), .pointer (some ⟨Bl + 1, 0, none⟩), .pointer (some ⟨Bx, 0, none⟩), .pointer (some ⟨By, 0, none⟩), undef, undef, undef, .tuple #[.int .i64 e0, .int .i64 e1, .int .i64 0], .int .i64 a, .int .i64 b, .agg #[.int .i64 v, .int .i64 wr, .int .i64 f], .int .i64 ra, .int .i64 rb, .tuple #[.int .i64 e0, .int .i64 e1, .int .i64 0], .int .i64 e0, .int .i64 e1, .int .i64 0, .int .i64 0, .bool false, undef, undef, .int .i64 a, .int .i64 ra, .agg #[.int .i64 a, .int .i64 ra], .int .i64 b, .int .i64 rb, .agg #[.int .i64 b, .int .i64 rb], .func (.func 36) #[] #[.pointer (some ⟨Bl + 1 + 1, 0, none⟩), .pointer (some ⟨Bl + 1 + 1 + 1, 0, none⟩)], .agg #[.int .i64 p.1.1, .int .i64 p.1.2], .agg #[.int .i64 p.2.1, .int .i64 p.2.2], undef, undef, undef, undef, undef, undef, undef, undef, undef, undef, undef, undef, undef, undef, undef, undef, undef, undef, undef, undef, undef, undef, undef, undef, undef, undef, undef, undef, undef, undef, undef, undef, undef, undef, undef, undef, undef], defers := [] }
theorem playA_own {B : Nat} {Bx : Nat} (y : EndN) : OwnFrom B (fun (_ : Unit) W => W.cell? ⟨Bx, 0, none⟩ = some (.int .i64 y.1) ∧ W.cell? ⟨Bx, 1, none⟩ = some (.int .i64 y.2)) :=
  fun _ _ _ _ hs hg hr => ⟨cell_kept hs.1 hg (fun r e => (hr r e).2), cell_kept hs.2 hg (fun r e => (hr r e).2)⟩
theorem i64_inf : (Try.prog.info? 2).map (fun i => (i.zero, i.size, i.bytes)) = some (some (.int .i64 0), 1, 8) := by kernel_rfl
set_option maxRecDepth 100000 in
set_option maxHeartbeats 8000000 in
theorem play_any (a b v wr f ra rb n : Int) (w : World) :
    Calls Try.prog 11 #[.int .i64 a, .int .i64 b, .agg #[.int .i64 v, .int .i64 wr, .int .i64 f], .int .i64 ra, .int .i64 rb, .int .i64 n] w fun e w' =>
      ∃ lv, e = .returned (.tuple #[.agg #[.int .i64 (playT a b ⟨v, wr, f⟩ ra rb n).1.ver, .int .i64 (playT a b ⟨v, wr, f⟩ ra rb n).1.wr, .int .i64 (playT a b ⟨v, wr, f⟩ ra rb n).1.flow], lv, .int .i64 (playT a b ⟨v, wr, f⟩ ra rb n).2.2]) ∧
        w'.ownsRow w.heap.size 2 1 lv (playT a b ⟨v, wr, f⟩ ra rb n).2.1.length ((playT a b ⟨v, wr, f⟩ ra rb n).2.1.map (Value.int .i64)) ∧ Below w.heap.size w w' := by
  have c1 := fun w => ends_any v wr f a b ra rb w
  obtain ⟨⟨e0, e1, e2⟩, he⟩ : ∃ t, endsT v wr f a b ra rb = t := ⟨_, rfl⟩
  rw [he] at c1
  have hpl : playT a b ⟨v, wr, f⟩ ra rb n = if e2 = 0 then outP ⟨v, wr, f⟩ (a, ra) (b, rb) (turnsN n) else (⟨0, 0, 0⟩, [], e2) := by unfold playT; rw [he]
  have C1 := Lib.hid c1
  clear c1 he
  refine (callsIn_wide (n := 6)).1 ?_
  refine callsIn_of_wp_marks Try.func11 rfl trivial ?_ rfl
  simp only [Try.ntmps11, List.size_toArray, List.length_cons, List.length_nil, Nat.reduceAdd, Nat.reduceSub, Array.replicate_succ, Array.replicate_zero, List.push_toArray, List.append_toArray, List.nil_append, List.cons_append]
  have hmx : Try.prog.follows .mixedOrders = true := by kernel_rfl
  by_cases h2 : e2 = 0
  · subst h2
    rw [if_pos rfl] at hpl
    rw [hpl]
    have HPL := Lib.hid hpl
    clear hpl
    refine wpIn_wide.2 ?_
    go_wp2
    go_step3
    go_wp2_with (fail)
    refine (C1.out _).mono ?_; rintro e w1 ⟨rfl, hb1⟩; obtain ⟨hc1, hf1⟩ := bcell hb1; have hz1 := hb1.size; (try simp at hz1); have hz1_0 : w.heap.size < w1.heap.size := (by omega); have hz1_0_1 : w.heap.size < w1.heap.size + 1 := (by omega); have hz1_0_2 : w.heap.size < w1.heap.size + 1 + 1 := (by omega); have hz1_0_3 : w.heap.size < w1.heap.size + 1 + 1 + 1 := (by omega); have hz1_1 : w.heap.size + 1 < w1.heap.size := (by omega); have hz1_1_1 : w.heap.size + 1 < w1.heap.size + 1 := (by omega); have hz1_1_2 : w.heap.size + 1 < w1.heap.size + 1 + 1 := (by omega); have hz1_1_3 : w.heap.size + 1 < w1.heap.size + 1 + 1 + 1 := (by omega); have hz1_2 : w.heap.size + 1 + 1 < w1.heap.size := (by omega); have hz1_2_1 : w.heap.size + 1 + 1 < w1.heap.size + 1 := (by omega); have hz1_2_2 : w.heap.size + 1 + 1 < w1.heap.size + 1 + 1 := (by omega); have hz1_2_3 : w.heap.size + 1 + 1 < w1.heap.size + 1 + 1 + 1 := (by omega)
    go_wp2
    go_step3
    go_wp2_with (fail)
    refine callsIn_wide.1 ((asks_in 5 a ra b rb _).mono ?_); rintro e w2 ⟨rfl, rfl⟩
    go_wp2
    have d0 : w1.cell? ⟨w.heap.size, 0, none⟩ = some (.int .i64 v) := (hb1.cell (p := ⟨w.heap.size, 0, none⟩) (by simp; try omega)).trans (by go_simp)
    have g0 : w1.frozen? ⟨w.heap.size, 0, none⟩ = false := (hb1.frozen (p := ⟨w.heap.size, 0, none⟩) (by simp; try omega)).trans (by go_simp)
    have d1 : w1.cell? ⟨w.heap.size, 1, none⟩ = some (.int .i64 wr) := (hb1.cell (p := ⟨w.heap.size, 1, none⟩) (by simp; try omega)).trans (by go_simp)
    have g1 : w1.frozen? ⟨w.heap.size, 1, none⟩ = false := (hb1.frozen (p := ⟨w.heap.size, 1, none⟩) (by simp; try omega)).trans (by go_simp)
    have d2 : w1.cell? ⟨w.heap.size, 2, none⟩ = some (.int .i64 f) := (hb1.cell (p := ⟨w.heap.size, 2, none⟩) (by simp; try omega)).trans (by go_simp)
    have g2 : w1.frozen? ⟨w.heap.size, 2, none⟩ = false := (hb1.frozen (p := ⟨w.heap.size, 2, none⟩) (by simp; try omega)).trans (by go_simp)
    have d3 : w1.cell? ⟨w.heap.size + 1, 0, none⟩ = some (.int .i64 n) := (hb1.cell (p := ⟨w.heap.size + 1, 0, none⟩) (by simp; try omega)).trans (by go_simp)
    have g3 : w1.frozen? ⟨w.heap.size + 1, 0, none⟩ = false := (hb1.frozen (p := ⟨w.heap.size + 1, 0, none⟩) (by simp; try omega)).trans (by go_simp)
    have d4 : w1.cell? ⟨w.heap.size + 1 + 1, 0, none⟩ = some (.int .i64 0) := (hb1.cell (p := ⟨w.heap.size + 1 + 1, 0, none⟩) (by simp; try omega)).trans (by go_simp)
    have g4 : w1.frozen? ⟨w.heap.size + 1 + 1, 0, none⟩ = false := (hb1.frozen (p := ⟨w.heap.size + 1 + 1, 0, none⟩) (by simp; try omega)).trans (by go_simp)
    have d5 : w1.cell? ⟨w.heap.size + 1 + 1, 1, none⟩ = some (.int .i64 0) := (hb1.cell (p := ⟨w.heap.size + 1 + 1, 1, none⟩) (by simp; try omega)).trans (by go_simp)
    have g5 : w1.frozen? ⟨w.heap.size + 1 + 1, 1, none⟩ = false := (hb1.frozen (p := ⟨w.heap.size + 1 + 1, 1, none⟩) (by simp; try omega)).trans (by go_simp)
    have d6 : w1.cell? ⟨w.heap.size + 1 + 1, 2, none⟩ = some (.int .i64 0) := (hb1.cell (p := ⟨w.heap.size + 1 + 1, 2, none⟩) (by simp; try omega)).trans (by go_simp)
    have g6 : w1.frozen? ⟨w.heap.size + 1 + 1, 2, none⟩ = false := (hb1.frozen (p := ⟨w.heap.size + 1 + 1, 2, none⟩) (by simp; try omega)).trans (by go_simp)
    obtain ⟨N, hN⟩ : ∃ N, turnsN n = N := ⟨_, rfl⟩
    have hmk : KeptC w (playCells w w1.heap.size n ⟨v, wr, f⟩ (.slice none 0 0) 0) (playFz w w1.heap.size) ((((w1.alloc (Obj.cells #[Value.slice none 0 0] 31)).alloc (Obj.cells #[Value.int IntKind.i64 0] 24)).alloc (Obj.cells #[Value.int IntKind.i64 a, Value.int IntKind.i64 ra] 60)).alloc (Obj.cells #[Value.int IntKind.i64 b, Value.int IntKind.i64 rb] 60)) := by
      unfold playCells playFz; simp only []; exact (by (repeat' (first | refine KeptC.cons ?_ ?_ | refine KeptC.consF ?_ ?_ ?_ | refine KeptC.mk0 ?_)); all_goals (first | with_reducible assumption | (go_simp; done) | (simp; omega) | exact (by repeat (first | with_reducible refine Below.setCell ?_ (by first | (simp; done) | (simp; omega) | omega) _ | with_reducible refine Below.alloc ?_ (by first | (simp; done) | (simp; omega) | omega) _ | with_reducible refine Below.drew ?_ | with_reducible exact Below.refl _ _ | with_reducible refine Below.trans ?_ (Below.mono hb1 (by first | (simp; done) | (simp; omega) | omega))))))
    have hB1 : BoxE ((((w1.alloc (Obj.cells #[Value.slice none 0 0] 31)).alloc (Obj.cells #[Value.int IntKind.i64 0] 24)).alloc (Obj.cells #[Value.int IntKind.i64 a, Value.int IntKind.i64 ra] 60)).alloc (Obj.cells #[Value.int IntKind.i64 b, Value.int IntKind.i64 rb] 60)) (w1.heap.size + 1 + 1) (a, ra) := (Below.heap_alloc _ _ _ (by simp)).trans (by have := World.alloc_heap_new ((w1.alloc (Obj.cells #[Value.slice none 0 0] 31)).alloc (Obj.cells #[Value.int IntKind.i64 0] 24)) (Obj.cells #[Value.int IntKind.i64 a, Value.int IntKind.i64 ra] 60); simpa using this)
    have hB2 : BoxE ((((w1.alloc (Obj.cells #[Value.slice none 0 0] 31)).alloc (Obj.cells #[Value.int IntKind.i64 0] 24)).alloc (Obj.cells #[Value.int IntKind.i64 a, Value.int IntKind.i64 ra] 60)).alloc (Obj.cells #[Value.int IntKind.i64 b, Value.int IntKind.i64 rb] 60)) (w1.heap.size + 1 + 1 + 1) (b, rb) := by have := World.alloc_heap_new (((w1.alloc (Obj.cells #[Value.slice none 0 0] 31)).alloc (Obj.cells #[Value.int IntKind.i64 0] 24)).alloc (Obj.cells #[Value.int IntKind.i64 a, Value.int IntKind.i64 ra] 60)) (Obj.cells #[Value.int IntKind.i64 b, Value.int IntKind.i64 rb] 60); simpa [BoxE] using this
    have hsz : ((((w1.alloc (Obj.cells #[Value.slice none 0 0] 31)).alloc (Obj.cells #[Value.int IntKind.i64 0] 24)).alloc (Obj.cells #[Value.int IntKind.i64 a, Value.int IntKind.i64 ra] 60)).alloc (Obj.cells #[Value.int IntKind.i64 b, Value.int IntKind.i64 rb] 60)).heap.size = w1.heap.size + 4 := by simp
    have hws := hz1
    clear hc1 hf1 hz1 hz1_0 hz1_1 hz1_2 hz1_0_1 hz1_0_2 hz1_0_3 hz1_1_1 hz1_1_2 hz1_1_3 hz1_2_1 hz1_2_2 hz1_2_3 hb1 d0 g0 d1 g1 d2 g2 d3 g3 d4 g4 d5 g5 d6 g6
    generalize ((((w1.alloc (Obj.cells #[Value.slice none 0 0] 31)).alloc (Obj.cells #[Value.int IntKind.i64 0] 24)).alloc (Obj.cells #[Value.int IntKind.i64 a, Value.int IntKind.i64 ra] 60)).alloc (Obj.cells #[Value.int IntKind.i64 b, Value.int IntKind.i64 rb] 60)) = W0 at *
    generalize w1.heap.size = Bl at *
    refine (wpIn_wide (n := 6)).1 ?_
    obtain ⟨i0, hi0, hz0, hz1, hz2⟩ := info_parts i64_inf
    have hc0 : ∀ l : Nat, True := fun _ => trivial
    refine wpIn_range_m (by omega) (gf := 36) (lb := #[.pointer (some ⟨Bl + 1 + 1, 0, none⟩), .pointer (some ⟨Bl + 1 + 1 + 1, 0, none⟩)]) rfl (enters_of Try.func36 (by kernel_rfl) rfl)
      (B1 := Bl + 1 + 1) (B2 := Bl + 1 + 1 + 1) (N := N + 1) (mu := playMu Bl) (by omega) (by omega)
      (asks_m 5 (by omega) (Bl + 1 + 1) (Bl + 1 + 1 + 1) (N + 1) (playMu Bl) (by omega) (a, ra) (b, rb) W0 hB1 hB2) (fun _ => rfl)
      (playI w Bl N (Bl + 4) n ⟨v, wr, f⟩) (playX w Bl N (Bl + 4) n ⟨v, wr, f⟩) (by rw [hsz]; exact playI_own (by omega)) (by rw [hsz]; exact playX_own (by omega))
      (fun s A p u hp h => playI_far u hws (by omega) (by omega) h) (fun s A h => playI_mu h)
      ⟨okP_nil _, ⟨Nat.zero_le _, Nat.le_of_eq hsz.symm⟩, .slice none 0 0, hmk, ⟨by simp [stOf_nil], .inl ⟨rfl, rfl⟩⟩⟩
      (fun p a' W => ∃ Bx By, Bl + 4 ≤ Bx ∧ Bl + 4 ≤ By ∧ (W.cell? ⟨Bx, 0, none⟩ = some (.int .i64 p.1.1) ∧ W.cell? ⟨Bx, 1, none⟩ = some (.int .i64 p.1.2)) ∧ (W.cell? ⟨By, 0, none⟩ = some (.int .i64 p.2.1) ∧ W.cell? ⟨By, 1, none⟩ = some (.int .i64 p.2.2)) ∧ a' = playA a b ra rb n v wr f e0 e1 w Bl p Bx By)
      (fun p a' s X Y row hs hg hr => by obtain ⟨Bx, By, h1, h2, h3, h4, h5⟩ := hs; exact ⟨Bx, By, h1, h2, playA_own p.1 () X Y row h3 hg hr, playA_own p.2 () X Y row h4 hg hr, h5⟩)
      ?assign ?body ?stop
    case assign =>
      rintro l pre p W K hI hK
      obtain ⟨ho, hN1, lv, hK1, hr⟩ := hI
      have hsW := hN1.2
      unfold encsE
      gi_wp2
      have hb : Below W.heap.size W ((W.alloc (Obj.cells #[Value.int IntKind.i64 p.1.1, Value.int IntKind.i64 p.1.2] 60)).alloc (Obj.cells #[Value.int IntKind.i64 p.2.1, Value.int IntKind.i64 p.2.2] 60)) := ((Below.refl _ _).alloc (Nat.le_refl _) _).alloc (by simp) _
      refine hK _ _ ((keeps_of_below hb (Nat.le_refl _)).from _) (Same2.below hb (by omega) (by omega)) ⟨ho, ⟨hN1.1, Nat.le_trans hsW hb.size⟩, lv, hK1.below hb, row_below hr hb⟩ ⟨W.heap.size, W.heap.size + 1, by omega, by omega, ⟨by go_simp, by go_simp⟩, ⟨by go_simp, by go_simp⟩, rfl⟩
    case body =>
      rintro l pre p a' W hl ⟨ho, hN1, lv, hK1, hr⟩ ⟨Bx, By, hx, hy, ⟨x0, x1⟩, ⟨y0, y1⟩, rfl⟩
      have hd : 1 ≤ 6 - 1 - 1 := by omega
      unfold playA
      obtain ⟨A, cp, rfl⟩ := row_slice hr
      obtain ⟨⟨rv, rw', rf⟩, hrr⟩ : ∃ rr, (stOf ⟨v, wr, f⟩ pre).1 = rr := ⟨_, rfl⟩
      obtain ⟨ls, hls⟩ : ∃ ls, (stOf ⟨v, wr, f⟩ pre).2 = ls := ⟨_, rfl⟩
      obtain ⟨k, hk⟩ : ∃ k, pre.length = k := ⟨_, rfl⟩
      obtain ⟨⟨p1, p2⟩, q1, q2⟩ := p
      have cb := fun w => bal_any rv rw' rf q1 p1 q2 p2 w
      obtain ⟨⟨⟨sv, sw, sf⟩, am, er⟩, hbe⟩ : ∃ t, balT rv rw' rf q1 p1 q2 p2 = t := ⟨_, rfl⟩
      rw [hbe] at cb
      have CB := Lib.hid cb; have HBE := Lib.hid hbe; have HO := Lib.hid ho; have HRR := Lib.hid hrr; have HLS := Lib.hid hls; have HK := Lib.hid hk
      rw [hrr, hk] at hK1
      rw [hls, hk] at hr
      rw [hk] at hN1
      clear cb hbe ho hrr hls hk
      have hK0 := hK1
      unfold playCells playFz at hK1
      simp only [KeptC, List.forall_mem_cons] at hK1; obtain ⟨kb0, ⟨kc0_0, kc0_1, kc0_2, kc0_3, kc0_4, kc0_5, kc0_6, kc0_7, kc0_8, _⟩, ⟨kz0_0, kg0_0⟩, ⟨kz0_1, kg0_1⟩, ⟨kz0_2, kg0_2⟩, ⟨kz0_3, kg0_3⟩, ⟨kz0_4, kg0_4⟩, ⟨kz0_5, kg0_5⟩, ⟨kz0_6, kg0_6⟩, ⟨kz0_7, kg0_7⟩, ⟨kz0_8, kg0_8⟩, _⟩ := hK1
      simp only [] at x0 x1 y0 y1
      have hsW := hN1.2
      have hHR := Lib.hid hr
      clear hr
      by_cases hn1 : n ≤ (k : Int)
      · gi_wp2
        refine ⟨KeepsFrom.refl _ _, rfl, pre, _, .slice A k cp, 0, rfl, HO.out, (by rw [HRR.out]; exact hK0), (by rw [HLS.out, HK.out]; exact hHR.out), .inl ⟨rfl, ?_⟩⟩
        rw [HK.out]
        have h1 := hN1.1
        rw [← hN] at h1 ⊢
        unfold turnsN at *
        omega
      · by_cases hn2 : 100 ≤ (k : Int)
        · gi_wp2
          refine ⟨KeepsFrom.refl _ _, rfl, pre, _, .slice A k cp, 0, rfl, HO.out, (by rw [HRR.out]; exact hK0), (by rw [HLS.out, HK.out]; exact hHR.out), .inl ⟨rfl, ?_⟩⟩
          rw [HK.out]
          have h1 := hN1.1
          rw [← hN] at h1 ⊢
          unfold turnsN at *
          omega
        · have hkN : k < N := by
            rw [← hN]; unfold turnsN; omega
          gi_wp2
          refine ⟨trivial, ?_⟩
          refine (CallsIn.inRound l (callsIn_wide.2 (CB.out _))).mono ?_; rintro e w1 ⟨rfl, hb1⟩
          have hK2 := hK0.below hb1
          have hK3 := hK2
          have hws1 := hb1.size
          have hr1 := row_below hHR.out hb1
          have z0 := (hb1.cell (p := ⟨Bx, 0, none⟩) (cell_lt x0)).trans x0
          clear x0 x1 y0 y1 kc0_0 kc0_1 kc0_2 kc0_3 kc0_4 kc0_5 kc0_6 kc0_7 kc0_8 kz0_0 kz0_1 kz0_2 kz0_3 kz0_4 kz0_5 kz0_6 kz0_7 kz0_8 kg0_0 kg0_1 kg0_2 kg0_3 kg0_4 kg0_5 kg0_6 kg0_7 kg0_8 z0
          unfold playCells playFz at hK2
          simp only [KeptC, List.forall_mem_cons] at hK2; obtain ⟨kb1, ⟨kc1_0, kc1_1, kc1_2, kc1_3, kc1_4, kc1_5, kc1_6, kc1_7, kc1_8, _⟩, ⟨kz1_0, kg1_0⟩, ⟨kz1_1, kg1_1⟩, ⟨kz1_2, kg1_2⟩, ⟨kz1_3, kg1_3⟩, ⟨kz1_4, kg1_4⟩, ⟨kz1_5, kg1_5⟩, ⟨kz1_6, kg1_6⟩, ⟨kz1_7, kg1_7⟩, ⟨kz1_8, kg1_8⟩, _⟩ := hK2
          have hR1 := Lib.hid hr1
          clear hr1
          by_cases her : er = 0
          · subst her
            have hr4 := ((((row_far (p := ⟨w.heap.size, 0, none⟩) hR1.out (.int .i64 sv) (by simp only []; omega)) |> fun h => row_far (p := ⟨w.heap.size, 1, none⟩) h (.int .i64 sw) (by simp only []; omega)) |> fun h => row_far (p := ⟨w.heap.size, 2, none⟩) h (.int .i64 sf) (by simp only []; omega)).alloc (Obj.cells #[.int .i64 sv, .int .i64 sw, .int .i64 sf] 23))
            have hon := cell_one_new ((((w1.setCell ⟨w.heap.size, 0, none⟩ (.int .i64 sv)).setCell ⟨w.heap.size, 1, none⟩ (.int .i64 sw)).setCell ⟨w.heap.size, 2, none⟩ (.int .i64 sf)).alloc (Obj.cells #[.int .i64 sv, .int .i64 sw, .int .i64 sf] 23)) (.int .i64 am) 2
            rw [show ((((w1.setCell ⟨w.heap.size, 0, none⟩ (.int .i64 sv)).setCell ⟨w.heap.size, 1, none⟩ (.int .i64 sw)).setCell ⟨w.heap.size, 2, none⟩ (.int .i64 sf)).alloc (Obj.cells #[.int .i64 sv, .int .i64 sw, .int .i64 sf] 23)).heap.size = w1.heap.size + 1 by simp] at hon
            have hX : Below w.heap.size w (((((w1.setCell ⟨w.heap.size, 0, none⟩ (.int .i64 sv)).setCell ⟨w.heap.size, 1, none⟩ (.int .i64 sw)).setCell ⟨w.heap.size, 2, none⟩ (.int .i64 sf)).alloc (Obj.cells #[.int .i64 sv, .int .i64 sw, .int .i64 sf] 23)).alloc (Obj.cells #[.int .i64 am] 2)) := (by repeat (first | with_reducible refine Below.setCell ?_ (by first | (simp; done) | (simp; omega) | omega) _ | with_reducible refine Below.alloc ?_ (by first | (simp; done) | (simp; omega) | omega) _ | with_reducible refine Below.drew ?_ | with_reducible exact Below.refl _ _ | with_reducible refine Below.trans ?_ (Below.mono kb1 (by first | (simp; done) | (simp; omega) | omega))))
            have hXk : KeptC w (playCells w Bl n ⟨sv, sw, sf⟩ (.slice A k cp) 0) (playFz w Bl) (((((w1.setCell ⟨w.heap.size, 0, none⟩ (.int .i64 sv)).setCell ⟨w.heap.size, 1, none⟩ (.int .i64 sw)).setCell ⟨w.heap.size, 2, none⟩ (.int .i64 sf)).alloc (Obj.cells #[.int .i64 sv, .int .i64 sw, .int .i64 sf] 23)).alloc (Obj.cells #[.int .i64 am] 2)) := by
              unfold playCells playFz; simp only []; exact (by (repeat' (first | refine KeptC.cons ?_ ?_ | refine KeptC.consF ?_ ?_ ?_ | refine KeptC.mk0 ?_)); all_goals (first | with_reducible assumption | (go_simp; done) | (simp; omega) | exact (by repeat (first | with_reducible refine Below.setCell ?_ (by first | (simp; done) | (simp; omega) | omega) _ | with_reducible refine Below.alloc ?_ (by first | (simp; done) | (simp; omega) | omega) _ | with_reducible refine Below.drew ?_ | with_reducible exact Below.refl _ _ | with_reducible refine Below.trans ?_ (Below.mono kb1 (by first | (simp; done) | (simp; omega) | omega))))))
            have hXs : (((((w1.setCell ⟨w.heap.size, 0, none⟩ (.int .i64 sv)).setCell ⟨w.heap.size, 1, none⟩ (.int .i64 sw)).setCell ⟨w.heap.size, 2, none⟩ (.int .i64 sf)).alloc (Obj.cells #[.int .i64 sv, .int .i64 sw, .int .i64 sf] 23)).alloc (Obj.cells #[.int .i64 am] 2)).heap.size = w1.heap.size + 2 := by simp
            have hXo : KeepsOthers W (((((w1.setCell ⟨w.heap.size, 0, none⟩ (.int .i64 sv)).setCell ⟨w.heap.size, 1, none⟩ (.int .i64 sw)).setCell ⟨w.heap.size, 2, none⟩ (.int .i64 sf)).alloc (Obj.cells #[.int .i64 sv, .int .i64 sw, .int .i64 sf] 23)).alloc (Obj.cells #[.int .i64 am] 2)) := (((((keeps_of_below hb1 (Nat.le_refl _)).trans (KeepsOthers.setCell _ _ _)).trans (KeepsOthers.setCell _ _ _)).trans (KeepsOthers.setCell _ _ _)).trans (KeepsOthers.alloc _ _)).trans (KeepsOthers.alloc _ _)
            have hXm : Same2 (Bl + 1 + 1) (Bl + 1 + 1 + 1) W (((((w1.setCell ⟨w.heap.size, 0, none⟩ (.int .i64 sv)).setCell ⟨w.heap.size, 1, none⟩ (.int .i64 sw)).setCell ⟨w.heap.size, 2, none⟩ (.int .i64 sf)).alloc (Obj.cells #[.int .i64 sv, .int .i64 sw, .int .i64 sf] 23)).alloc (Obj.cells #[.int .i64 am] 2)) :=
              (((((Same2.below hb1 (by omega) (by omega)).trans (Same2.set _ _ _ (by show Bl + 1 + 1 ≠ w.heap.size; omega) (by show Bl + 1 + 1 + 1 ≠ w.heap.size; omega))).trans (Same2.set _ _ _ (by show Bl + 1 + 1 ≠ w.heap.size; omega) (by show Bl + 1 + 1 + 1 ≠ w.heap.size; omega))).trans (Same2.set _ _ _ (by show Bl + 1 + 1 ≠ w.heap.size; omega) (by show Bl + 1 + 1 + 1 ≠ w.heap.size; omega))).trans (Same2.alloc _ _ (by simp; omega) (by simp; omega))).trans (Same2.alloc _ _ (by simp; omega) (by simp; omega))
            have HX := Lib.hid hX; have HXK := Lib.hid hXk; have HXS := Lib.hid hXs; have HXO := Lib.hid hXo; have HXM := Lib.hid hXm; have HON := Lib.hid hon; have HR4 := Lib.hid hr4
            clear hX hXk hXs hXo hXm hon hr4
            have hpt : ∀ x ∈ playCells w Bl n ⟨sv, sw, sf⟩ (.slice A k cp) 0, x.1.block < Bl + 4 := by
              intro x hx
              simp only [playCells, List.mem_cons, List.not_mem_nil, or_false] at hx
              rcases hx with rfl | rfl | rfl | rfl | rfl | rfl | rfl | rfl | rfl <;> simp <;> omega
            have hpf : ∀ x ∈ playFz w Bl, x.block < Bl + 4 := by
              intro x hx
              simp only [playFz, List.mem_cons, List.not_mem_nil, or_false] at hx
              rcases hx with rfl | rfl | rfl | rfl | rfl | rfl | rfl | rfl | rfl <;> simp <;> omega
            have HPT := Lib.hid hpt; have HPF := Lib.hid hpf
            clear hpt hpf
            gi_wp2_with (gi_at_builtin; refine wpListIn_append_own _ rfl _ _ 31 rfl (Bl + 4) 2 i0 (.int .i64 0) 1 8 Try.underlying31 hi0 hz0 hz1 hz2 rfl (by decide) _ _ _ rfl (HR4.out.alloc _) ⟨w1.heap.size + 1, 0, none⟩ 1 1 [.int .i64 am] rfl rfl HON.out (by simp [Value.oneCell']) (by simp only [maxLen]; omega) (by omega) (by rw [HXS.out]; omega) ?_; intro v' w3 hown' hgrow _; obtain ⟨g', cap', rfl⟩ := ownsRow_succ hown'; obtain ⟨hb3, hk3⟩ := row_grown (HR4.out.alloc _) hgrow (by rw [HXS.out]; omega); have hK4 := keptC_low HXK.out hb3 (by omega) HPT.out HPF.out; have hK5 := hK4; have hOwn := Lib.hid hown'; have hGrow := Lib.hid hgrow; clear hown' hgrow; unfold playCells playFz at hK4; (simp only [KeptC, List.forall_mem_cons] at hK4; obtain ⟨kb3, ⟨kc3_0, kc3_1, kc3_2, kc3_3, kc3_4, kc3_5, kc3_6, kc3_7, kc3_8, _⟩, ⟨kz3_0, kg3_0⟩, ⟨kz3_1, kg3_1⟩, ⟨kz3_2, kg3_2⟩, ⟨kz3_3, kg3_3⟩, ⟨kz3_4, kg3_4⟩, ⟨kz3_5, kg3_5⟩, ⟨kz3_6, kg3_6⟩, ⟨kz3_7, kg3_7⟩, ⟨kz3_8, kg3_8⟩, _⟩ := hK4))
            have hok := okP_snoc (p := ((p1, p2), q1, q2)) (q := ⟨sv, sw, sf⟩) (am := am) HO.out (by rw [HRR.out]; exact HBE.out)
            rw [HLS.out] at hok
            refine ⟨((HXO.out.trans hk3).trans (KeepsOthers.setCell _ _ _)).from _, (HXM.out.trans (Same2.below hb3 (by omega) (by omega))).trans (Same2.set _ _ _ (by show Bl + 1 + 1 ≠ Bl; omega) (by show Bl + 1 + 1 + 1 ≠ Bl; omega)), hok.1, ⟨by rw [List.length_append, HK.out]; simp; omega, ?_⟩, .slice (some ⟨g', 0, none⟩) (k + 1) cap', ?_, ?_⟩
            · rw [setCell_size]
              have := hb3.size
              rw [HXS.out] at this
              omega
            · rw [hok.2]
              unfold playCells playFz
              simp only []
              exact (by (repeat' (first | refine KeptC.cons ?_ ?_ | refine KeptC.consF ?_ ?_ ?_ | refine KeptC.mk0 ?_)); all_goals (first | with_reducible assumption | (go_simp; done) | (simp; omega) | exact (by repeat (first | with_reducible refine Below.setCell ?_ (by first | (simp; done) | (simp; omega) | omega) _ | with_reducible refine Below.alloc ?_ (by first | (simp; done) | (simp; omega) | omega) _ | with_reducible refine Below.drew ?_ | with_reducible exact Below.refl _ _ | with_reducible refine Below.trans ?_ (Below.mono kb3 (by first | (simp; done) | (simp; omega) | omega))))))
            · rw [hok.2, List.length_append, HK.out, List.map_append]
              exact row_far (p := ⟨Bl, 0, none⟩) hOwn.out _ (by simp only []; omega)
          · gi_wp2
            refine ⟨(((keeps_of_below hb1 (Nat.le_refl _)).trans (KeepsOthers.setCell _ _ _)).trans (KeepsOthers.alloc _ _)).from _, rfl, pre, _, .slice A k cp, er, rfl, HO.out, ?_, ?_, .inr ⟨her, by rw [HK.out]; exact hkN, errP_snoc HO.out her (by rw [HRR.out]; exact HBE.out)⟩⟩
            · rw [HRR.out]
              unfold playCells playFz
              simp only []
              exact (by (repeat' (first | refine KeptC.cons ?_ ?_ | refine KeptC.consF ?_ ?_ ?_ | refine KeptC.mk0 ?_)); all_goals (first | with_reducible assumption | (go_simp; done) | (simp; omega) | exact (by repeat (first | with_reducible refine Below.setCell ?_ (by first | (simp; done) | (simp; omega) | omega) _ | with_reducible refine Below.alloc ?_ (by first | (simp; done) | (simp; omega) | omega) _ | with_reducible refine Below.drew ?_ | with_reducible exact Below.refl _ _ | with_reducible refine Below.trans ?_ (Below.mono kb1 (by first | (simp; done) | (simp; omega) | omega))))))
            · rw [HLS.out, HK.out]
              exact (row_far (p := ⟨Bl + 1, 0, none⟩) hR1.out _ (by simp only []; omega)).alloc _
    case stop =>
      rintro D c pre W hD ⟨i, hp⟩ ⟨rfl, ini, p, lv, e, rfl, ho, hK1, hr, hx⟩ hDd
      rw [altE_succ] at hp
      obtain ⟨hini, hpk⟩ := List.append_inj' hp rfl
      have hpk' : p = pickE (a, ra) (b, rb) i := by simpa using hpk
      clear hp hpk
      obtain ⟨A, cp, rfl⟩ := row_slice hr
      obtain ⟨⟨rv, rw', rf⟩, hrr⟩ : ∃ rr, (stOf ⟨v, wr, f⟩ ini).1 = rr := ⟨_, rfl⟩
      obtain ⟨ls, hls⟩ : ∃ ls, (stOf ⟨v, wr, f⟩ ini).2 = ls := ⟨_, rfl⟩
      obtain ⟨k, hk⟩ : ∃ k, ini.length = k := ⟨_, rfl⟩
      have hll : ls.length = k := by rw [← hls]; exact stOf_len hk ho
      have hres : outP ⟨v, wr, f⟩ (a, ra) (b, rb) (turnsN n) = if e = 0 then (⟨rv, rw', rf⟩, ls, 0) else (⟨0, 0, 0⟩, [], e) := by
        rw [hN]
        rcases hx with ⟨he, hl⟩ | ⟨he, hl, her⟩
        · rw [if_pos he]
          have hiN : i = N := by rw [← hl, hini, altE_len]
          have ho2 := ho
          unfold okP at ho2
          rw [hini] at ho2
          have := outP_ok (N := i) ho2
          rw [← hini, hrr, hls] at this
          rw [← hiN]
          exact this
        · rw [if_neg he]
          refine outP_error (i := i + 1) (by rw [hini, altE_len] at hl; omega) ?_
          rw [altE_succ, ← hini, ← hpk']
          exact her
      rw [hrr, hk] at hK1
      rw [hls, hk] at hr
      have HRES := Lib.hid hres
      have HR := Lib.hid hr; have HLL := Lib.hid hll
      clear hx ho hrr hls hk hini hpk' hres HPL hr hll
      unfold playCells playFz at hK1
      simp only [KeptC, List.forall_mem_cons] at hK1; obtain ⟨kb0, ⟨kc0_0, kc0_1, kc0_2, kc0_3, kc0_4, kc0_5, kc0_6, kc0_7, kc0_8, _⟩, ⟨kz0_0, kg0_0⟩, ⟨kz0_1, kg0_1⟩, ⟨kz0_2, kg0_2⟩, ⟨kz0_3, kg0_3⟩, ⟨kz0_4, kg0_4⟩, ⟨kz0_5, kg0_5⟩, ⟨kz0_6, kg0_6⟩, ⟨kz0_7, kg0_7⟩, ⟨kz0_8, kg0_8⟩, _⟩ := hK1
      have hWs := kb0.size
      have hDb : w.heap.size + 1 + 1 + 1 ≤ D := by omega
      refine wpIn_wide.2 ?_
      dsimp only
      by_cases he : e = 0
      · subst he
        go_wp2
        go_region
        go_wp2
        rw [Exit.noGoto_ret]
        obtain ⟨W2, hW2⟩ : ∃ W2, (((W.setCell ⟨w.heap.size + 1 + 1, 0, none⟩ (.int .i64 rv)).setCell ⟨w.heap.size + 1 + 1, 1, none⟩ (.int .i64 rw')).setCell ⟨w.heap.size + 1 + 1, 2, none⟩ (.int .i64 rf)).drew = W2 := ⟨_, rfl⟩
        have hk2 : KeepsOthers W W2 := by rw [← hW2]; exact (((KeepsOthers.setCell _ _ _).trans (KeepsOthers.setCell _ _ _)).trans (KeepsOthers.setCell _ _ _)).trans (KeepsOthers.drew _)
        have hb2 : Below w.heap.size w W2 := by rw [← hW2]; exact (by repeat (first | with_reducible refine Below.setCell ?_ (by first | (simp; done) | (simp; omega) | omega) _ | with_reducible refine Below.alloc ?_ (by first | (simp; done) | (simp; omega) | omega) _ | with_reducible refine Below.drew ?_ | with_reducible exact Below.refl _ _ | with_reducible refine Below.trans ?_ (Below.mono kb0 (by first | (simp; done) | (simp; omega) | omega))))
        have d0 : W2.cell? ⟨w.heap.size + 1 + 1, 0, none⟩ = some (.int .i64 rv) := by rw [← hW2]; clear hW2; go_simp
        have d1 : W2.cell? ⟨w.heap.size + 1 + 1, 1, none⟩ = some (.int .i64 rw') := by rw [← hW2]; clear hW2; go_simp
        have d2 : W2.cell? ⟨w.heap.size + 1 + 1, 2, none⟩ = some (.int .i64 rf) := by rw [← hW2]; clear hW2; go_simp
        have hrow : W2.ownsRow w.heap.size 2 1 (.slice A k cp) k (ls.map (Value.int .i64)) := by
          rw [← hW2]; exact row_less (row_far (p := ⟨w.heap.size + 1 + 1, 2, none⟩) (row_far (p := ⟨w.heap.size + 1 + 1, 1, none⟩) (row_far (p := ⟨w.heap.size + 1 + 1, 0, none⟩) HR.out _ (by simp only []; omega)) _ (by simp only []; omega)) _ (by simp only []; omega)) (by omega)
        have hK2 := hk2.same D _ hDd rfl
        rw [hW2]
        clear hW2
        have f0 := cell_kept d0 (grownBy_putObj' _ D (.deferred none)) (fun r e => by cases e; exact ⟨_, hK2, rfl⟩)
        have f1 := cell_kept d1 (grownBy_putObj' _ D (.deferred none)) (fun r e => by cases e; exact ⟨_, hK2, rfl⟩)
        have f2 := cell_kept d2 (grownBy_putObj' _ D (.deferred none)) (fun r e => by cases e; exact ⟨_, hK2, rfl⟩)
        refine ⟨by simp, .inl ⟨_, _, rfl, run_takeDeferred hK2, ?_⟩⟩
        refine ⟨.tuple #[.agg #[.int .i64 rv, .int .i64 rw', .int .i64 rf], .slice A k cp, .int .i64 0], by simp [results, Try.results11, go_sem, *], ?_⟩
        have hre := HRES.out
        simp only [if_true] at hre
        rw [hre]
        refine ⟨.slice A k cp, rfl, ?_, hb2.trans (belowK_b (w := w) (Nat.le_refl _) W2 D _ _ (by omega) hK2 rfl rfl)⟩
        rw [HLL.out]
        exact ownsRow_putObj hrow _ hK2 rfl
      · skip
        go_wp2
        go_region
        go_wp2
        rw [Exit.noGoto_ret]
        obtain ⟨W2, hW2⟩ : ∃ W2, (((W.setCell ⟨w.heap.size + 1 + 1, 0, none⟩ (.int .i64 0)).setCell ⟨w.heap.size + 1 + 1, 1, none⟩ (.int .i64 0)).setCell ⟨w.heap.size + 1 + 1, 2, none⟩ (.int .i64 0)).drew = W2 := ⟨_, rfl⟩
        have hk2 : KeepsOthers W W2 := by rw [← hW2]; exact (((KeepsOthers.setCell _ _ _).trans (KeepsOthers.setCell _ _ _)).trans (KeepsOthers.setCell _ _ _)).trans (KeepsOthers.drew _)
        have hb2 : Below w.heap.size w W2 := by rw [← hW2]; exact (by repeat (first | with_reducible refine Below.setCell ?_ (by first | (simp; done) | (simp; omega) | omega) _ | with_reducible refine Below.alloc ?_ (by first | (simp; done) | (simp; omega) | omega) _ | with_reducible refine Below.drew ?_ | with_reducible exact Below.refl _ _ | with_reducible refine Below.trans ?_ (Below.mono kb0 (by first | (simp; done) | (simp; omega) | omega))))
        have d0 : W2.cell? ⟨w.heap.size + 1 + 1, 0, none⟩ = some (.int .i64 0) := by rw [← hW2]; clear hW2; go_simp
        have d1 : W2.cell? ⟨w.heap.size + 1 + 1, 1, none⟩ = some (.int .i64 0) := by rw [← hW2]; clear hW2; go_simp
        have d2 : W2.cell? ⟨w.heap.size + 1 + 1, 2, none⟩ = some (.int .i64 0) := by rw [← hW2]; clear hW2; go_simp
        have hrow : W2.ownsRow w.heap.size 2 1 (.slice none 0 0) 0 (([] : List Int).map (Value.int .i64)) := by
          exact ⟨rfl, .inl ⟨rfl, rfl⟩⟩
        have hK2 := hk2.same D _ hDd rfl
        rw [hW2]
        clear hW2
        have f0 := cell_kept d0 (grownBy_putObj' _ D (.deferred none)) (fun r e => by cases e; exact ⟨_, hK2, rfl⟩)
        have f1 := cell_kept d1 (grownBy_putObj' _ D (.deferred none)) (fun r e => by cases e; exact ⟨_, hK2, rfl⟩)
        have f2 := cell_kept d2 (grownBy_putObj' _ D (.deferred none)) (fun r e => by cases e; exact ⟨_, hK2, rfl⟩)
        refine ⟨by simp, .inl ⟨_, _, rfl, run_takeDeferred hK2, ?_⟩⟩
        refine ⟨.tuple #[.agg #[.int .i64 0, .int .i64 0, .int .i64 0], .slice none 0 0, .int .i64 e], by simp [results, Try.results11, go_sem, *], ?_⟩
        have hre := HRES.out
        rw [if_neg he] at hre
        rw [hre]
        refine ⟨.slice none 0 0, rfl, ?_, hb2.trans (belowK_b (w := w) (Nat.le_refl _) W2 D _ _ (by omega) hK2 rfl rfl)⟩
        skip
        exact ownsRow_putObj hrow _ hK2 rfl
  · rw [if_neg h2] at hpl
    rw [hpl]
    clear hpl
    refine wpIn_wide.2 ?_
    go_wp2
    go_step3
    go_wp2_with (fail)
    refine (C1.out _).mono ?_; rintro e w1 ⟨rfl, hb1⟩; obtain ⟨hc1, hf1⟩ := bcell hb1; have hz1 := hb1.size; (try simp at hz1); have hz1_0 : w.heap.size < w1.heap.size := (by omega); have hz1_0_1 : w.heap.size < w1.heap.size + 1 := (by omega); have hz1_0_2 : w.heap.size < w1.heap.size + 1 + 1 := (by omega); have hz1_0_3 : w.heap.size < w1.heap.size + 1 + 1 + 1 := (by omega); have hz1_1 : w.heap.size + 1 < w1.heap.size := (by omega); have hz1_1_1 : w.heap.size + 1 < w1.heap.size + 1 := (by omega); have hz1_1_2 : w.heap.size + 1 < w1.heap.size + 1 + 1 := (by omega); have hz1_1_3 : w.heap.size + 1 < w1.heap.size + 1 + 1 + 1 := (by omega); have hz1_2 : w.heap.size + 1 + 1 < w1.heap.size := (by omega); have hz1_2_1 : w.heap.size + 1 + 1 < w1.heap.size + 1 := (by omega); have hz1_2_2 : w.heap.size + 1 + 1 < w1.heap.size + 1 + 1 := (by omega); have hz1_2_3 : w.heap.size + 1 + 1 < w1.heap.size + 1 + 1 + 1 := (by omega)
    go_wp2
    rw [Exit.noGoto_ret]
    have e1 : (((w1.setCell ⟨w.heap.size + 1 + 1, 0, none⟩ (.int .i64 0)).setCell ⟨w.heap.size + 1 + 1, 1, none⟩ (.int .i64 0)).setCell ⟨w.heap.size + 1 + 1, 2, none⟩ (.int .i64 0)).cell? ⟨w.heap.size + 1 + 1, 0, none⟩ = some (.int .i64 0) := by go_simp
    refine ⟨.tuple #[.agg #[.int .i64 0, .int .i64 0, .int .i64 0], .slice none 0 0, .int .i64 e2], by simp [results, Try.results11, go_sem, *], .slice none 0 0, rfl, ⟨rfl, .inl ⟨rfl, rfl⟩⟩, (by repeat (first | with_reducible refine Below.setCell ?_ (by first | (simp; done) | (simp; omega) | omega) _ | with_reducible refine Below.alloc ?_ (by first | (simp; done) | (simp; omega) | omega) _ | with_reducible refine Below.drew ?_ | with_reducible exact Below.refl _ _ | with_reducible refine Below.trans ?_ (Below.mono hb1 (by first | (simp; done) | (simp; omega) | omega))))⟩
end Go.Proofs.Ytlcbfabdfpdcgaa
