/- Plain laws of layer 12: what balances and plays leave. No program in sight. -/
import Derived.Test.YtlcbfabdfpdcgaaPlay
namespace Go.Proofs.Ytlcbfabdfpdcgaa
open Go.RowKit
set_option linter.unusedVariables false
theorem out_next {v wr f a b amt k g : Int} (hab : a ≠ b) (hg : g = flowR f a b amt) (hfit : fitB v wr f a b = true) (hfit2 : fitB (v + 1) k g a b = true) : outR (v + 1) k g a b = outR v wr f a b + amt := by
  unfold outR
  rw [if_pos hfit, if_pos hfit2, hg]
  unfold flowR
  rcases Int.lt_or_gt_of_ne hab with hl | hl
  · have h1 : ¬ b < a := by omega
    simp only [if_pos hl, if_neg h1]
  · have h1 : ¬ a < b := by omega
    have hl' : b < a := hl
    simp only [if_pos hl', if_neg h1]; omega
theorem out_flip {v wr f a b : Int} (hab : a ≠ b) (hfit : fitB v wr f a b = true) (hfit2 : fitB v wr f b a = true) : outR v wr f b a = - outR v wr f a b := by
  unfold outR
  rw [if_pos hfit, if_pos hfit2]
  rcases Int.lt_or_gt_of_ne hab with hl | hl
  · have h1 : ¬ b < a := by omega
    simp only [if_pos hl, if_neg h1]
  · have h1 : ¬ a < b := by omega
    have hl' : b < a := hl
    simp only [if_pos hl', if_neg h1]; omega
theorem flow_back {f a b amt : Int} (hab : a ≠ b) : flowR (flowR f a b amt) b a amt = f := by
  unfold flowR
  rcases Int.lt_or_gt_of_ne hab with hl | hl
  · have h1 : ¬ b < a := by omega
    simp only [if_pos hl, if_neg h1]; omega
  · have h1 : ¬ a < b := by omega
    have hl' : b < a := hl
    simp only [if_pos hl', if_neg h1]; omega
theorem moveR_err (r : R) (a b amt k : Int) (h : (moveR r a b amt k).2 ≠ 0) : (moveR r a b amt k).1 = ⟨0, 0, 0⟩ := by
  revert h
  unfold moveR
  split
  · split
    · split
      · intro h; exact absurd rfl h
      · split
        · intro _; rfl
        · intro h; exact absurd rfl h
    · intro _; rfl
  · intro _; rfl
theorem moveR_zero (r : R) (a b k : Int) (h : (moveR r a b 0 k).2 = 0) : (moveR r a b 0 k).1 = r := by
  unfold moveR at *
  repeat' split at h
  all_goals simp_all
theorem moveR_ok (v wr f a b amt k : Int) (h0 : amt ≠ 0) (h : (moveR ⟨v, wr, f⟩ a b amt k).2 = 0) :
    ∃ g, moveR ⟨v, wr, f⟩ a b amt k = (⟨v + 1, k, g⟩, 0) ∧ g = flowR f a b amt ∧ fitB v wr f a b = true ∧ (k = a ∨ k = b) ∧ flowsB amt = true ∧ flowsB g = true ∧ v ≠ 1099511627776 := by
  unfold moveR at *
  repeat' split at h
  all_goals simp_all
theorem fitB_swap (v wr f a b : Int) : fitB v wr f b a = fitB v wr f a b := by
  unfold fitB
  rw [show decide (b = a) = decide (a = b) from by simp [eq_comm], Bool.or_comm (decide (wr = b)), Bool.and_comm (nodeB b)]
theorem fitB_next {v wr f a b k g : Int} (h : fitB v wr f a b = true) (hk : k = a ∨ k = b) (hg : flowsB g = true) (hv : v ≠ 1099511627776) : fitB (v + 1) k g a b = true := by
  have hb := fitB_bd h
  simp only [fitB, Bool.and_eq_true, Bool.or_eq_true, decide_eq_true_eq, Bool.not_eq_true', decide_eq_false_iff_not] at h ⊢
  exact ⟨h.1, .inr ⟨⟨⟨by omega, by omega⟩, hk⟩, hg⟩⟩

theorem endsT_swap (v wr f me peer rest told : Int) : endsT v wr f peer me told rest = ((endsT v wr f me peer rest told).2.1, (endsT v wr f me peer rest told).1, (endsT v wr f me peer rest told).2.2) := by
  unfold endsT
  rw [fitB_comm v wr f peer me]
  cases fitB v wr f me peer with
  | false => rfl
  | true =>
    simp only [if_true]
    rw [Bool.and_comm]
    split <;> rfl
theorem endsT_cases (v wr f me peer rest told : Int) : (endsT v wr f me peer rest told).2.2 = 0 ∨ (endsT v wr f me peer rest told).1 = 0 ∧ (endsT v wr f me peer rest told).2.1 = 0 := by
  unfold endsT
  split
  · split
    · exact .inl rfl
    · exact .inr ⟨rfl, rfl⟩
  · exact .inr ⟨rfl, rfl⟩
theorem fitB_ne {v wr f a b : Int} (h : fitB v wr f a b = true) : a ≠ b := by
  intro e
  subst e
  simp [fitB] at h
theorem flowsB_neg (a : Int) : flowsB (-a) = flowsB a := by
  rw [Bool.eq_iff_iff, flowsB_def, flowsB_def]
  omega
theorem flowR_turn {f a b amt : Int} (h : a ≠ b) : flowR f b a (-amt) = flowR f a b amt := by
  unfold flowR
  rcases Int.lt_or_gt_of_ne h with hl | hl
  · have h1 : ¬ b < a := by omega
    simp only [if_pos hl, if_neg h1]; omega
  · have h1 : ¬ a < b := by omega
    have hl' : b < a := hl
    simp only [if_pos hl', if_neg h1]; omega
/-- A move and the same one told from the other end. -/
theorem moveR_turn (r : R) (a b amt : Int) : (moveR r b a (-amt) a).1.ver = (moveR r a b amt b).1.ver ∧ (moveR r b a (-amt) a).1.flow = (moveR r a b amt b).1.flow ∧ (moveR r b a (-amt) a).2 = (moveR r a b amt b).2 := by
  unfold moveR
  rw [fitB_comm r.ver r.wr r.flow b a, flowsB_neg]
  cases h : fitB r.ver r.wr r.flow a b with
  | false => exact ⟨rfl, rfl, rfl⟩
  | true =>
    rw [flowR_turn (fitB_ne h)]
    have h0 : (-amt = 0) ↔ (amt = 0) := by omega
    simp only [decide_true, Bool.or_true, Bool.and_true, if_true, h0]
    split
    · split
      · exact ⟨rfl, rfl, rfl⟩
      · split
        · exact ⟨rfl, rfl, rfl⟩
        · exact ⟨rfl, rfl, rfl⟩
    · exact ⟨rfl, rfl, rfl⟩
theorem balT_def {v wr f me peer rest told x y e : Int} (h : endsT v wr f me peer rest told = (x, y, e)) : balT v wr f me peer rest told =
    if e = 0 then if (moveR ⟨v, wr, f⟩ peer me ((y - x).tdiv 2) me).2 = 0 then ((moveR ⟨v, wr, f⟩ peer me ((y - x).tdiv 2) me).1, (y - x).tdiv 2, 0) else (⟨0, 0, 0⟩, 0, (moveR ⟨v, wr, f⟩ peer me ((y - x).tdiv 2) me).2) else (⟨0, 0, 0⟩, 0, e) := by
  unfold balT; rw [h]
theorem half_neg (x y : Int) : (x - y).tdiv 2 = -((y - x).tdiv 2) := by
  rw [← Int.neg_tdiv]; congr 1; omega
/-- The other end's balance. -/
theorem balT_turn (v wr f me peer rest told : Int) : (balT v wr f peer me told rest).1.ver = (balT v wr f me peer rest told).1.ver ∧ (balT v wr f peer me told rest).1.flow = (balT v wr f me peer rest told).1.flow ∧ (balT v wr f me peer rest told).2.1 = -(balT v wr f peer me told rest).2.1 ∧ (balT v wr f peer me told rest).2.2 = (balT v wr f me peer rest told).2.2 := by
  obtain ⟨⟨x, y, e⟩, he⟩ : ∃ t, endsT v wr f me peer rest told = t := ⟨_, rfl⟩
  have hs := endsT_swap v wr f me peer rest told
  rw [he] at hs
  rw [balT_def he, balT_def hs, half_neg]
  obtain ⟨m1, m2, m3⟩ := moveR_turn ⟨v, wr, f⟩ peer me ((y - x).tdiv 2)
  rw [m3]
  split
  · split
    · exact ⟨m1, m2, by simp, rfl⟩
    · exact ⟨rfl, rfl, rfl, rfl⟩
  · exact ⟨rfl, rfl, rfl, rfl⟩
theorem balT_err {v wr f me peer rest told : Int} (h : (balT v wr f me peer rest told).2.2 ≠ 0) : (balT v wr f me peer rest told).1 = ⟨0, 0, 0⟩ ∧ (balT v wr f me peer rest told).2.1 = 0 := by
  revert h
  unfold balT
  split
  · split
    · intro h; exact absurd rfl h
    · intro _; exact ⟨rfl, rfl⟩
  · intro _; exact ⟨rfl, rfl⟩
theorem half_cases {x y n : Int} (h : n = (y - x).tdiv 2) : (0 ≤ y - x → 0 ≤ n ∧ 0 ≤ y - x - 2 * n ∧ y - x - 2 * n ≤ 1) ∧ (y - x ≤ 0 → n ≤ 0 ∧ y - x - 2 * n ≤ 0 ∧ -1 ≤ y - x - 2 * n) := by
  subst h
  rw [Int.tdiv_eq_ediv]
  have : Int.sign 2 = 1 := rfl
  rw [this]
  constructor
  · intro h; rw [if_pos (.inl h)]; omega
  · intro h
    split
    · rename_i h2
      rcases h2 with h2 | h2
      · omega
      · omega
    · omega
/-- What a balance that goes leaves: the ends behind it, and the register when something goes. -/
theorem bal_ok {v wr f me peer rest told v2 w2 f2 n : Int} (h : balT v wr f me peer rest told = (⟨v2, w2, f2⟩, n, 0)) :
    ∃ x y, endsT v wr f me peer rest told = (x, y, 0) ∧ endsT v2 w2 f2 me peer rest told = (x + n, y - n, 0) ∧ n = (y - x).tdiv 2 ∧ (n = 0 → v2 = v ∧ w2 = wr ∧ f2 = f) ∧ (n ≠ 0 → v2 = v + 1 ∧ w2 = me) := by
  obtain ⟨⟨x, y, e⟩, he⟩ : ∃ t, endsT v wr f me peer rest told = t := ⟨_, rfl⟩
  rw [balT_def he] at h
  split at h
  · rename_i h0
    subst h0
    split at h
    · rename_i hm
      simp only [Prod.mk.injEq] at h
      obtain ⟨h1, h2, _⟩ := h
      refine ⟨x, y, he, ?_⟩
      rw [h2] at h1 hm
      have hh := half_cases h2.symm
      rcases Decidable.em (n = 0) with hn | hn
      · have hz := hn
        rw [hn] at h1 hm
        rw [moveR_zero _ _ _ _ hm] at h1
        simp only [R.mk.injEq] at h1
        obtain ⟨rfl, rfl, rfl⟩ := h1
        subst hz
        refine ⟨?_, h2.symm, fun _ => ⟨rfl, rfl, rfl⟩, fun hc => absurd rfl hc⟩
        rw [he]; simp
      · obtain ⟨g, hg, hgf, hfit, hk, hfn, hfg, hv⟩ := moveR_ok v wr f peer me n me hn hm
        rw [hg] at h1
        simp only [R.mk.injEq] at h1
        obtain ⟨rfl, rfl, rfl⟩ := h1
        refine ⟨?_, h2.symm, fun hc => absurd hc hn, fun _ => ⟨rfl, rfl⟩⟩
        have hfit2 : fitB (v + 1) me g peer me = true := fitB_next hfit hk hfg hv
        have hne := fitB_ne hfit
        have ho := out_next hne hgf hfit hfit2
        have hfit' : fitB v wr f me peer = true := by rw [fitB_comm]; exact hfit
        have hfit2' : fitB (v + 1) me g me peer = true := by rw [fitB_comm]; exact hfit2
        have hfl := out_flip hne hfit hfit'
        have hfl2 := out_flip hne hfit2 hfit2'
        obtain ⟨fx, fy⟩ := ends_fits he
        obtain ⟨x1, x2⟩ := flowsB_def.1 fx
        obtain ⟨y1, y2⟩ := flowsB_def.1 fy
        have hx : x = rest - outR v wr f me peer ∧ y = told - outR v wr f peer me ∧ flowsB rest = true ∧ flowsB told = true := by
          unfold endsT at he
          rw [hfit'] at he
          simp only [if_true] at he
          split at he
          · rename_i hc
            simp only [Bool.and_eq_true] at hc
            simp only [Prod.mk.injEq] at he
            exact ⟨he.1.symm, he.2.1.symm, hc.1.1, hc.2.1⟩
          · simp at he
        obtain ⟨hx1, hx2, hx3, hx4⟩ := hx
        unfold endsT
        rw [hfit2', hfl2, ho]
        have q1 : rest - -(outR v wr f peer me + n) = x + n := by omega
        have q2 : told - (outR v wr f peer me + n) = y - n := by omega
        have p1 : flowsB (x + n) = true := by rw [flowsB_def]; omega
        have p2 : flowsB (y - n) = true := by rw [flowsB_def]; omega
        rw [q1, q2, hx3, hx4, p1, p2]
        rfl
    · rename_i hm
      simp only [Prod.mk.injEq] at h
      exact absurd h.2.2 hm
  · rename_i hc
    simp only [Prod.mk.injEq] at h
    exact absurd h.2.2 hc
/-- Behind a balance the ends differ by 1 at most, lie between those of ahead, and have the same sum. -/
theorem bal_between {x y n : Int} (h : n = (y - x).tdiv 2) : (x + n) - (y - n) ≤ 1 ∧ (y - n) - (x + n) ≤ 1 ∧ min x y ≤ min (x + n) (y - n) ∧ max (x + n) (y - n) ≤ max x y := by
  have := half_cases h
  omega
theorem half_small {c d : Int} (h1 : c - d ≤ 1) (h2 : d - c ≤ 1) : (d - c).tdiv 2 = 0 := by
  have := half_cases (x := c) (y := d) rfl
  omega
/-- A balance of ends that differ by 1 at most moves nothing. -/
theorem bal_small {v wr f me peer rest told c d : Int} {q : R} {am : Int} (he : endsT v wr f me peer rest told = (c, d, 0)) (h1 : c - d ≤ 1) (h2 : d - c ≤ 1) (hb : balT v wr f me peer rest told = (q, am, 0)) : q = ⟨v, wr, f⟩ ∧ am = 0 := by
  rw [balT_def he, half_small h1 h2] at hb
  simp only [if_true] at hb
  split at hb
  · rename_i hm
    simp only [Prod.mk.injEq] at hb
    rw [moveR_zero _ _ _ _ hm] at hb
    exact ⟨hb.1.symm, hb.2.1.symm⟩
  · rename_i hm
    simp only [Prod.mk.injEq] at hb
    exact absurd hb.2.2 hm
/-- One turn more. -/
theorem okP_last {r0 : R} {ini : List (EndN × EndN)} {p : EndN × EndN} (ho : okP r0 (ini ++ [p])) : okP r0 ini ∧ ∃ q am, balT (stOf r0 ini).1.ver (stOf r0 ini).1.wr (stOf r0 ini).1.flow p.2.1 p.1.1 p.2.2 p.1.2 = (q, am, 0) ∧ stOf r0 (ini ++ [p]) = (q, (stOf r0 ini).2 ++ [am]) := by
  have oi : okP r0 ini := by
    unfold okP stOf
    cases hr : runP r0 ini with
    | ok s => rfl
    | error e =>
      have := runP_error (rest := [p]) hr
      unfold okP at ho
      rw [this] at ho
      cases ho
  obtain ⟨⟨q, am, e⟩, hb⟩ : ∃ t, balT (stOf r0 ini).1.ver (stOf r0 ini).1.wr (stOf r0 ini).1.flow p.2.1 p.1.1 p.2.2 p.1.2 = t := ⟨_, rfl⟩
  by_cases he : e = 0
  · subst he
    exact ⟨oi, q, am, hb, (okP_snoc oi hb).2⟩
  · have := errP_snoc oi he hb
    unfold okP at ho
    rw [this] at ho
    cases ho
/-- But for the first turn nothing goes. -/
theorem play_zero (r0 : R) (a b ra rb : Int) : ∀ k, okP r0 (altE (a, ra) (b, rb) (k + 1)) →
    ∃ n0 c d, (stOf r0 (altE (a, ra) (b, rb) (k + 1))).2 = n0 :: List.replicate k 0 ∧ endsT (stOf r0 (altE (a, ra) (b, rb) (k + 1))).1.ver (stOf r0 (altE (a, ra) (b, rb) (k + 1))).1.wr (stOf r0 (altE (a, ra) (b, rb) (k + 1))).1.flow a b ra rb = (c, d, 0) ∧ c - d ≤ 1 ∧ d - c ≤ 1
  | 0, h => by
    rw [altE_succ] at h ⊢
    obtain ⟨_, ⟨v2, w2, f2⟩, am, hb, hs⟩ := okP_last h
    rw [hs]
    have e0 : altE (a, ra) (b, rb) 0 = [] := rfl
    rw [e0] at hb ⊢
    have ep : pickE (a, ra) (b, rb) 0 = ((a, ra), (b, rb)) := rfl
    rw [ep, stOf_nil] at hb
    rw [stOf_nil]
    simp only [] at hb ⊢
    obtain ⟨x, y, _, h2, h3, _⟩ := bal_ok hb
    have hw := endsT_swap v2 w2 f2 b a rb ra
    rw [h2] at hw
    obtain ⟨b1, b2, _⟩ := bal_between h3
    exact ⟨am, y - am, x + am, by simp, hw, b2, b1⟩
  | k + 1, h => by
    rw [altE_succ] at h ⊢
    obtain ⟨h0, ⟨v2, w2, f2⟩, am, hb, hs⟩ := okP_last h
    obtain ⟨n0, c, d, i1, i2, i3, i4⟩ := play_zero r0 a b ra rb k h0
    rw [hs]
    generalize stOf r0 (altE (a, ra) (b, rb) (k + 1)) = S at *
    obtain ⟨⟨v1, w1, f1⟩, l1⟩ := S
    simp only [] at i1 i2 hb ⊢
    have hw := endsT_swap v1 w1 f1 a b ra rb
    rw [i2] at hw
    have hq : (⟨v2, w2, f2⟩ : R) = ⟨v1, w1, f1⟩ ∧ am = 0 := by
      unfold pickE at hb
      split at hb
      · exact bal_small hw i4 i3 hb
      · exact bal_small i2 i3 i4 hb
    obtain ⟨hq1, hq2⟩ := hq
    simp only [R.mk.injEq] at hq1
    obtain ⟨rfl, rfl, rfl⟩ := hq1
    refine ⟨n0, c, d, ?_, i2, i3, i4⟩
    rw [i1, hq2, List.replicate_succ']
    rfl
theorem playT_rest (a b : Int) (r0 : R) (ra rb n : Int) (i : Nat) (hi : 0 < i) (x : Int) (hx : (playT a b r0 ra rb n).2.1[i]? = some x) : x = 0 := by
  unfold playT at hx
  split at hx
  · unfold outP at hx
    split at hx
    · rename_i s hs
      obtain ⟨N, hN⟩ : ∃ N, turnsN n = N := ⟨_, rfl⟩
      rw [hN] at hs
      cases N with
      | zero =>
        have e0 : altE (a, ra) (b, rb) 0 = [] := rfl
        rw [e0] at hs
        have : s = (r0, []) := by
          have h2 : runP r0 [] = .ok (r0, []) := rfl
          rw [h2] at hs
          exact (Except.ok.inj hs).symm
        rw [this] at hx
        simp at hx
      | succ k =>
        have hst : stOf r0 (altE (a, ra) (b, rb) (k + 1)) = s := by unfold stOf; rw [hs]
        have hok : okP r0 (altE (a, ra) (b, rb) (k + 1)) := by unfold okP; rw [hst]; exact hs
        obtain ⟨n0, c, d, i1, _⟩ := play_zero r0 a b ra rb k hok
        rw [hst] at i1
        simp only [] at hx
        rw [i1] at hx
        obtain ⟨j, rfl⟩ : ∃ j, i = j + 1 := ⟨i - 1, by omega⟩
        rw [List.getElem?_cons_succ, List.getElem?_replicate] at hx
        split at hx
        · exact (Option.some.inj hx).symm
        · cases hx
    · simp at hx
  · simp at hx
/-- The plain law on the squares. -/
theorem sq_loses {x y n : Int} (h : n = (y - x).tdiv 2) (h0 : n ≠ 0) : (x + n) * (x + n) + (y - n) * (y - n) + 2 ≤ x * x + y * y := by
  have hc := half_cases h
  have e : x * x + y * y - ((x + n) * (x + n) + (y - n) * (y - n)) = 2 * (n * (y - x - n)) := by
    grind
  have h1 : 1 ≤ n * (y - x - n) := by
    rcases Int.lt_or_gt_of_ne h0 with hl | hl
    · have : 1 * 1 ≤ (-n) * (-(y - x - n)) := Int.mul_le_mul (by omega) (by omega) (by omega) (by omega)
      rw [Int.neg_mul_neg] at this
      omega
    · have : 1 * 1 ≤ n * (y - x - n) := Int.mul_le_mul (by omega) (by omega) (by omega) (by omega)
      omega
  omega
theorem bal_flows (v wr f me peer rest told : Int) : flowsB (balT v wr f me peer rest told).2.1 = true := by
  obtain ⟨⟨x, y, e⟩, he⟩ : ∃ t, endsT v wr f me peer rest told = t := ⟨_, rfl⟩
  rw [balT_def he]
  split
  · rename_i h0
    subst h0
    split
    · obtain ⟨fx, fy⟩ := ends_fits he
      obtain ⟨x1, x2⟩ := flowsB_def.1 fx
      obtain ⟨y1, y2⟩ := flowsB_def.1 fy
      rw [flowsB_def]
      exact half_bd y1 y2 x1 x2
    · rfl
  · rfl
theorem playT_len (a b : Int) (r0 : R) (ra rb n : Int) : (playT a b r0 ra rb n).2.1.length ≤ 100 := by
  unfold playT
  split
  · unfold outP
    split
    · rename_i s hs
      have hst : stOf r0 (altE (a, ra) (b, rb) (turnsN n)) = s := by unfold stOf; rw [hs]
      have hok : okP r0 (altE (a, ra) (b, rb) (turnsN n)) := by unfold okP; rw [hst]; exact hs
      have := stOf_len (altE_len _ _ _) hok
      rw [hst] at this
      simp only []
      rw [this]
      unfold turnsN
      omega
    · exact Nat.zero_le _
  · exact Nat.zero_le _
end Go.Proofs.Ytlcbfabdfpdcgaa
