/- The functions of layer 12 (trade) and of its reference: Ends and Balance: what each call computes, for every argument. -/
import Derived.Test.YtlcbfabdfpdcgaaNum
namespace Go.Proofs.Ytlcbfabdfpdcgaa
open Go.RowKit
/-- Both ends' estimates, and the error's number. -/
def endsT (v wr f me peer rest told : Int) : Int × Int × Int :=
  if fitB v wr f me peer then
    if (flowsB rest && flowsB (rest - outR v wr f me peer)) && (flowsB told && flowsB (told - outR v wr f peer me)) then (rest - outR v wr f me peer, told - outR v wr f peer me, 0) else (0, 0, 10)
  else (0, 0, 31)
theorem fitB_comm (v wr f a b : Int) : fitB v wr f a b = fitB v wr f b a := by
  unfold fitB
  rw [Bool.eq_iff_iff]
  simp
  grind
theorem outR_flows {v wr f a b : Int} (h : fitB v wr f a b = true) : flowsB (outR v wr f a b) = true := by
  obtain ⟨_, _, h3, h4⟩ := fitB_bd h
  unfold outR
  rw [if_pos h, flowsB_def]
  split <;> omega
theorem ends_cases (v wr f me peer rest told : Int) :
    (fitB v wr f me peer = false ∧ endsT v wr f me peer rest told = (0, 0, 31)) ∨
    (fitB v wr f me peer = true ∧ fitB v wr f peer me = true ∧ ∃ o q : Int, outR v wr f me peer = o ∧ outR v wr f peer me = q ∧ flowsB o = true ∧ flowsB q = true ∧
      endsT v wr f me peer rest told = (if (flowsB rest && flowsB (rest - o)) && (flowsB told && flowsB (told - q)) then (rest - o, told - q, 0) else (0, 0, 10))) := by
  cases h : fitB v wr f me peer with
  | false => exact .inl ⟨rfl, by unfold endsT; rw [h]; rfl⟩
  | true =>
    have h' : fitB v wr f peer me = true := by rw [← fitB_comm]; exact h
    exact .inr ⟨rfl, h', _, _, rfl, rfl, outR_flows h, outR_flows h', by unfold endsT; rw [h]; rfl⟩
set_option maxHeartbeats 4000000 in
theorem ends_any (v wr f me peer rest told : Int) (w : World) :
    Calls Try.prog 13 #[.int .i64 me, .int .i64 peer, .agg #[.int .i64 v, .int .i64 wr, .int .i64 f], .int .i64 rest, .int .i64 told] w fun e w' => e = .returned (.tuple #[.int .i64 (endsT v wr f me peer rest told).1, .int .i64 (endsT v wr f me peer rest told).2.1, .int .i64 (endsT v wr f me peer rest told).2.2]) ∧ Below w.heap.size w w' := by
  rcases ends_cases v wr f me peer rest told with ⟨h, he⟩ | ⟨h, h', o, q, ho, hq, fo, fq, he⟩
  · rw [he]
    have c1 := fun w => fit_any v wr f me peer w
    rw [h] at c1
    have C1 := Lib.hid c1
    clear c1 h he
    go_enter Try.func13, Try.ntmps13
    go_wp2_with (fail)
    refine (C1.out _).mono ?_; rintro e w1 ⟨rfl, hb1⟩; obtain ⟨hc1, hf1⟩ := bcell hb1; have hz1 := hb1.size; (try simp at hz1); have hz1_0 : w.heap.size < w1.heap.size := (by omega)
    go_wp2
    refine bodyPost_ret (v := .tuple #[.int .i64 0, .int .i64 0, .int .i64 31]) (by simp [results, Try.results13, go_sem, *]) rfl ⟨rfl, (by repeat (first | with_reducible refine Below.setCell ?_ (by first | (simp; done) | (simp; omega) | omega) _ | with_reducible refine Below.alloc ?_ (by first | (simp; done) | (simp; omega) | omega) _ | with_reducible refine Below.drew ?_ | with_reducible exact Below.refl _ _ | with_reducible refine Below.trans ?_ (Below.mono hb1 (by first | (simp; done) | (simp; omega) | omega))))⟩
  · rw [he]
    have c1 := fun w => fit_any v wr f me peer w
    have c2 := fun w => out_any v wr f me peer w
    have c3 := fun w => out_any v wr f peer me w
    have c4 := fun w => nsub_any rest o w
    have c5 := fun w => nsub_any told q w
    rw [h] at c1
    rw [ho] at c2
    rw [hq] at c3
    have e4 : subN rest o = if flowsB rest && flowsB (rest - o) then (rest - o, 0) else (0, 10) := by unfold subN chk; rw [fo, Bool.and_true]
    have e5 : subN told q = if flowsB told && flowsB (told - q) then (told - q, 0) else (0, 10) := by unfold subN chk; rw [fq, Bool.and_true]
    rw [e4] at c4
    rw [e5] at c5
    generalize rest - o = x at *
    generalize told - q = y at *
    cases hx : flowsB rest && flowsB x with
    | false =>
      rw [hx] at c4
      cases hy : flowsB told && flowsB y
      all_goals
        rw [hy] at c5
        have C1 := Lib.hid c1; have C2 := Lib.hid c2; have C3 := Lib.hid c3; have C4 := Lib.hid c4; have C5 := Lib.hid c5
        clear c1 c2 c3 c4 c5 e4 e5 hx hy h h' ho hq fo fq he
        go_enter Try.func13, Try.ntmps13
        go_wp2_with (fail)
        refine (C1.out _).mono ?_; rintro e w1 ⟨rfl, hb1⟩; obtain ⟨hc1, hf1⟩ := bcell hb1; have hz1 := hb1.size; (try simp at hz1); have hz1_0 : w.heap.size < w1.heap.size := (by omega)
        go_wp2_with (fail)
        refine (C2.out _).mono ?_; rintro e w2 ⟨rfl, hb2⟩; obtain ⟨hc2, hf2⟩ := bcell hb2; have hz2 := hb2.size; (try simp at hz2); have hz2_0 : w.heap.size < w2.heap.size := (by omega)
        go_wp2_with (fail)
        refine (C4.out _).mono ?_; rintro e w' ⟨rfl, rfl⟩
        go_wp2_with (fail)
        refine (C3.out _).mono ?_; rintro e w3 ⟨rfl, hb3⟩; obtain ⟨hc3, hf3⟩ := bcell hb3; have hz3 := hb3.size; (try simp at hz3); have hz3_0 : w.heap.size < w3.heap.size := (by omega)
        go_wp2_with (fail)
        refine (C5.out _).mono ?_; rintro e w' ⟨rfl, rfl⟩
        go_wp2
        refine bodyPost_ret (v := .tuple #[.int .i64 0, .int .i64 0, .int .i64 10]) (by simp [results, Try.results13, go_sem, *]) rfl ⟨rfl, (by repeat (first | with_reducible refine Below.setCell ?_ (by first | (simp; done) | (simp; omega) | omega) _ | with_reducible refine Below.alloc ?_ (by first | (simp; done) | (simp; omega) | omega) _ | with_reducible refine Below.drew ?_ | with_reducible exact Below.refl _ _ | with_reducible refine Below.trans ?_ (Below.mono hb1 (by first | (simp; done) | (simp; omega) | omega)) | with_reducible refine Below.trans ?_ (Below.mono hb2 (by first | (simp; done) | (simp; omega) | omega)) | with_reducible refine Below.trans ?_ (Below.mono hb3 (by first | (simp; done) | (simp; omega) | omega))))⟩
    | true =>
      rw [hx] at c4
      cases hy : flowsB told && flowsB y with
      | false =>
        rw [hy] at c5
        have C1 := Lib.hid c1; have C2 := Lib.hid c2; have C3 := Lib.hid c3; have C4 := Lib.hid c4; have C5 := Lib.hid c5
        clear c1 c2 c3 c4 c5 e4 e5 hx hy h h' ho hq fo fq he
        go_enter Try.func13, Try.ntmps13
        go_wp2_with (fail)
        refine (C1.out _).mono ?_; rintro e w1 ⟨rfl, hb1⟩; obtain ⟨hc1, hf1⟩ := bcell hb1; have hz1 := hb1.size; (try simp at hz1); have hz1_0 : w.heap.size < w1.heap.size := (by omega)
        go_wp2_with (fail)
        refine (C2.out _).mono ?_; rintro e w2 ⟨rfl, hb2⟩; obtain ⟨hc2, hf2⟩ := bcell hb2; have hz2 := hb2.size; (try simp at hz2); have hz2_0 : w.heap.size < w2.heap.size := (by omega)
        go_wp2_with (fail)
        refine (C4.out _).mono ?_; rintro e w' ⟨rfl, rfl⟩
        go_wp2_with (fail)
        refine (C3.out _).mono ?_; rintro e w3 ⟨rfl, hb3⟩; obtain ⟨hc3, hf3⟩ := bcell hb3; have hz3 := hb3.size; (try simp at hz3); have hz3_0 : w.heap.size < w3.heap.size := (by omega)
        go_wp2_with (fail)
        refine (C5.out _).mono ?_; rintro e w' ⟨rfl, rfl⟩
        go_wp2
        refine bodyPost_ret (v := .tuple #[.int .i64 0, .int .i64 0, .int .i64 10]) (by simp [results, Try.results13, go_sem, *]) rfl ⟨rfl, (by repeat (first | with_reducible refine Below.setCell ?_ (by first | (simp; done) | (simp; omega) | omega) _ | with_reducible refine Below.alloc ?_ (by first | (simp; done) | (simp; omega) | omega) _ | with_reducible refine Below.drew ?_ | with_reducible exact Below.refl _ _ | with_reducible refine Below.trans ?_ (Below.mono hb1 (by first | (simp; done) | (simp; omega) | omega)) | with_reducible refine Below.trans ?_ (Below.mono hb2 (by first | (simp; done) | (simp; omega) | omega)) | with_reducible refine Below.trans ?_ (Below.mono hb3 (by first | (simp; done) | (simp; omega) | omega))))⟩
      | true =>
        rw [hy] at c5
        have C1 := Lib.hid c1; have C2 := Lib.hid c2; have C3 := Lib.hid c3; have C4 := Lib.hid c4; have C5 := Lib.hid c5
        clear c1 c2 c3 c4 c5 e4 e5 hx hy h h' ho hq fo fq he
        go_enter Try.func13, Try.ntmps13
        go_wp2_with (fail)
        refine (C1.out _).mono ?_; rintro e w1 ⟨rfl, hb1⟩; obtain ⟨hc1, hf1⟩ := bcell hb1; have hz1 := hb1.size; (try simp at hz1); have hz1_0 : w.heap.size < w1.heap.size := (by omega)
        go_wp2_with (fail)
        refine (C2.out _).mono ?_; rintro e w2 ⟨rfl, hb2⟩; obtain ⟨hc2, hf2⟩ := bcell hb2; have hz2 := hb2.size; (try simp at hz2); have hz2_0 : w.heap.size < w2.heap.size := (by omega)
        go_wp2_with (fail)
        refine (C4.out _).mono ?_; rintro e w' ⟨rfl, rfl⟩
        go_wp2_with (fail)
        refine (C3.out _).mono ?_; rintro e w3 ⟨rfl, hb3⟩; obtain ⟨hc3, hf3⟩ := bcell hb3; have hz3 := hb3.size; (try simp at hz3); have hz3_0 : w.heap.size < w3.heap.size := (by omega)
        go_wp2_with (fail)
        refine (C5.out _).mono ?_; rintro e w' ⟨rfl, rfl⟩
        go_wp2
        refine bodyPost_ret (v := .tuple #[.int .i64 x, .int .i64 y, .int .i64 0]) (by simp [results, Try.results13, go_sem, *]) rfl ⟨rfl, (by repeat (first | with_reducible refine Below.setCell ?_ (by first | (simp; done) | (simp; omega) | omega) _ | with_reducible refine Below.alloc ?_ (by first | (simp; done) | (simp; omega) | omega) _ | with_reducible refine Below.drew ?_ | with_reducible exact Below.refl _ _ | with_reducible refine Below.trans ?_ (Below.mono hb1 (by first | (simp; done) | (simp; omega) | omega)) | with_reducible refine Below.trans ?_ (Below.mono hb2 (by first | (simp; done) | (simp; omega) | omega)) | with_reducible refine Below.trans ?_ (Below.mono hb3 (by first | (simp; done) | (simp; omega) | omega))))⟩
set_option maxHeartbeats 4000000 in
theorem rends_any (v wr f me peer rest told : Int) (w : World) :
    Calls Try.prog 14 #[.int .i64 me, .int .i64 peer, .agg #[.int .i64 v, .int .i64 wr, .int .i64 f], .int .i64 rest, .int .i64 told] w fun e w' => e = .returned (.tuple #[.int .i64 (endsT v wr f me peer rest told).1, .int .i64 (endsT v wr f me peer rest told).2.1, .int .i64 (endsT v wr f me peer rest told).2.2]) ∧ Below w.heap.size w w' := by
  rcases ends_cases v wr f me peer rest told with ⟨h, he⟩ | ⟨h, h', o, q, ho, hq, fo, fq, he⟩
  · rw [he]
    have c1 := fun w => rfit_any v wr f me peer w
    rw [h] at c1
    have C1 := Lib.hid c1
    clear c1 h he
    go_enter Try.func14, Try.ntmps14
    go_wp2_with (fail)
    refine (C1.out _).mono ?_; rintro e w1 ⟨rfl, hb1⟩; obtain ⟨hc1, hf1⟩ := bcell hb1; have hz1 := hb1.size; (try simp at hz1); have hz1_0 : w.heap.size < w1.heap.size := (by omega)
    go_wp2
    all_goals refine bodyPost_ret (v := .tuple #[.int .i64 0, .int .i64 0, .int .i64 31]) (by simp [results, Try.results14, go_sem, *]) rfl ⟨rfl, (by repeat (first | with_reducible refine Below.setCell ?_ (by first | (simp; done) | (simp; omega) | omega) _ | with_reducible refine Below.alloc ?_ (by first | (simp; done) | (simp; omega) | omega) _ | with_reducible refine Below.drew ?_ | with_reducible exact Below.refl _ _ | with_reducible refine Below.trans ?_ (Below.mono hb1 (by first | (simp; done) | (simp; omega) | omega))))⟩
  · rw [he]
    have c1 := fun w => rfit_any v wr f me peer w
    have c2 := fun w => rout_any v wr f me peer w
    have c3 := fun w => rout_any v wr f peer me w
    have c4 := fun w => nrfits_any rest w
    have c5 := fun w => nrfits_any told w
    have c6 := fun w => nrfits_any (rest - o) w
    have c7 := fun w => nrfits_any (told - q) w
    obtain ⟨o1, o2⟩ := flowsB_def.1 fo
    obtain ⟨q1, q2⟩ := flowsB_def.1 fq
    rw [h] at c1
    rw [ho] at c2
    rw [hq] at c3
    have C1 := Lib.hid c1; have C2 := Lib.hid c2; have C3 := Lib.hid c3
    clear c1 c2 c3 h h' ho hq fo fq he
    cases h4 : flowsB rest with
    | false =>
      rw [h4] at c4
      have C4 := Lib.hid c4
      clear c4 c5 c6 c7 h4
      go_enter Try.func14, Try.ntmps14
      go_wp2_with (fail)
      refine (C1.out _).mono ?_; rintro e w1 ⟨rfl, hb1⟩; obtain ⟨hc1, hf1⟩ := bcell hb1; have hz1 := hb1.size; (try simp at hz1); have hz1_0 : w.heap.size < w1.heap.size := (by omega)
      go_wp2_with (fail)
      refine (C4.out _).mono ?_; rintro e w' ⟨rfl, rfl⟩
      go_wp2
      all_goals refine bodyPost_ret (v := .tuple #[.int .i64 0, .int .i64 0, .int .i64 10]) (by simp [results, Try.results14, go_sem, *]) rfl ⟨rfl, (by repeat (first | with_reducible refine Below.setCell ?_ (by first | (simp; done) | (simp; omega) | omega) _ | with_reducible refine Below.alloc ?_ (by first | (simp; done) | (simp; omega) | omega) _ | with_reducible refine Below.drew ?_ | with_reducible exact Below.refl _ _ | with_reducible refine Below.trans ?_ (Below.mono hb1 (by first | (simp; done) | (simp; omega) | omega))))⟩
    | true =>
     cases h5 : flowsB told with
     | false =>
      rw [h4] at c4
      rw [h5] at c5
      have C4 := Lib.hid c4; have C5 := Lib.hid c5
      clear c4 c5 c6 c7 h4 h5
      go_enter Try.func14, Try.ntmps14
      go_wp2_with (fail)
      refine (C1.out _).mono ?_; rintro e w1 ⟨rfl, hb1⟩; obtain ⟨hc1, hf1⟩ := bcell hb1; have hz1 := hb1.size; (try simp at hz1); have hz1_0 : w.heap.size < w1.heap.size := (by omega)
      go_wp2_with (fail)
      refine (C4.out _).mono ?_; rintro e w' ⟨rfl, rfl⟩
      go_wp2_with (fail)
      refine (C5.out _).mono ?_; rintro e w' ⟨rfl, rfl⟩
      go_wp2
      all_goals refine bodyPost_ret (v := .tuple #[.int .i64 0, .int .i64 0, .int .i64 10]) (by simp [results, Try.results14, go_sem, *]) rfl ⟨rfl, (by repeat (first | with_reducible refine Below.setCell ?_ (by first | (simp; done) | (simp; omega) | omega) _ | with_reducible refine Below.alloc ?_ (by first | (simp; done) | (simp; omega) | omega) _ | with_reducible refine Below.drew ?_ | with_reducible exact Below.refl _ _ | with_reducible refine Below.trans ?_ (Below.mono hb1 (by first | (simp; done) | (simp; omega) | omega))))⟩
     | true =>
      obtain ⟨t1, t2⟩ := flowsB_def.1 h4
      obtain ⟨t3, t4⟩ := flowsB_def.1 h5
      rw [h4] at c4
      rw [h5] at c5
      have C4 := Lib.hid c4; have C5 := Lib.hid c5
      clear c4 c5 h4 h5
      cases h6 : flowsB (rest - o) with
      | false =>
       rw [h6] at c6
       have C6 := Lib.hid c6
       clear c6 c7 h6
       go_enter Try.func14, Try.ntmps14
       go_wp2_with (fail)
       refine (C1.out _).mono ?_; rintro e w1 ⟨rfl, hb1⟩; obtain ⟨hc1, hf1⟩ := bcell hb1; have hz1 := hb1.size; (try simp at hz1); have hz1_0 : w.heap.size < w1.heap.size := (by omega)
       go_wp2_with (fail)
       refine (C4.out _).mono ?_; rintro e w' ⟨rfl, rfl⟩
       go_wp2_with (fail)
       refine (C5.out _).mono ?_; rintro e w' ⟨rfl, rfl⟩
       go_wp2_with (fail)
       refine (C2.out _).mono ?_; rintro e w2 ⟨rfl, hb2⟩; obtain ⟨hc2, hf2⟩ := bcell hb2; have hz2 := hb2.size; (try simp at hz2); have hz2_0 : w.heap.size < w2.heap.size := (by omega)
       go_wp2_with (fail)
       refine (C3.out _).mono ?_; rintro e w3 ⟨rfl, hb3⟩; obtain ⟨hc3, hf3⟩ := bcell hb3; have hz3 := hb3.size; (try simp at hz3); have hz3_0 : w.heap.size < w3.heap.size := (by omega)
       go_wp2_with (fail)
       refine (C6.out _).mono ?_; rintro e w' ⟨rfl, rfl⟩
       go_wp2
       all_goals refine bodyPost_ret (v := .tuple #[.int .i64 0, .int .i64 0, .int .i64 10]) (by simp [results, Try.results14, go_sem, *]) rfl ⟨rfl, (by repeat (first | with_reducible refine Below.setCell ?_ (by first | (simp; done) | (simp; omega) | omega) _ | with_reducible refine Below.alloc ?_ (by first | (simp; done) | (simp; omega) | omega) _ | with_reducible refine Below.drew ?_ | with_reducible exact Below.refl _ _ | with_reducible refine Below.trans ?_ (Below.mono hb1 (by first | (simp; done) | (simp; omega) | omega)) | with_reducible refine Below.trans ?_ (Below.mono hb2 (by first | (simp; done) | (simp; omega) | omega)) | with_reducible refine Below.trans ?_ (Below.mono hb3 (by first | (simp; done) | (simp; omega) | omega))))⟩
      | true =>
       cases h7 : flowsB (told - q) with
       | false =>
        rw [h6] at c6
        rw [h7] at c7
        have C6 := Lib.hid c6; have C7 := Lib.hid c7
        clear c6 c7 h6 h7
        go_enter Try.func14, Try.ntmps14
        go_wp2_with (fail)
        refine (C1.out _).mono ?_; rintro e w1 ⟨rfl, hb1⟩; obtain ⟨hc1, hf1⟩ := bcell hb1; have hz1 := hb1.size; (try simp at hz1); have hz1_0 : w.heap.size < w1.heap.size := (by omega)
        go_wp2_with (fail)
        refine (C4.out _).mono ?_; rintro e w' ⟨rfl, rfl⟩
        go_wp2_with (fail)
        refine (C5.out _).mono ?_; rintro e w' ⟨rfl, rfl⟩
        go_wp2_with (fail)
        refine (C2.out _).mono ?_; rintro e w2 ⟨rfl, hb2⟩; obtain ⟨hc2, hf2⟩ := bcell hb2; have hz2 := hb2.size; (try simp at hz2); have hz2_0 : w.heap.size < w2.heap.size := (by omega)
        go_wp2_with (fail)
        refine (C3.out _).mono ?_; rintro e w3 ⟨rfl, hb3⟩; obtain ⟨hc3, hf3⟩ := bcell hb3; have hz3 := hb3.size; (try simp at hz3); have hz3_0 : w.heap.size < w3.heap.size := (by omega)
        go_wp2_with (fail)
        refine (C6.out _).mono ?_; rintro e w' ⟨rfl, rfl⟩
        go_wp2_with (fail)
        refine (C7.out _).mono ?_; rintro e w' ⟨rfl, rfl⟩
        go_wp2
        all_goals refine bodyPost_ret (v := .tuple #[.int .i64 0, .int .i64 0, .int .i64 10]) (by simp [results, Try.results14, go_sem, *]) rfl ⟨rfl, (by repeat (first | with_reducible refine Below.setCell ?_ (by first | (simp; done) | (simp; omega) | omega) _ | with_reducible refine Below.alloc ?_ (by first | (simp; done) | (simp; omega) | omega) _ | with_reducible refine Below.drew ?_ | with_reducible exact Below.refl _ _ | with_reducible refine Below.trans ?_ (Below.mono hb1 (by first | (simp; done) | (simp; omega) | omega)) | with_reducible refine Below.trans ?_ (Below.mono hb2 (by first | (simp; done) | (simp; omega) | omega)) | with_reducible refine Below.trans ?_ (Below.mono hb3 (by first | (simp; done) | (simp; omega) | omega))))⟩
       | true =>
        rw [h6] at c6
        rw [h7] at c7
        have C6 := Lib.hid c6; have C7 := Lib.hid c7
        clear c6 c7 h6 h7
        go_enter Try.func14, Try.ntmps14
        go_wp2_with (fail)
        refine (C1.out _).mono ?_; rintro e w1 ⟨rfl, hb1⟩; obtain ⟨hc1, hf1⟩ := bcell hb1; have hz1 := hb1.size; (try simp at hz1); have hz1_0 : w.heap.size < w1.heap.size := (by omega)
        go_wp2_with (fail)
        refine (C4.out _).mono ?_; rintro e w' ⟨rfl, rfl⟩
        go_wp2_with (fail)
        refine (C5.out _).mono ?_; rintro e w' ⟨rfl, rfl⟩
        go_wp2_with (fail)
        refine (C2.out _).mono ?_; rintro e w2 ⟨rfl, hb2⟩; obtain ⟨hc2, hf2⟩ := bcell hb2; have hz2 := hb2.size; (try simp at hz2); have hz2_0 : w.heap.size < w2.heap.size := (by omega)
        go_wp2_with (fail)
        refine (C3.out _).mono ?_; rintro e w3 ⟨rfl, hb3⟩; obtain ⟨hc3, hf3⟩ := bcell hb3; have hz3 := hb3.size; (try simp at hz3); have hz3_0 : w.heap.size < w3.heap.size := (by omega)
        go_wp2_with (fail)
        refine (C6.out _).mono ?_; rintro e w' ⟨rfl, rfl⟩
        go_wp2_with (fail)
        refine (C7.out _).mono ?_; rintro e w' ⟨rfl, rfl⟩
        go_wp2
        all_goals refine bodyPost_ret (v := .tuple #[.int .i64 (rest - o), .int .i64 (told - q), .int .i64 0]) (by simp [results, Try.results14, go_sem, *]) rfl ⟨rfl, (by repeat (first | with_reducible refine Below.setCell ?_ (by first | (simp; done) | (simp; omega) | omega) _ | with_reducible refine Below.alloc ?_ (by first | (simp; done) | (simp; omega) | omega) _ | with_reducible refine Below.drew ?_ | with_reducible exact Below.refl _ _ | with_reducible refine Below.trans ?_ (Below.mono hb1 (by first | (simp; done) | (simp; omega) | omega)) | with_reducible refine Below.trans ?_ (Below.mono hb2 (by first | (simp; done) | (simp; omega) | omega)) | with_reducible refine Below.trans ?_ (Below.mono hb3 (by first | (simp; done) | (simp; omega) | omega))))⟩
/-- What a balance does: the register, the amount, the error's number. -/
def balT (v wr f me peer rest told : Int) : R × Int × Int :=
  if (endsT v wr f me peer rest told).2.2 = 0 then
    if (moveR ⟨v, wr, f⟩ peer me (((endsT v wr f me peer rest told).2.1 - (endsT v wr f me peer rest told).1).tdiv 2) me).2 = 0 then
      ((moveR ⟨v, wr, f⟩ peer me (((endsT v wr f me peer rest told).2.1 - (endsT v wr f me peer rest told).1).tdiv 2) me).1, ((endsT v wr f me peer rest told).2.1 - (endsT v wr f me peer rest told).1).tdiv 2, 0)
    else (⟨0, 0, 0⟩, 0, (moveR ⟨v, wr, f⟩ peer me (((endsT v wr f me peer rest told).2.1 - (endsT v wr f me peer rest told).1).tdiv 2) me).2)
  else (⟨0, 0, 0⟩, 0, (endsT v wr f me peer rest told).2.2)
theorem ends_fits {v wr f me peer rest told x y : Int} (h : endsT v wr f me peer rest told = (x, y, 0)) : flowsB x = true ∧ flowsB y = true := by
  unfold endsT at h
  split at h
  · split at h
    · rename_i h2
      simp only [Bool.and_eq_true] at h2
      simp only [Prod.mk.injEq] at h
      rw [← h.1, ← h.2.1]
      exact ⟨h2.1.2, h2.2.2⟩
    · simp at h
  · simp at h
theorem half_fits {x y : Int} (hx : flowsB x = true) (hy : flowsB y = true) : halfN y x = ((y - x).tdiv 2, 0) := by
  obtain ⟨x1, x2⟩ := flowsB_def.1 hx; obtain ⟨y1, y2⟩ := flowsB_def.1 hy
  unfold halfN chk
  rw [hx, hy, flowsB_def.2 (half_bd y1 y2 x1 x2)]
  rfl
set_option maxHeartbeats 4000000 in
theorem bal_any (v wr f me peer rest told : Int) (w : World) :
    Calls Try.prog 8 #[.int .i64 me, .int .i64 peer, .agg #[.int .i64 v, .int .i64 wr, .int .i64 f], .int .i64 rest, .int .i64 told] w fun e w' => e = .returned (.tuple #[.agg #[.int .i64 (balT v wr f me peer rest told).1.ver, .int .i64 (balT v wr f me peer rest told).1.wr, .int .i64 (balT v wr f me peer rest told).1.flow], .int .i64 (balT v wr f me peer rest told).2.1, .int .i64 (balT v wr f me peer rest told).2.2]) ∧ Below w.heap.size w w' := by
  have c1 := fun w => ends_any v wr f me peer rest told w
  have hef := @ends_fits v wr f me peer rest told
  unfold balT
  generalize endsT v wr f me peer rest told = E at *
  obtain ⟨x, y, e⟩ := E
  by_cases he : e = 0
  · subst he
    obtain ⟨fx, fy⟩ := hef rfl
    have hh := half_fits fx fy
    obtain ⟨x1, x2⟩ := flowsB_def.1 fx; obtain ⟨y1, y2⟩ := flowsB_def.1 fy
    clear hef
    have hbd := half_bd y1 y2 x1 x2
    have c2 := fun w => nhalf_any y x w
    rw [hh] at c2
    have c3 := fun w => move_any v wr f peer me ((y - x).tdiv 2) me w
    simp only [if_true]
    generalize (y - x).tdiv 2 = amt at *
    generalize hm : moveR ⟨v, wr, f⟩ peer me amt me = M at *
    obtain ⟨⟨m1, m2, m3⟩, me'⟩ := M
    have C1 := Lib.hid c1; have C3 := Lib.hid c3; have C2 := Lib.hid c2
    clear c1 c3 hm hh fx fy c2
    by_cases hm0 : me' = 0
    · subst hm0
      go_enter Try.func8, Try.ntmps8
      go_wp2_with (fail)
      refine (C1.out _).mono ?_; rintro e w1 ⟨rfl, hb1⟩; obtain ⟨hc1, hf1⟩ := bcell hb1; have hz1 := hb1.size; (try simp at hz1); have hz1_0 : w.heap.size < w1.heap.size := (by omega); have hz1_1 : w.heap.size + 1 < w1.heap.size := (by omega)
      go_wp2_with (fail)
      refine (C2.out _).mono ?_; rintro e w' ⟨rfl, rfl⟩
      go_wp2_with (fail)
      refine (C3.out _).mono ?_; rintro e w2 ⟨rfl, hb2⟩; obtain ⟨hc2, hf2⟩ := bcell hb2; have hz2 := hb2.size; (try simp at hz2); have hz2_0 : w.heap.size < w2.heap.size := (by omega); have hz2_1 : w.heap.size + 1 < w2.heap.size := (by omega)
      go_wp2
      refine bodyPost_ret (v := .tuple #[.agg #[.int .i64 m1, .int .i64 m2, .int .i64 m3], .int .i64 amt, .int .i64 0]) (by simp [results, Try.results8, go_sem, *]) rfl ⟨rfl, (by repeat (first | with_reducible refine Below.setCell ?_ (by first | (simp; done) | (simp; omega) | omega) _ | with_reducible refine Below.alloc ?_ (by first | (simp; done) | (simp; omega) | omega) _ | with_reducible refine Below.drew ?_ | with_reducible exact Below.refl _ _ | with_reducible refine Below.trans ?_ (Below.mono hb1 (by first | (simp; done) | (simp; omega) | omega)) | with_reducible refine Below.trans ?_ (Below.mono hb2 (by first | (simp; done) | (simp; omega) | omega))))⟩
    · have hm1 : (me' == 0) = false := beq_false_of_ne hm0
      have hm2 : (me' != 0) = true := by simpa using hm0
      have HM := Lib.hid hm0
      clear hm0
      go_enter Try.func8, Try.ntmps8
      go_wp2_with (fail)
      refine (C1.out _).mono ?_; rintro e w1 ⟨rfl, hb1⟩; obtain ⟨hc1, hf1⟩ := bcell hb1; have hz1 := hb1.size; (try simp at hz1); have hz1_0 : w.heap.size < w1.heap.size := (by omega); have hz1_1 : w.heap.size + 1 < w1.heap.size := (by omega)
      go_wp2_with (fail)
      refine (C2.out _).mono ?_; rintro e w' ⟨rfl, rfl⟩
      go_wp2_with (fail)
      refine (C3.out _).mono ?_; rintro e w2 ⟨rfl, hb2⟩; obtain ⟨hc2, hf2⟩ := bcell hb2; have hz2 := hb2.size; (try simp at hz2); have hz2_0 : w.heap.size < w2.heap.size := (by omega); have hz2_1 : w.heap.size + 1 < w2.heap.size := (by omega)
      go_wp2
      refine bodyPost_ret (v := .tuple #[.agg #[.int .i64 0, .int .i64 0, .int .i64 0], .int .i64 0, .int .i64 me']) (by simp [results, Try.results8, go_sem, *]) rfl ⟨by simp [HM.out], (by repeat (first | with_reducible refine Below.setCell ?_ (by first | (simp; done) | (simp; omega) | omega) _ | with_reducible refine Below.alloc ?_ (by first | (simp; done) | (simp; omega) | omega) _ | with_reducible refine Below.drew ?_ | with_reducible exact Below.refl _ _ | with_reducible refine Below.trans ?_ (Below.mono hb1 (by first | (simp; done) | (simp; omega) | omega)) | with_reducible refine Below.trans ?_ (Below.mono hb2 (by first | (simp; done) | (simp; omega) | omega))))⟩
  · have he1 : (e == 0) = false := beq_false_of_ne he
    have he2 : (e != 0) = true := by simpa using he
    have C1 := Lib.hid c1
    have HE := Lib.hid he
    clear c1 he hef
    go_enter Try.func8, Try.ntmps8
    go_wp2_with (fail)
    refine (C1.out _).mono ?_; rintro e w1 ⟨rfl, hb1⟩; obtain ⟨hc1, hf1⟩ := bcell hb1; have hz1 := hb1.size; (try simp at hz1); have hz1_0 : w.heap.size < w1.heap.size := (by omega); have hz1_1 : w.heap.size + 1 < w1.heap.size := (by omega)
    go_wp2
    refine bodyPost_ret (v := .tuple #[.agg #[.int .i64 0, .int .i64 0, .int .i64 0], .int .i64 0, .int .i64 e]) (by simp [results, Try.results8, go_sem, *]) rfl ⟨by simp [HE.out], (by repeat (first | with_reducible refine Below.setCell ?_ (by first | (simp; done) | (simp; omega) | omega) _ | with_reducible refine Below.alloc ?_ (by first | (simp; done) | (simp; omega) | omega) _ | with_reducible refine Below.drew ?_ | with_reducible exact Below.refl _ _ | with_reducible refine Below.trans ?_ (Below.mono hb1 (by first | (simp; done) | (simp; omega) | omega))))⟩
set_option maxHeartbeats 4000000 in
theorem rbal_any (v wr f me peer rest told : Int) (w : World) :
    Calls Try.prog 9 #[.int .i64 me, .int .i64 peer, .agg #[.int .i64 v, .int .i64 wr, .int .i64 f], .int .i64 rest, .int .i64 told] w fun e w' => e = .returned (.tuple #[.agg #[.int .i64 (balT v wr f me peer rest told).1.ver, .int .i64 (balT v wr f me peer rest told).1.wr, .int .i64 (balT v wr f me peer rest told).1.flow], .int .i64 (balT v wr f me peer rest told).2.1, .int .i64 (balT v wr f me peer rest told).2.2]) ∧ Below w.heap.size w w' := by
  have c1 := fun w => rends_any v wr f me peer rest told w
  have hef := @ends_fits v wr f me peer rest told
  unfold balT
  generalize endsT v wr f me peer rest told = E at *
  obtain ⟨x, y, e⟩ := E
  by_cases he : e = 0
  · subst he
    obtain ⟨fx, fy⟩ := hef rfl
    have hh := half_fits fx fy
    obtain ⟨x1, x2⟩ := flowsB_def.1 fx; obtain ⟨y1, y2⟩ := flowsB_def.1 fy
    clear hef
    have hbd := half_bd y1 y2 x1 x2

    have c3 := fun w => rmove_any v wr f peer me ((y - x).tdiv 2) me w
    simp only [if_true]
    generalize hm : moveR ⟨v, wr, f⟩ peer me ((y - x).tdiv 2) me = M at *
    obtain ⟨⟨m1, m2, m3⟩, me'⟩ := M
    have C1 := Lib.hid c1; have C3 := Lib.hid c3
    clear c1 c3 hm hh fx fy
    by_cases hm0 : me' = 0
    · subst hm0
      go_enter Try.func9, Try.ntmps9
      go_wp2_with (fail)
      refine (C1.out _).mono ?_; rintro e w1 ⟨rfl, hb1⟩; obtain ⟨hc1, hf1⟩ := bcell hb1; have hz1 := hb1.size; (try simp at hz1); have hz1_0 : w.heap.size < w1.heap.size := (by omega); have hz1_1 : w.heap.size + 1 < w1.heap.size := (by omega)
      go_wp2_with (fail)

      refine (C3.out _).mono ?_; rintro e w2 ⟨rfl, hb2⟩; obtain ⟨hc2, hf2⟩ := bcell hb2; have hz2 := hb2.size; (try simp at hz2); have hz2_0 : w.heap.size < w2.heap.size := (by omega); have hz2_1 : w.heap.size + 1 < w2.heap.size := (by omega)
      go_wp2
      refine bodyPost_ret (v := .tuple #[.agg #[.int .i64 m1, .int .i64 m2, .int .i64 m3], .int .i64 ((y - x).tdiv 2), .int .i64 0]) (by simp [results, Try.results9, go_sem, *]) rfl ⟨rfl, (by repeat (first | with_reducible refine Below.setCell ?_ (by first | (simp; done) | (simp; omega) | omega) _ | with_reducible refine Below.alloc ?_ (by first | (simp; done) | (simp; omega) | omega) _ | with_reducible refine Below.drew ?_ | with_reducible exact Below.refl _ _ | with_reducible refine Below.trans ?_ (Below.mono hb1 (by first | (simp; done) | (simp; omega) | omega)) | with_reducible refine Below.trans ?_ (Below.mono hb2 (by first | (simp; done) | (simp; omega) | omega))))⟩
    · have hm1 : (me' == 0) = false := beq_false_of_ne hm0
      have hm2 : (me' != 0) = true := by simpa using hm0
      have HM := Lib.hid hm0
      clear hm0
      go_enter Try.func9, Try.ntmps9
      go_wp2_with (fail)
      refine (C1.out _).mono ?_; rintro e w1 ⟨rfl, hb1⟩; obtain ⟨hc1, hf1⟩ := bcell hb1; have hz1 := hb1.size; (try simp at hz1); have hz1_0 : w.heap.size < w1.heap.size := (by omega); have hz1_1 : w.heap.size + 1 < w1.heap.size := (by omega)
      go_wp2_with (fail)

      refine (C3.out _).mono ?_; rintro e w2 ⟨rfl, hb2⟩; obtain ⟨hc2, hf2⟩ := bcell hb2; have hz2 := hb2.size; (try simp at hz2); have hz2_0 : w.heap.size < w2.heap.size := (by omega); have hz2_1 : w.heap.size + 1 < w2.heap.size := (by omega)
      go_wp2
      refine bodyPost_ret (v := .tuple #[.agg #[.int .i64 0, .int .i64 0, .int .i64 0], .int .i64 0, .int .i64 me']) (by simp [results, Try.results9, go_sem, *]) rfl ⟨by simp [HM.out], (by repeat (first | with_reducible refine Below.setCell ?_ (by first | (simp; done) | (simp; omega) | omega) _ | with_reducible refine Below.alloc ?_ (by first | (simp; done) | (simp; omega) | omega) _ | with_reducible refine Below.drew ?_ | with_reducible exact Below.refl _ _ | with_reducible refine Below.trans ?_ (Below.mono hb1 (by first | (simp; done) | (simp; omega) | omega)) | with_reducible refine Below.trans ?_ (Below.mono hb2 (by first | (simp; done) | (simp; omega) | omega))))⟩
  · have he1 : (e == 0) = false := beq_false_of_ne he
    have he2 : (e != 0) = true := by simpa using he
    have C1 := Lib.hid c1
    have HE := Lib.hid he
    clear c1 he hef
    go_enter Try.func9, Try.ntmps9
    go_wp2_with (fail)
    refine (C1.out _).mono ?_; rintro e w1 ⟨rfl, hb1⟩; obtain ⟨hc1, hf1⟩ := bcell hb1; have hz1 := hb1.size; (try simp at hz1); have hz1_0 : w.heap.size < w1.heap.size := (by omega); have hz1_1 : w.heap.size + 1 < w1.heap.size := (by omega)
    go_wp2
    refine bodyPost_ret (v := .tuple #[.agg #[.int .i64 0, .int .i64 0, .int .i64 0], .int .i64 0, .int .i64 e]) (by simp [results, Try.results9, go_sem, *]) rfl ⟨by simp [HE.out], (by repeat (first | with_reducible refine Below.setCell ?_ (by first | (simp; done) | (simp; omega) | omega) _ | with_reducible refine Below.alloc ?_ (by first | (simp; done) | (simp; omega) | omega) _ | with_reducible refine Below.drew ?_ | with_reducible exact Below.refl _ _ | with_reducible refine Below.trans ?_ (Below.mono hb1 (by first | (simp; done) | (simp; omega) | omega))))⟩
end Go.Proofs.Ytlcbfabdfpdcgaa
