/- Whatever the list and number: eddylaw01's NumTurned returns true. No conditions. -/
import Derived.Test.YtmgpknadefhikaaL01s
namespace Go.Proofs.Ytmgpknadefhikaa
open Go.ChangeShapes Go.WideShapes Go.ChangeAt Go.RowKit Go.Joins
set_option linter.unusedVariables false
def sqN : List Int → Nat
  | [] => 0
  | x :: xs => x.natAbs * x.natAbs + sqN xs
theorem sqN_append (xs ys : List Int) : sqN (xs ++ ys) = sqN xs + sqN ys := by
  induction xs with
  | nil => simp [sqN]
  | cons x xs ih => simp only [List.cons_append, sqN, ih]; omega
theorem sqN_reverse (xs : List Int) : sqN xs.reverse = sqN xs := by
  induction xs with
  | nil => rfl
  | cons x xs ih => rw [List.reverse_cons, sqN_append, ih]; simp only [sqN]; omega
theorem sqOne_lt {x : Int} (h0 : -9223372036854775808 ≤ x) (h1 : x < 9223372036854775808) : x.natAbs * x.natAbs < M128 := by
  have : x.natAbs * x.natAbs ≤ 9223372036854775808 * 9223372036854775808 := Nat.mul_le_mul (by omega) (by omega)
  unfold M128
  omega
theorem KeptC.low {w0 w' : World} {l : List (Addr × Value)} {F : List Addr} (h : KeptC w0 l F w') : Below w0.heap.size w0 w' := h.1
theorem KeptC.allocd {w0 w' : World} {l : List (Addr × Value)} {F : List Addr} {c0 c1 : Value} {t : TypeId} (h : KeptC w0 l F w') :
    KeptC w0 ((⟨w'.heap.size, 0, none⟩, c0) :: (⟨w'.heap.size, 1, none⟩, c1) :: l) (⟨w'.heap.size, 0, none⟩ :: ⟨w'.heap.size, 1, none⟩ :: F) (w'.alloc (.cells #[c0, c1] t)) := by
  have hb : Below w'.heap.size w' (w'.alloc (.cells #[c0, c1] t)) := (Below.refl _ _).alloc (Nat.le_refl _) _
  have h2 := KeptC.below h hb
  refine ⟨h2.1, fun x hx => ?_, fun a ha => ?_⟩
  · rcases List.mem_cons.1 hx with rfl | hx
    · go_simp
    · rcases List.mem_cons.1 hx with rfl | hx
      · go_simp
      · exact h2.2.1 x hx
  · rcases List.mem_cons.1 ha with rfl | ha
    · exact ⟨by simp, by go_simp⟩
    · rcases List.mem_cons.1 ha with rfl | ha
      · exact ⟨by simp, by go_simp⟩
      · exact h2.2.2 a ha
theorem M128_pos : 0 < M128 := by decide
theorem sqL_from (xs : List Int) (h : i64s xs) (m : Nat) (hm : m < M128) : xs.foldl (fun s x => addW s (sqOne x)) (wideN m) = wideN ((m + sqN xs) % M128) := by
  induction xs generalizing m with
  | nil => simp only [List.foldl_nil, sqN, Nat.add_zero, Nat.mod_eq_of_lt hm]
  | cons x xs ih =>
    obtain ⟨x0, x1⟩ := h x (by simp)
    have hx := sqOne_lt x0 x1
    have e : addW (wideN m) (sqOne x) = wideN ((m + x.natAbs * x.natAbs) % M128) := wide_add m _ hm hx
    rw [List.foldl_cons, e, ih (fun y hy => h y (by simp [hy])) _ (Nat.mod_lt _ M128_pos)]
    simp only [sqN]
    rw [Nat.mod_add_mod, Nat.add_assoc]
theorem sqL_eq (xs : List Int) (h : i64s xs) : sqL xs = wideN (sqN xs % M128) := by
  have := sqL_from xs h 0 M128_pos
  rw [Nat.zero_add] at this
  exact this
theorem turned_plus (xs : List Int) (h : i64s xs) (k : Nat) : (plusW (sqL (xs.take k)) (sqL (xs.drop k))).2 = true → (plusW (sqL (xs.take k)) (sqL (xs.drop k))).1 = sqL xs := by
  have e : sqN xs = sqN (xs.take k) + sqN (xs.drop k) := by rw [← sqN_append, List.take_append_drop]
  rw [sqL_eq xs h, sqL_eq _ (fun y hy => h y (List.mem_of_mem_take hy)), sqL_eq _ (fun y hy => h y (List.mem_of_mem_drop hy)), wide_plus _ _ (Nat.mod_lt _ M128_pos) (Nat.mod_lt _ M128_pos), e]
  unfold plusN
  intro hh
  by_cases hl : sqN (xs.take k) % M128 + sqN (xs.drop k) % M128 < M128
  · rw [if_pos hl]
    show wideN _ = wideN _
    rw [Nat.add_mod, Nat.mod_eq_of_lt hl]
  · rw [if_neg hl] at hh; cases hh
theorem sqL_reverse (xs : List Int) (h : i64s xs) : sqL xs.reverse = sqL xs := by
  rw [sqL_eq xs h, sqL_eq _ (fun y hy => h y (by simpa using hy)), sqN_reverse]
theorem Reads.pre {w : World} {B size n k : Nat} {A : Option Addr} {xs : List Value} (h : Reads w B size A n xs) (hk : k ≤ n) : Reads w B size A k (xs.take (k * size)) := by
  refine ⟨by rw [List.length_take, h.1]; exact Nat.min_eq_left (Nat.mul_le_mul_right _ hk), fun hk0 => ?_⟩
  obtain ⟨ad, e, hb, hc⟩ := h.2 (by omega)
  refine ⟨ad, e, hb, fun j u hu => hc j u ?_⟩
  rw [List.getElem?_take] at hu
  split at hu
  · exact hu
  · cases hu
set_option maxRecDepth 100000 in
set_option maxHeartbeats 4000000 in
theorem numTurned_nil (A : Option Addr) (c : Nat) (at' : Int) (w : World) :
    Calls Try.prog 5 #[.slice A 0 c, .int .i64 at'] w fun e w' => e = .returned (.bool true) ∧ Below w.heap.size w w' := by
  have c1 := fun w => squares_any A 0 c [] w rfl ⟨rfl, fun h => absurd h (by omega)⟩ (fun x hx => (by cases hx)) (by decide)
  rw [show sqL [] = ⟨0, 0⟩ from rfl] at c1
  have C1 := Lib.hid c1
  clear c1
  go_enter Try.func5, Try.ntmps5
  go_wp2_with (fail)
  refine (C1.out _).mono ?_; rintro e w1 ⟨rfl, hb1⟩; obtain ⟨hc1, hf1⟩ := bcell hb1; have hz1 := hb1.size; (try simp at hz1)
  go_wp2_with (fail)
  refine (awake_any _).mono ?_; rintro e w2 ⟨rfl, hb2⟩; obtain ⟨hc2, hf2⟩ := bcell hb2; have hz2 := hb2.size; (try simp at hz2)
  go_wp2
  go_ret
  exact ⟨rfl, (by repeat (first | with_reducible refine Below.setCell ?_ (by first | (simp; done) | (simp; omega) | omega) _ | with_reducible refine Below.alloc ?_ (by first | (simp; done) | (simp; omega) | omega) _ | with_reducible refine Below.drew ?_ | with_reducible exact Below.refl _ _ | with_reducible refine Below.trans ?_ (Below.mono hb1 (by first | (simp; done) | (simp; omega) | omega)) | with_reducible refine Below.trans ?_ (Below.mono hb2 (by first | (simp; done) | (simp; omega) | omega))))⟩
theorem rev_take {xs : List Int} {n j : Nat} {x : Int} (hn : xs.length = n) (hx : xs[j]? = some x) : xs.reverse.take (n - (j + 1) + 1) = xs.reverse.take (n - (j + 1)) ++ [x] := by
  obtain ⟨hj, hx⟩ := List.getElem?_eq_some_iff.1 hx
  rw [List.take_succ_eq_append_getElem (by rw [List.length_reverse]; omega), List.getElem_reverse]
  congr 2
  rw [← hx]
  congr 1
  omega
theorem mod_at (a : Int) (n : Nat) (h : 0 < n) (hn : n ≤ maxLen) : ∃ k0 : Nat, k0 < n ∧ wrap64 ((IntKind.u64.wrap a).tmod (n : Int)) = (k0 : Int) := by
  unfold maxLen at hn
  have h0 : 0 ≤ IntKind.u64.wrap a := by rw [IntKind.wrap_u64]; omega
  rw [Int.tmod_eq_emod_of_nonneg h0]
  generalize IntKind.u64.wrap a = b at *
  have h1 := Int.emod_nonneg b (show (n : Int) ≠ 0 by omega)
  have h2 := Int.emod_lt_of_pos b (show (0 : Int) < n by omega)
  refine ⟨(b % n).toNat, by omega, ?_⟩
  unfold wrap64
  omega
set_option maxRecDepth 100000 in
set_option maxHeartbeats 4000000 in
theorem numTurned_pos (ad : Addr) (n c : Nat) (xs : List Int) (at' : Int) (w : World) (hn : xs.length = n) (hnc : n ≤ c) (hr : Reads w w.heap.size 1 (some ad) n (xs.map (Value.int .i64))) (hb : i64s xs) (hm : n * 8 ≤ reachBytes) (h0 : 0 < n) :
    Calls Try.prog 5 #[.slice (some ad) n c, .int .i64 at'] w fun e w' => e = .returned (.bool true) ∧ Below w.heap.size w w' := by
  unfold reachBytes at hm
  have hx : n ≤ maxLen := by unfold maxLen; omega
  obtain ⟨i0, hi0, hz0, hz1, hz2⟩ := info_parts i64_info
  have HN := Lib.hid hn
  clear hn
  have h0' : (0 : Int) < n := by omega
  have hn0 : ((n : Int) == 0) = false := beq_false_of_ne (by omega)
  obtain ⟨k0, hk0, hke⟩ : ∃ k0 : Nat, k0 < n ∧ wrap64 ((IntKind.u64.wrap at').tmod (n : Int)) = (k0 : Int) := mod_at at' n h0 hx
  have HK := Lib.hid hke
  clear hke
  go_enter Try.func5, Try.ntmps5
  go_wp2
  go_loopw [5, 6] (fun v i w' => ∃ j : Nat, j ≤ n ∧ i = .int .i64 ((j : Int) - 1) ∧ Hid (w'.ownsRow w.heap.size 2 1 v (n - j) ((xs.reverse.take (n - j)).map (Value.int .i64))) ∧ Below w.heap.size w w') (fun _ i _ => (intOf i + 1).toNat)
  case atStart => exact ⟨n, Nat.le_refl _, rfl, Lib.hid (by rw [Nat.sub_self]; exact ⟨by simp, .inl ⟨rfl, rfl⟩⟩), (by repeat (first | with_reducible refine Below.setCell ?_ (by first | (simp; done) | (simp; omega) | omega) _ | with_reducible refine Below.alloc ?_ (by first | (simp; done) | (simp; omega) | omega) _ | with_reducible refine Below.drew ?_ | with_reducible exact Below.refl _ _))⟩
  case round =>
    obtain ⟨j, hj, rfl, HO, kb⟩ := hrel
    rcases j with _ | j
    · rw [show (((0 : Nat) : Int) - 1) = -1 by omega]
      have hO := HO.out
      rw [Nat.sub_zero, ← HN.out, ← List.length_reverse, List.take_length] at hO
      rw [show xs.reverse.length = n by rw [List.length_reverse, HN.out]] at hO
      obtain ⟨A1, k1, rfl, hr1⟩ := own_reads hO
      clear hO HO
      have hr0 := (hr.below kb).more kb.size
      have c1 := fun w hr => squares_any (some ad) n c xs w HN.out hr hb hx
      have c2 := fun w hr => squares_any A1 n k1 xs.reverse w (by rw [List.length_reverse]; exact HN.out) hr (fun y hy => hb y (by simpa using hy)) hx
      rw [sqL_reverse xs hb] at c2
      have c3 := fun w hr => squares_any (some ad) k0 c (xs.take k0) w (by rw [List.length_take, HN.out]; omega) hr (fun y hy => hb y (List.mem_of_mem_take hy)) (by omega)
      have c4 := fun A c w hr => squares_any A (n - k0) c (xs.drop k0) w (by rw [List.length_drop, HN.out]) hr (fun y hy => hb y (List.mem_of_mem_drop hy)) (by omega)
      have hp := turned_plus xs hb k0
      have o1 := sqL_ok (xs.take k0); have o2 := sqL_ok (xs.drop k0)
      generalize sqL xs = q at *
      generalize sqL (xs.take k0) = q1 at *
      generalize sqL (xs.drop k0) = q2 at *
      obtain ⟨qh, ql⟩ := q; obtain ⟨q1h, q1l⟩ := q1; obtain ⟨q2h, q2l⟩ := q2
      have c5 := fun w => wplus_any q1h q1l q2h q2l w o1.1 o1.2 o2.1 o2.2
      generalize plusW ⟨q1h, q1l⟩ ⟨q2h, q2l⟩ = s at *
      obtain ⟨⟨sh, sl⟩, ok⟩ := s
      have C1 := Lib.hid c1; have C2 := Lib.hid c2; have C3 := Lib.hid c3; have C4 := Lib.hid c4; have C5 := Lib.hid c5; have HP := Lib.hid hp
      clear c1 c2 c3 c4 c5 hp o1 o2
      go_wp2_with (fail)
      simp only [HK.out]
      refine (C1.out _ hr0).mono ?_; rintro e w1 ⟨rfl, hb1⟩
      have hr2 := (hr0.below hb1).more hb1.size
      have hr3 := (hr1.below hb1).more hb1.size
      have kb1 : Below w.heap.size w w1 := kb.trans (hb1.mono kb.size)
      have hzw : w.heap.size ≤ w1.heap.size := kb1.size
      clear hr0 hr1
      have R2 := Lib.hid (fun w' (h : Below w1.heap.size w1 w') => (hr3.below h).more h.size)
      have R3 := Lib.hid (fun w' (h : Below w1.heap.size w1 w') => by have := ((hr2.pre (k := k0) (by omega)).below h).more h.size; rw [Nat.mul_one, ← List.map_take] at this; exact this)
      have R4 := Lib.hid (fun w' (h : Below w1.heap.size w1 w') => by have := ((hr2.cut (k := k0) (cap := c) (by omega) hnc).below h).more h.size; rw [if_neg (by omega : ¬ c = k0)] at this; simp only [Option.map_some, Nat.mul_one, ← List.map_drop] at this; exact this)
      clear hr2 hr3
      go_wp2
      refine wp_region_quietC_lit (KeptC w1 [(⟨w1.heap.size, 0, none⟩, .int .u64 qh), (⟨w1.heap.size, 1, none⟩, .int .u64 ql)] []) (by kernel_rfl) (by kernel_rfl) ?_ ?_
      · refine KeptC.drewn ?_
        repeat' (first | refine KeptC.cons ?_ ?_ | refine KeptC.consF ?_ ?_ ?_ | refine KeptC.mk0 ?_)
        all_goals (first | with_reducible assumption | (go_simp; done) | (simp; omega) | exact (by repeat (first | with_reducible refine Below.setCell ?_ (by first | (simp; done) | (simp; omega) | omega) _ | with_reducible refine Below.alloc ?_ (by first | (simp; done) | (simp; omega) | omega) _ | with_reducible refine Below.drew ?_ | with_reducible exact Below.refl _ _)))
      repeat (first
        | go_big_quiet_skip
        | (go_big_quiet_want; (apply quietC_run); (· intro w' hw'; (have hk' := hw'; simp only [KeptC, List.forall_mem_cons] at hk'; go_split_ands); go_simp; first | done | rfl); (simp only [Act.put, List.setIfInBounds_toArray, List.set_cons_zero, List.set_cons_succ]; go_big_quiet_on))
        | (go_big_quiet_want; (apply quietC_call); (· intro w' hw'; go_simp; first | done | exact ⟨rfl, rfl⟩ | rfl); (· intro w' hw'; first | ((with_reducible refine (C2.out _ (R2.out _ (KeptC.low hw'))).mono ?_); rintro e w2 ⟨rfl, hb⟩; exact ⟨rfl, hw'.below hb⟩)); (simp only [Act.put, List.setIfInBounds_toArray, List.set_cons_zero, List.set_cons_succ]; go_big_quiet_on)))
      refine wpQuiet_nil ?_
      intro w2 hk2
      (have hk' := hk2; simp only [KeptC, List.forall_mem_cons] at hk'; go_split_ands); have hkB2 := hk2.1
      have hz2_0 : w1.heap.size < w2.heap.size := cell_lt (a := ⟨w1.heap.size, 0, none⟩) (by assumption)
      clear R2 C2 C1
      have hkc : (k0 : Int) ≤ c := by omega
      have hkn : (k0 : Int) ≤ n := by omega
      cases ok with
      | false =>
        go_wp2
        go_region_with (first | ((with_reducible refine (C3.out _ (R3.out _ (by first | exact KeptC.low (by with_reducible assumption) | exact KeptC.low (KeptC.drewn (by with_reducible assumption)) | exact KeptC.low (KeptC.allocd (by with_reducible assumption)) | exact KeptC.low (KeptC.allocd (KeptC.drewn (by with_reducible assumption)))))).mono ?_); rintro e w9 ⟨rfl, hb9⟩; (first | have hk9 := KeptC.below (KeptC.allocd (by with_reducible assumption)) hb9 | have hk9 := KeptC.below (KeptC.allocd (KeptC.drewn (by with_reducible assumption))) hb9 | have hk9 := KeptC.below (by with_reducible assumption) hb9 | have hk9 := KeptC.below (KeptC.drewn (by with_reducible assumption)) hb9); clear hb9; have hL9 := KeptC.low hk9; have hz9 := hL9.size; have hk9' := hk9; simp only [KeptC, List.forall_mem_cons] at hk9'; go_split_ands; have hy9 : w1.heap.size < w9.heap.size := cell_lt (a := ⟨w1.heap.size, 0, none⟩) (by with_reducible assumption)) | ((with_reducible refine (C4.out _ _ _ (R4.out _ (by first | exact KeptC.low (by with_reducible assumption) | exact KeptC.low (KeptC.drewn (by with_reducible assumption)) | exact KeptC.low (KeptC.allocd (by with_reducible assumption)) | exact KeptC.low (KeptC.allocd (KeptC.drewn (by with_reducible assumption)))))).mono ?_); rintro e w9 ⟨rfl, hb9⟩; (first | have hk9 := KeptC.below (KeptC.allocd (by with_reducible assumption)) hb9 | have hk9 := KeptC.below (KeptC.allocd (KeptC.drewn (by with_reducible assumption))) hb9 | have hk9 := KeptC.below (by with_reducible assumption) hb9 | have hk9 := KeptC.below (KeptC.drewn (by with_reducible assumption)) hb9); clear hb9; have hL9 := KeptC.low hk9; have hz9 := hL9.size; have hk9' := hk9; simp only [KeptC, List.forall_mem_cons] at hk9'; go_split_ands; have hy9 : w1.heap.size < w9.heap.size := cell_lt (a := ⟨w1.heap.size, 0, none⟩) (by with_reducible assumption)) | ((with_reducible refine (C5.out _).mono ?_); rintro e w9 ⟨rfl, hb9⟩; (first | have hk9 := KeptC.below (KeptC.allocd (by with_reducible assumption)) hb9 | have hk9 := KeptC.below (KeptC.allocd (KeptC.drewn (by with_reducible assumption))) hb9 | have hk9 := KeptC.below (by with_reducible assumption) hb9 | have hk9 := KeptC.below (KeptC.drewn (by with_reducible assumption)) hb9); clear hb9; have hL9 := KeptC.low hk9; have hz9 := hL9.size; have hk9' := hk9; simp only [KeptC, List.forall_mem_cons] at hk9'; go_split_ands; have hy9 : w1.heap.size < w9.heap.size := cell_lt (a := ⟨w1.heap.size, 0, none⟩) (by with_reducible assumption)))
        all_goals
          go_wp2_with (fail)
          refine (awake_any _).mono ?_; rintro e w6 ⟨rfl, hb6⟩; obtain ⟨hc6, hf6⟩ := bcell hb6; have hz6 := hb6.size; (try simp at hz6)
          go_wp2
          go_ret
          exact ⟨rfl, (by repeat (first | with_reducible refine Below.setCell ?_ (by first | (simp; done) | (simp; omega) | omega) _ | with_reducible refine Below.alloc ?_ (by first | (simp; done) | (simp; omega) | omega) _ | with_reducible refine Below.drew ?_ | with_reducible exact Below.refl _ _ | with_reducible refine Below.trans ?_ (Below.mono hb6 (by first | (simp; done) | (simp; omega) | omega)) | with_reducible refine Below.trans ?_ (Below.mono hL9 (by first | (simp; done) | (simp; omega) | omega)) | with_reducible refine Below.trans ?_ (Below.mono kb1 (by first | (simp; done) | (simp; omega) | omega))))⟩
      | true =>
        have hse := HP.out rfl
        simp only [W.mk.injEq] at hse
        obtain ⟨rfl, rfl⟩ := hse
        go_wp2
        go_region_with (first | ((with_reducible refine (C3.out _ (R3.out _ (by first | exact KeptC.low (by with_reducible assumption) | exact KeptC.low (KeptC.drewn (by with_reducible assumption)) | exact KeptC.low (KeptC.allocd (by with_reducible assumption)) | exact KeptC.low (KeptC.allocd (KeptC.drewn (by with_reducible assumption)))))).mono ?_); rintro e w9 ⟨rfl, hb9⟩; (first | have hk9 := KeptC.below (KeptC.allocd (by with_reducible assumption)) hb9 | have hk9 := KeptC.below (KeptC.allocd (KeptC.drewn (by with_reducible assumption))) hb9 | have hk9 := KeptC.below (by with_reducible assumption) hb9 | have hk9 := KeptC.below (KeptC.drewn (by with_reducible assumption)) hb9); clear hb9; have hL9 := KeptC.low hk9; have hz9 := hL9.size; have hk9' := hk9; simp only [KeptC, List.forall_mem_cons] at hk9'; go_split_ands; have hy9 : w1.heap.size < w9.heap.size := cell_lt (a := ⟨w1.heap.size, 0, none⟩) (by with_reducible assumption)) | ((with_reducible refine (C4.out _ _ _ (R4.out _ (by first | exact KeptC.low (by with_reducible assumption) | exact KeptC.low (KeptC.drewn (by with_reducible assumption)) | exact KeptC.low (KeptC.allocd (by with_reducible assumption)) | exact KeptC.low (KeptC.allocd (KeptC.drewn (by with_reducible assumption)))))).mono ?_); rintro e w9 ⟨rfl, hb9⟩; (first | have hk9 := KeptC.below (KeptC.allocd (by with_reducible assumption)) hb9 | have hk9 := KeptC.below (KeptC.allocd (KeptC.drewn (by with_reducible assumption))) hb9 | have hk9 := KeptC.below (by with_reducible assumption) hb9 | have hk9 := KeptC.below (KeptC.drewn (by with_reducible assumption)) hb9); clear hb9; have hL9 := KeptC.low hk9; have hz9 := hL9.size; have hk9' := hk9; simp only [KeptC, List.forall_mem_cons] at hk9'; go_split_ands; have hy9 : w1.heap.size < w9.heap.size := cell_lt (a := ⟨w1.heap.size, 0, none⟩) (by with_reducible assumption)) | ((with_reducible refine (C5.out _).mono ?_); rintro e w9 ⟨rfl, hb9⟩; (first | have hk9 := KeptC.below (KeptC.allocd (by with_reducible assumption)) hb9 | have hk9 := KeptC.below (KeptC.allocd (KeptC.drewn (by with_reducible assumption))) hb9 | have hk9 := KeptC.below (by with_reducible assumption) hb9 | have hk9 := KeptC.below (KeptC.drewn (by with_reducible assumption)) hb9); clear hb9; have hL9 := KeptC.low hk9; have hz9 := hL9.size; have hk9' := hk9; simp only [KeptC, List.forall_mem_cons] at hk9'; go_split_ands; have hy9 : w1.heap.size < w9.heap.size := cell_lt (a := ⟨w1.heap.size, 0, none⟩) (by with_reducible assumption)))
        all_goals
          go_wp2_with (fail)
          refine (awake_any _).mono ?_; rintro e w6 ⟨rfl, hb6⟩; obtain ⟨hc6, hf6⟩ := bcell hb6; have hz6 := hb6.size; (try simp at hz6)
          go_wp2
          go_ret
          exact ⟨rfl, (by repeat (first | with_reducible refine Below.setCell ?_ (by first | (simp; done) | (simp; omega) | omega) _ | with_reducible refine Below.alloc ?_ (by first | (simp; done) | (simp; omega) | omega) _ | with_reducible refine Below.drew ?_ | with_reducible exact Below.refl _ _ | with_reducible refine Below.trans ?_ (Below.mono hb6 (by first | (simp; done) | (simp; omega) | omega)) | with_reducible refine Below.trans ?_ (Below.mono hL9 (by first | (simp; done) | (simp; omega) | omega)) | with_reducible refine Below.trans ?_ (Below.mono kb1 (by first | (simp; done) | (simp; omega) | omega))))⟩
    · obtain ⟨a0, u, e0, hab, hx0, hc0⟩ := (hr.below kb).at_ (k := j) (by omega)
      obtain rfl : ad = a0 := Option.some.inj e0
      rw [List.getElem?_map, Option.map_eq_some_iff] at hx0
      obtain ⟨x, hxj, rfl⟩ := hx0
      have HX := Lib.hid hxj
      clear hxj e0
      rw [show (((j + 1 : Nat) : Int) - 1) = (j : Int) by omega]
      have hj0 : (j : Int) < n := by omega
      have hj1 : j < n := by omega
      clear hj
      have hR : Reads (wr.alloc (.cells #[Value.int .i64 x] 2)) (wr.heap.size + 1) 1 (some ⟨wr.heap.size, 0, none⟩) 1 [Value.int .i64 x] :=
        ⟨rfl, fun _ => ⟨_, rfl, Nat.lt_succ_self _, fun q u hu => by
          rcases q with _ | q
          · simp at hu; subst hu; first | done | (go_simp; done)
          · simp at hu⟩⟩
      have hO := HO.out.alloc (.cells #[Value.int .i64 x] 2)
      have H1 := Lib.hid (one_ints [x])
      have HH := Lib.hid (And.intro hR (And.intro hO (Nat.le_trans kb.size (by simp) : w.heap.size ≤ (wr.alloc (.cells #[Value.int .i64 x] 2)).heap.size)))
      clear hR hO
      have hnj : n - j = (n - (j + 1)) + 1 := by omega
      have HJ := Lib.hid hnj
      clear hnj
      go_wp2_with (at_builtin; refine wpList_append_any _ rfl (.tmp 28) (.tmp 33) _ rfl w.heap.size 2 i0 _ 1 8 Try.underlying38 hi0 hz0 hz1 hz2 rfl (by omega) _ (n - (j + 1)) _ rfl HH.out.2.1 (wr.heap.size + 1) _ 1 _ _ rfl HH.out.1 H1.out (by simp only [maxLen]; omega) (by omega) HH.out.2.2 ?_; intro v1 w1 hown1 hg1 hat1)
      go_roundw
      case rel =>
        refine ⟨j, by omega, by go_num, Lib.hid ?_, ?_⟩
        · rw [HJ.out, rev_take HN.out HX.out]
          simpa using hown1
        · have h2 : Below w.heap.size w (wr.alloc (.cells #[Value.int .i64 x] 2)) := kb.alloc kb.size _
          exact h2.grown hg1 h2.size (fun k hk => (HO.out.lt k hk).1)
      case measure => first | (simp [intOf]; done) | (simp [intOf]; omega)
theorem numTurned_any (A : Option Addr) (n c : Nat) (xs : List Int) (at' : Int) (w : World) (hn : xs.length = n) (hnc : n ≤ c) (hr : Reads w w.heap.size 1 A n (xs.map (Value.int .i64))) (hb : i64s xs) (hm : n * 8 ≤ reachBytes) :
    Calls Try.prog 5 #[.slice A n c, .int .i64 at'] w fun e w' => e = .returned (.bool true) ∧ Below w.heap.size w w' := by
  rcases Nat.eq_zero_or_pos n with h0 | h0
  · subst h0
    exact numTurned_nil A c at' w
  · obtain ⟨ad, rfl, _⟩ := hr.2 h0
    exact numTurned_pos ad n c xs at' w hn hnc hr hb hm h0
theorem slice_cap {H : Type} {enc : TypeId × Value → H} {P : Program} {w : World} {base : Nat} {spare : Nat → Bool} {held : Bool} {t e : TypeId} {A : Option Addr} {n c : Nat} {d : DataW H} {p : List MemPlace}
    (ht : P.underlying t = some (.slice e)) (he : P.underlying e = some (.int .i64)) (hc : P.cellsOf e = 1) (h : DataW.Trod enc P w base spare held t (.slice A n c) d p) : n ≤ c := by
  obtain ⟨fuel, hf⟩ := h
  rcases open_ints ht he hc hf with ⟨h1, _⟩ | ⟨a, len, cap, zs, h1, hb, hl, _⟩
  · simp [Value.cells] at h1
    omega
  · simp [Value.cells] at h1
    omega
theorem numTurned_lifted (os : Os) (started : os.Started) (H : Type) (enc : TypeId × Value → H) :
    ReturnsInHanded {} Try.checked os 5 .any (Rows.numTurnedSpec.pre6 enc Try.prog Try.f5 Rows.numTurnedRow.domain false) (Rows.numTurnedSpec.post enc Try.prog Try.f5 false true false false) := by
  refine returnsInHanded_of_change_sized (C := Try.checked) own started (by kernel_rfl) Try.func5
    (ChangeSpec.witness6 (enc := enc) (C := Try.checked) false ⟨#[], #[.slice none 0 0, .int .i64 0], []⟩ 8 (by kernel_rfl) (by kernel_rfl) (by kernel_rfl) (by kernel_rfl)) ?_
  intro W base args ds gs before hval hW _ hsz _
  have hW' := hW
  obtain ⟨p, q, hA, hV, rfl, hfz, hnd⟩ := hW
  obtain ⟨rfl, rfl⟩ := trodVars_none hV
  rw [Try.params5] at hA hval
  obtain ⟨v0, vs0, d0, ds0, p0, q0, hargs, rfl, rfl, h0, r0⟩ := trodAll_cons hA
  obtain ⟨v1, vs1, d1, ds1, p1, q1, rfl, rfl, rfl, h1, r1⟩ := trodAll_cons r0
  obtain ⟨rfl, rfl, rfl⟩ := trodAll_nil r1
  obtain rfl : args = #[v0, v1] := by cases args; simp_all
  obtain ⟨A, n, c, xs, rfl, hn, _, hi, hr, hds⟩ := open_i64s Try.underlying38 Try.underlying2 (by kernel_rfl) (hval 0 _ v0 rfl rfl) h0
  have hnc := slice_cap Try.underlying38 Try.underlying2 (by kernel_rfl) h0
  obtain ⟨k, rfl, _, _, wk⟩ := open_int Try.underlying3 (hval 1 _ v1 rfl rfl) h1
  refine (numTurned_any A n c xs k W hn hnc hr hi (small_i64s hsz (j := 0) rfl rfl Try.underlying38 (by kernel_rfl) hds)).mono fun e W' ⟨he, hg⟩ => ?_
  subst he
  exact ⟨_, rfl, law_post laidOut rfl (by kernel_rfl) rfl Try.underlying4 rfl hW' hg⟩

theorem numTurned_holds : Rows.NumTurnedSaid :=
  OpenClaim.holds_of_wide 5 Try.f5 rfl rfl rfl rfl rfl rfl rfl ⟨rfl, rfl, rfl, rfl, rfl⟩ rfl rfl rfl rfl rfl (by kernel_rfl) Try.func5 (by kernel_rfl)
    (of_decide_eq_true (by kernel_rfl)) (by unfold Func.isWrapper; first | (rw [if_pos (by decide +kernel)]; kernel_rfl) | (rw [if_neg (by decide +kernel)]; exact ⟨rfl, rfl⟩))
    (fun os started H enc _ => numTurned_lifted os started H enc)

end Go.Proofs.Ytmgpknadefhikaa
