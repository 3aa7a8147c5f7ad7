/- Sums and sums of squares over a list: num and eddyref01. -/
import Derived.Test.YtlcbfabdfpdcgaaNumQ
import Derived.Test.YtlcbfabdfpdcgaaReads
import Derived.Test.YtlcbfabdfpdcgaaQuiet
namespace Go.Proofs.Ytlcbfabdfpdcgaa
open Go.RowKit
def sqOne (x : Int) : W := wideN (x.natAbs * x.natAbs)
def sqL (xs : List Int) : W := xs.foldl (fun s x => addW s (sqOne x)) zeroW
theorem sqL_ok (xs : List Int) : (sqL xs).ok := by
  unfold sqL
  rcases List.eq_nil_or_concat xs with rfl | ⟨ys, y, rfl⟩
  · exact zeroW_ok
  · rw [List.concat_eq_append, List.foldl_append]; exact addW_ok _ _
theorem sqL_snoc (xs : List Int) (k : Nat) (h : k < xs.length) : sqL (xs.take (k + 1)) = addW (sqL (xs.take k)) (sqOne xs[k]) := by
  unfold sqL
  rw [List.take_succ_eq_append_getElem h, List.foldl_append]
  rfl
theorem wideN_ok (n : Nat) (h : n < 18446744073709551616 * 18446744073709551616) : (wideN n).ok := ⟨⟨by simp only [wideN]; omega, by simp only [wideN]; omega⟩, ⟨by simp only [wideN]; omega, by simp only [wideN]; omega⟩⟩
theorem sqOne_ok {x : Int} (h0 : -9223372036854775808 ≤ x) (h1 : x < 9223372036854775808) : (sqOne x).ok :=
  wideN_ok _ (Nat.mul_lt_mul'' (by omega) (by omega))
def i64s (xs : List Int) : Prop := ∀ x ∈ xs, -9223372036854775808 ≤ x ∧ x < 9223372036854775808
theorem uneg {x : Int} (h0 : -9223372036854775808 ≤ x) (h1 : x < 0) : IntKind.u64.wrap (-IntKind.u64.wrap x) = (x.natAbs : Int) := by
  simp only [IntKind.wrap_u64]; omega

theorem nsizeB {x : Int} (h0 : -9223372036854775808 ≤ x) (h1 : x < 9223372036854775808) (w : World) :
    Calls Try.prog 46 #[.int .i64 x] w fun e w' => e = .returned (.int .u64 (absI x)) ∧ Below w.heap.size w w' :=
  (nsize_any x w h0 h1).mono fun _ _ h => ⟨h.1, h.2 ▸ Below.refl _ _⟩
theorem rsqone {x : Int} (h0 : -9223372036854775808 ≤ x) (h1 : x < 9223372036854775808) (w : World) :
    Calls Try.prog 45 #[.int .u64 (absI x)] w fun e w' => e = .returned (.agg #[.int .u64 (sqOne x).hi, .int .u64 (sqOne x).lo]) ∧ Below w.heap.size w w' :=
  square_any x.natAbs (by omega) w
theorem sqmul {x : Int} (h0 : -9223372036854775808 ≤ x) (h1 : x < 9223372036854775808) (w : World) :
    Calls Try.prog 42 #[.int .u64 (x.natAbs : Int), .int .u64 (x.natAbs : Int)] w fun e w' => e = .returned (.tuple #[.int .u64 (sqOne x).hi, .int .u64 (sqOne x).lo]) ∧ w = w' :=
  mul64_any x.natAbs x.natAbs w (by omega) (by omega)
set_option maxHeartbeats 1000000 in
theorem squares_any (A : Option Addr) (n c : Nat) (xs : List Int) (w : World) (hn : xs.length = n) (hr : Reads w w.heap.size 1 A n (xs.map (Value.int .i64))) (hb : i64s xs) (hm : n ≤ maxLen) :
    Calls Try.prog 30 #[.slice A n c] w fun e w' => e = .returned (.agg #[.int .u64 (sqL xs).hi, .int .u64 (sqL xs).lo]) ∧ Below w.heap.size w w' := by
  unfold maxLen at hm
  subst hn
  go_enter Try.func30, Try.ntmps30
  go_wp2
  go_loopw [11] (fun i w' => ∃ k : Nat, k ≤ xs.length ∧ i = .int .i64 k ∧ KeptC w [(⟨w.heap.size, 0, none⟩, .int .u64 0), (⟨w.heap.size, 1, none⟩, .int .u64 0), (⟨w.heap.size + 1, 0, none⟩, .int .u64 (sqL (xs.take k)).hi), (⟨w.heap.size + 1, 1, none⟩, .int .u64 (sqL (xs.take k)).lo)] [⟨w.heap.size, 0, none⟩, ⟨w.heap.size, 1, none⟩, ⟨w.heap.size + 1, 0, none⟩, ⟨w.heap.size + 1, 1, none⟩] w') (fun i _ => xs.length - (intOf i).toNat)
  case atStart => exact ⟨0, Nat.zero_le _, rfl, by rw [show sqL (xs.take 0) = ⟨0, 0⟩ from rfl]; exact (by (repeat' (first | refine KeptC.cons ?_ ?_ | refine KeptC.consF ?_ ?_ ?_ | refine KeptC.mk0 ?_)); all_goals (first | with_reducible assumption | (go_simp; done) | (simp; omega) | exact (by repeat (first | with_reducible refine Below.setCell ?_ (by first | (simp; done) | (simp; omega) | omega) _ | with_reducible refine Below.alloc ?_ (by first | (simp; done) | (simp; omega) | omega) _ | with_reducible refine Below.drew ?_ | with_reducible exact Below.refl _ _))))⟩
  case round =>
    obtain ⟨k, hk, rfl, hK⟩ := hrel
    simp only [KeptC, List.forall_mem_cons] at hK; obtain ⟨kb0, ⟨kc0_0, kc0_1, kc0_2, kc0_3, _⟩, ⟨kz0_0, kg0_0⟩, ⟨kz0_1, kg0_1⟩, ⟨kz0_2, kg0_2⟩, ⟨kz0_3, kg0_3⟩, _⟩ := hK
    have hr' := hr.below kb0
    by_cases hlt : k < xs.length
    · have HS := Lib.hid (sqL_snoc xs k hlt)
      obtain ⟨ad, u, rfl, hab, hx, hc⟩ := hr'.at_ hlt
      obtain rfl : Value.int .i64 xs[k] = u := by simpa [List.getElem?_eq_getElem hlt] using hx
      obtain ⟨b0, b1⟩ := hb xs[k] (List.getElem_mem hlt)
      have ok1 := sqL_ok (xs.take k)
      have ok2 := sqOne_ok b0 b1
      have cm := sqmul b0 b1
      clear hx hr hr'
      generalize xs[k] = x at *
      generalize sqL (xs.take k) = s at *
      generalize sqOne x = q at *
      obtain ⟨sh, sl⟩ := s
      obtain ⟨qh, ql⟩ := q
      have ca := fun w => wadd_any sh sl qh ql w ok1.1 ok1.2 ok2.1 ok2.2
      generalize addW ⟨sh, sl⟩ ⟨qh, ql⟩ = r at *
      generalize okW ⟨sh, sl⟩ ⟨qh, ql⟩ = b at *
      obtain ⟨rh, rl⟩ := r
      have CA := Lib.hid ca
      clear ca ok1 ok2
      have hm' : ∃ m : Int, Hid (∀ w : World, Calls Try.prog 42 #[.int .u64 m, .int .u64 m] w fun e w' => e = .returned (.tuple #[.int .u64 qh, .int .u64 ql]) ∧ w = w') ∧ ((x < 0 ∧ m = IntKind.u64.wrap (-IntKind.u64.wrap x)) ∨ (0 ≤ x ∧ m = x)) := by
        by_cases hneg : x < 0
        · exact ⟨_, Lib.hid (by rw [← uneg b0 hneg] at cm; exact cm), .inl ⟨hneg, rfl⟩⟩
        · exact ⟨_, Lib.hid (by rw [show (x.natAbs : Int) = x by omega] at cm; exact cm), .inr ⟨by omega, rfl⟩⟩
      clear cm
      rcases hm' with ⟨m, CM, ⟨hneg, rfl⟩ | ⟨hneg, rfl⟩⟩
      all_goals
        go_wp2_with (fail)
        refine (CM.out _).mono ?_; rintro e w2 ⟨rfl, rfl⟩
        go_wp2_with (fail)
        refine (CA.out _).mono ?_; rintro e w1 ⟨rfl, hb1⟩; obtain ⟨hc1, hf1⟩ := bcell hb1; have hz1 := hb1.size; (try simp at hz1); have hz1_0 : w.heap.size < w1.heap.size := (by omega); have hz1_1 : w.heap.size + 1 < w1.heap.size := (by omega)
        go_wp2
        go_roundw
        case rel => exact ⟨k + 1, by omega, by go_num, by rw [HS.out]; exact (by (repeat' (first | refine KeptC.cons ?_ ?_ | refine KeptC.consF ?_ ?_ ?_ | refine KeptC.mk0 ?_)); all_goals (first | with_reducible assumption | (go_simp; done) | (simp; omega) | exact (by repeat (first | with_reducible refine Below.setCell ?_ (by first | (simp; done) | (simp; omega) | omega) _ | with_reducible refine Below.alloc ?_ (by first | (simp; done) | (simp; omega) | omega) _ | with_reducible refine Below.drew ?_ | with_reducible exact Below.refl _ _ | with_reducible refine Below.trans ?_ (Below.mono hb1 (by first | (simp; done) | (simp; omega) | omega)) | with_reducible refine Below.trans ?_ (Below.mono kb0 (by first | (simp; done) | (simp; omega) | omega))))))⟩
        case measure => simp [intOf]; omega
    · have hke : k = xs.length := by omega
      subst hke
      rw [List.take_length] at *
      generalize hs : sqL xs = s at *
      obtain ⟨sh, sl⟩ := s
      have HX := Lib.hid hs
      clear hr hr' hs
      go_wp2
      refine bodyPost_ret (v := .agg #[.int .u64 sh, .int .u64 sl]) (by simp [results, Try.results30, go_sem, *]) rfl ⟨by rw [HX.out], (by repeat (first | with_reducible refine Below.setCell ?_ (by first | (simp; done) | (simp; omega) | omega) _ | with_reducible refine Below.alloc ?_ (by first | (simp; done) | (simp; omega) | omega) _ | with_reducible refine Below.drew ?_ | with_reducible exact Below.refl _ _ | with_reducible refine Below.trans ?_ (Below.mono kb0 (by first | (simp; done) | (simp; omega) | omega))))⟩
set_option maxHeartbeats 1000000 in
theorem rsquares_any (A : Option Addr) (n c : Nat) (xs : List Int) (w : World) (hn : xs.length = n) (hr : Reads w w.heap.size 1 A n (xs.map (Value.int .i64))) (hb : i64s xs) (hm : n ≤ maxLen) :
    Calls Try.prog 32 #[.slice A n c] w fun e w' => e = .returned (.agg #[.int .u64 (sqL xs).hi, .int .u64 (sqL xs).lo]) ∧ Below w.heap.size w w' := by
  unfold maxLen at hm
  subst hn
  go_enter Try.func32, Try.ntmps32
  go_wp2
  go_loopw [4] (fun i w' => ∃ k : Nat, k ≤ xs.length ∧ i = .int .i64 k ∧ KeptC w [(⟨w.heap.size, 0, none⟩, .int .u64 0), (⟨w.heap.size, 1, none⟩, .int .u64 0), (⟨w.heap.size + 1, 0, none⟩, .int .u64 (sqL (xs.take k)).hi), (⟨w.heap.size + 1, 1, none⟩, .int .u64 (sqL (xs.take k)).lo)] [⟨w.heap.size, 0, none⟩, ⟨w.heap.size, 1, none⟩, ⟨w.heap.size + 1, 0, none⟩, ⟨w.heap.size + 1, 1, none⟩] w') (fun i _ => xs.length - (intOf i).toNat)
  case atStart => exact ⟨0, Nat.zero_le _, rfl, by rw [show sqL (xs.take 0) = ⟨0, 0⟩ from rfl]; exact (by (repeat' (first | refine KeptC.cons ?_ ?_ | refine KeptC.consF ?_ ?_ ?_ | refine KeptC.mk0 ?_)); all_goals (first | with_reducible assumption | (go_simp; done) | (simp; omega) | exact (by repeat (first | with_reducible refine Below.setCell ?_ (by first | (simp; done) | (simp; omega) | omega) _ | with_reducible refine Below.alloc ?_ (by first | (simp; done) | (simp; omega) | omega) _ | with_reducible refine Below.drew ?_ | with_reducible exact Below.refl _ _))))⟩
  case round =>
    obtain ⟨k, hk, rfl, hK⟩ := hrel
    simp only [KeptC, List.forall_mem_cons] at hK; obtain ⟨kb0, ⟨kc0_0, kc0_1, kc0_2, kc0_3, _⟩, ⟨kz0_0, kg0_0⟩, ⟨kz0_1, kg0_1⟩, ⟨kz0_2, kg0_2⟩, ⟨kz0_3, kg0_3⟩, _⟩ := hK
    have hr' := hr.below kb0
    by_cases hlt : k < xs.length
    · have HS := Lib.hid (sqL_snoc xs k hlt)
      obtain ⟨ad, u, rfl, hab, hx, hc⟩ := hr'.at_ hlt
      obtain rfl : Value.int .i64 xs[k] = u := by simpa [List.getElem?_eq_getElem hlt] using hx
      obtain ⟨b0, b1⟩ := hb xs[k] (List.getElem_mem hlt)
      have ok1 := sqL_ok (xs.take k)
      have ok2 := sqOne_ok b0 b1
      have cm := fun w => rsqone b0 b1 w
      have cs := fun w => nsizeB b0 b1 w
      clear hx hr hr'
      generalize xs[k] = x at *
      generalize sqL (xs.take k) = s at *
      generalize sqOne x = q at *
      generalize absI x = m at *
      obtain ⟨sh, sl⟩ := s
      obtain ⟨qh, ql⟩ := q
      have ca := fun w => wrsum_any sh sl qh ql w ok1.1 ok1.2 ok2.1 ok2.2
      generalize addW ⟨sh, sl⟩ ⟨qh, ql⟩ = r at *
      obtain ⟨rh, rl⟩ := r
      have CA := Lib.hid ca; have CM := Lib.hid cm; have CS := Lib.hid cs
      clear ca cm cs ok1 ok2
      go_wp2_with (fail)
      refine wp_region_quietC_tail (KeptC w [(⟨w.heap.size, 0, none⟩, .int .u64 0), (⟨w.heap.size, 1, none⟩, .int .u64 0), (⟨w.heap.size + 1, 0, none⟩, .int .u64 sh), (⟨w.heap.size + 1, 1, none⟩, .int .u64 sl), (ad.add k, .int .i64 x)] [⟨w.heap.size, 0, none⟩, ⟨w.heap.size, 1, none⟩, ⟨w.heap.size + 1, 0, none⟩, ⟨w.heap.size + 1, 1, none⟩]) 8 (by kernel_rfl) (by kernel_rfl) ?_ ?_
      · refine KeptC.drewn ?_
        repeat' (first | refine KeptC.cons ?_ ?_ | refine KeptC.consF ?_ ?_ ?_ | refine KeptC.mk0 ?_)
        all_goals (first | with_reducible assumption | (go_simp; done) | (simp; omega) | exact (by repeat (first | with_reducible refine Below.setCell ?_ (by first | (simp; done) | (simp; omega) | omega) _ | with_reducible refine Below.alloc ?_ (by first | (simp; done) | (simp; omega) | omega) _ | with_reducible refine Below.drew ?_ | with_reducible exact Below.refl _ _ | with_reducible refine Below.trans ?_ (Below.mono kb0 (by first | (simp; done) | (simp; omega) | omega)))))
      simp only [List.take_succ_cons, List.take_zero, List.drop_succ_cons, List.drop_zero]
      repeat (first
        | go_big_quiet_skip
        | (go_big_quiet_want; (apply quietC_run); (· intro w' hw'; (have hk' := hw'; simp only [KeptC, List.forall_mem_cons] at hk'; go_split_ands); go_simp; first | done | rfl); (simp only [Act.put, List.setIfInBounds_toArray, List.set_cons_zero, List.set_cons_succ]; go_big_quiet_on))
        | (go_big_quiet_want; (apply quietC_call); (· intro w' hw'; go_simp; first | done | exact ⟨rfl, rfl⟩ | rfl); (· intro w' hw'; first | ((with_reducible refine (CA.out _).mono ?_); rintro e w2 ⟨rfl, hb⟩; exact ⟨rfl, hw'.below hb⟩) | ((with_reducible refine (CM.out _).mono ?_); rintro e w2 ⟨rfl, hb⟩; exact ⟨rfl, hw'.below hb⟩) | ((with_reducible refine (CS.out _).mono ?_); rintro e w2 ⟨rfl, hb⟩; exact ⟨rfl, hw'.below hb⟩)); (simp only [Act.put, List.setIfInBounds_toArray, List.set_cons_zero, List.set_cons_succ]; go_big_quiet_on)))
      refine wpQuiet_nil ?_
      intro w1 hk1
      (have hk' := hk1; simp only [KeptC, List.forall_mem_cons] at hk'; go_split_ands); have hkB1 := hk1.1
      have hz1_0 : w.heap.size < w1.heap.size := cell_lt (a := ⟨w.heap.size, 0, none⟩) (by assumption)
      have hz1_1 : w.heap.size + 1 < w1.heap.size := cell_lt (a := ⟨w.heap.size + 1, 0, none⟩) (by assumption)
      go_wp2
      go_roundw
      case rel => exact ⟨k + 1, by omega, by go_num, by rw [HS.out]; exact (by (repeat' (first | refine KeptC.cons ?_ ?_ | refine KeptC.consF ?_ ?_ ?_ | refine KeptC.mk0 ?_)); all_goals (first | with_reducible assumption | (go_simp; done) | (simp; omega) | exact (by repeat (first | with_reducible refine Below.setCell ?_ (by first | (simp; done) | (simp; omega) | omega) _ | with_reducible refine Below.alloc ?_ (by first | (simp; done) | (simp; omega) | omega) _ | with_reducible refine Below.drew ?_ | with_reducible exact Below.refl _ _ | with_reducible refine Below.trans ?_ (Below.mono hkB1 (by first | (simp; done) | (simp; omega) | omega))))))⟩
      case measure => simp [intOf]; omega
    · have hke : k = xs.length := by omega
      subst hke
      rw [List.take_length] at *
      generalize hs : sqL xs = s at *
      obtain ⟨sh, sl⟩ := s
      have HX := Lib.hid hs
      clear hr hr' hs
      go_wp2
      refine bodyPost_ret (v := .agg #[.int .u64 sh, .int .u64 sl]) (by simp [results, Try.results32, go_sem, *]) rfl ⟨by rw [HX.out], (by repeat (first | with_reducible refine Below.setCell ?_ (by first | (simp; done) | (simp; omega) | omega) _ | with_reducible refine Below.alloc ?_ (by first | (simp; done) | (simp; omega) | omega) _ | with_reducible refine Below.drew ?_ | with_reducible exact Below.refl _ _ | with_reducible refine Below.trans ?_ (Below.mono kb0 (by first | (simp; done) | (simp; omega) | omega))))⟩
end Go.Proofs.Ytlcbfabdfpdcgaa
