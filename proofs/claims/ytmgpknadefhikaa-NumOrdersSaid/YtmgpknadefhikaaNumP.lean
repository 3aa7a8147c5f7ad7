/- Wide numbers as natural ones, and the text that is read as one: num.Parse and eddyref01.Parse. -/
import Derived.Test.YtmgpknadefhikaaNumQ
import Derived.Test.YtmgpknadefhikaaQuiet
import Derived.WalkMore
import Derived.Laws.Strings
namespace Go.Proofs.Ytmgpknadefhikaa
open Go.RowKit
def M128 : Nat := 340282366920938463463374607431768211456
theorem wide_add (a b : Nat) (ha : a < M128) (hb : b < M128) : addW (wideN a) (wideN b) = wideN ((a + b) % M128) := by
  unfold M128 at *
  simp only [addW, wideN, addH, W.mk.injEq]
  omega
theorem wide_ok (a b : Nat) (ha : a < M128) (hb : b < M128) : okW (wideN a) (wideN b) = decide (a + b < M128) := by
  unfold M128 at *
  rw [Bool.eq_iff_iff]
  simp only [okW, decide_eq_true_eq]
  simp only [addH, wideN]
  omega
theorem wideN_ok' (n : Nat) (h : n < M128) : (wideN n).ok := by
  unfold M128 at h
  exact ⟨⟨by simp only [wideN]; omega, by simp only [wideN]; omega⟩, ⟨by simp only [wideN]; omega, by simp only [wideN]; omega⟩⟩
theorem wadd_n (a b : Nat) (ha : a < M128) (hb : b < M128) (w : World) :
    Calls Try.prog 35 #[.agg #[.int .u64 (wideN a).hi, .int .u64 (wideN a).lo], .agg #[.int .u64 (wideN b).hi, .int .u64 (wideN b).lo]] w fun e w' => e = .returned (.tuple #[.agg #[.int .u64 (wideN ((a + b) % M128)).hi, .int .u64 (wideN ((a + b) % M128)).lo], .bool (decide (a + b < M128))]) ∧ Below w.heap.size w w' := by
  have h := wadd_any (wideN a).hi (wideN a).lo (wideN b).hi (wideN b).lo w (wideN_ok' a ha).1 (wideN_ok' a ha).2 (wideN_ok' b hb).1 (wideN_ok' b hb).2
  rw [← wide_add a b ha hb, ← wide_ok a b ha hb]
  exact h
def plusN (a b : Nat) : W × Bool := if a + b < M128 then (wideN (a + b), true) else (zeroW, false)
theorem wide_plus (a b : Nat) (ha : a < M128) (hb : b < M128) : plusW (wideN a) (wideN b) = plusN a b := by
  unfold plusW plusN
  rw [wide_ok a b ha hb, wide_add a b ha hb]
  by_cases h : a + b < M128
  · simp only [h, decide_true, if_true]; rw [Nat.mod_eq_of_lt h]
  · simp [h]
theorem wrplus_n (a b : Nat) (ha : a < M128) (hb : b < M128) (w : World) :
    Calls Try.prog 30 #[.agg #[.int .u64 (wideN a).hi, .int .u64 (wideN a).lo], .agg #[.int .u64 (wideN b).hi, .int .u64 (wideN b).lo]] w fun e w' => e = .returned (.tuple #[.agg #[.int .u64 (plusN a b).1.hi, .int .u64 (plusN a b).1.lo], .bool (plusN a b).2]) ∧ Below w.heap.size w w' := by
  have h := wrplus_any (wideN a).hi (wideN a).lo (wideN b).hi (wideN b).lo w (wideN_ok' a ha).1 (wideN_ok' a ha).2 (wideN_ok' b hb).1 (wideN_ok' b hb).2
  rw [show plusW ⟨(wideN a).hi, (wideN a).lo⟩ ⟨(wideN b).hi, (wideN b).lo⟩ = plusN a b from wide_plus a b ha hb] at h
  exact h
/-- A digit's byte. -/
def digB (c : UInt8) : Bool := decide (48 ≤ c.toNat) && decide (c.toNat ≤ 57)
def dig (c : UInt8) : Nat := c.toNat - 48
/-- What the digits make behind a. -/
def parseL : List UInt8 → Nat → Option Nat
  | [], a => some a
  | c :: cs, a => if digB c && decide (a * 10 + dig c < M128) then parseL cs (a * 10 + dig c) else none
def badHead (l : List UInt8) : Bool := l.isEmpty || decide (39 < l.length) || (l.head? == some 48 && decide (1 < l.length))
def parseN (l : List UInt8) : Option Nat := if badHead l then none else parseL l 0
def outV : Option Nat → W × Int
  | some n => (wideN n, 0)
  | none => (zeroW, 20)
def parseV (l : List UInt8) : W × Int := outV (parseN l)
theorem parseL_step (l : List UInt8) (k : Nat) (h : k < l.length) (a : Nat) :
    parseL (l.drop k) a = if digB l[k] && decide (a * 10 + dig l[k] < M128) then parseL (l.drop (k + 1)) (a * 10 + dig l[k]) else none := by
  rw [List.drop_eq_getElem_cons h]; rfl
theorem str_nil {s : ByteArray} (h : s.size = 0) : s = ⟨#[]⟩ := by
  obtain ⟨d⟩ := s
  congr 1
  exact Array.eq_empty_of_size_eq_zero h
theorem str_ne {s : ByteArray} (h : 0 < s.size) : s.toList.isEmpty = false ∧ ¬ s.toList = [] := by
  have e : s.toList.length = s.size := by rw [ByteArray.toList_eq]; rfl
  constructor
  · cases hx : s.toList with
    | nil => rw [hx] at e; simp at e; omega
    | cons _ _ => rfl
  · intro hx; rw [hx] at e; simp at e; omega
theorem head_get {s : ByteArray} (h0 : 0 < s.size) : s.data.toList.head? = some s[0] := by
  have : 0 < s.data.toList.length := by simpa using h0
  rw [List.head?_eq_getElem?, List.getElem?_eq_getElem this]; rfl
theorem head_of {s : ByteArray} (h0 : 0 < s.size) (n1 : s.toList.isEmpty = false) (h1 : ¬ 39 < s.size) (h : badHead s.data.toList = true) : ((s[0].toNat : Int) == 48) = true ∧ 1 < s.size := by
  unfold badHead at h
  rw [head_get h0] at h
  have hl : s.data.toList.length = s.size := rfl
  have hn : s.data.toList.isEmpty = false := by
    cases hx : s.data.toList with
    | nil => rw [hx] at hl; simp at hl; omega
    | cons _ _ => rfl
  rw [hn, hl] at h
  simp only [Bool.false_or, Bool.or_eq_true, Bool.and_eq_true, decide_eq_true_eq, h1, false_or, beq_iff_eq, Option.some.injEq] at h
  refine ⟨by rw [h.1]; rfl, h.2⟩
set_option maxHeartbeats 2000000 in
theorem parse_bad (s : ByteArray) (w : World) (hs : s.size ≤ maxLen) (h : badHead s.data.toList = true) :
    Calls Try.prog 10 #[.string s] w fun e w' => e = .returned (.tuple #[.agg #[.int .u64 0, .int .u64 0], .int .i64 20]) ∧ Below w.heap.size w w' := by
  unfold maxLen at hs
  rcases Nat.eq_zero_or_pos s.size with h0 | h0
  · obtain rfl := str_nil h0
    clear h hs h0
    go_enter Try.func10, Try.ntmps10
    go_wp2
    refine bodyPost_ret (v := .tuple #[.agg #[.int .u64 0, .int .u64 0], .int .i64 20]) (by simp [results, Try.results10, go_sem]) rfl ⟨rfl, (by repeat (first | with_reducible refine Below.setCell ?_ (by first | (simp; done) | (simp; omega) | omega) _ | with_reducible refine Below.alloc ?_ (by first | (simp; done) | (simp; omega) | omega) _ | with_reducible refine Below.drew ?_ | with_reducible exact Below.refl _ _))⟩
  · obtain ⟨n1, n2⟩ := str_ne h0
    by_cases h1 : 39 < s.size
    · have h1' : (39 : Int) < s.size := by omega
      clear h
      go_enter Try.func10, Try.ntmps10
      go_wp2
      refine bodyPost_ret (v := .tuple #[.agg #[.int .u64 0, .int .u64 0], .int .i64 20]) (by simp [results, Try.results10, go_sem]) rfl ⟨rfl, (by repeat (first | with_reducible refine Below.setCell ?_ (by first | (simp; done) | (simp; omega) | omega) _ | with_reducible refine Below.alloc ?_ (by first | (simp; done) | (simp; omega) | omega) _ | with_reducible refine Below.drew ?_ | with_reducible exact Below.refl _ _))⟩
    · have hh := head_of h0 n1 h1 h
      obtain ⟨g1, g2⟩ := hh
      have h1' : (s.size : Int) ≤ 39 := by omega
      have g2' : (1 : Int) < s.size := by omega
      clear h
      go_enter Try.func10, Try.ntmps10
      go_wp2
      refine bodyPost_ret (v := .tuple #[.agg #[.int .u64 0, .int .u64 0], .int .i64 20]) (by simp [results, Try.results10, go_sem]) rfl ⟨rfl, (by repeat (first | with_reducible refine Below.setCell ?_ (by first | (simp; done) | (simp; omega) | omega) _ | with_reducible refine Below.alloc ?_ (by first | (simp; done) | (simp; omega) | omega) _ | with_reducible refine Below.drew ?_ | with_reducible exact Below.refl _ _))⟩
theorem head_good {s : ByteArray} (h : badHead s.data.toList = false) : 0 < s.size ∧ s.size ≤ 39 ∧ ∀ h0 : 0 < s.size, (((s[0].toNat : Int) == 48) = false ∨ (((s[0].toNat : Int) == 48) = true ∧ s.size = 1)) := by
  have hl : s.data.toList.length = s.size := rfl
  unfold badHead at h
  simp only [Bool.or_eq_false_iff, decide_eq_false_iff_not, Bool.and_eq_false_iff] at h
  obtain ⟨⟨h1, h2⟩, h3⟩ := h
  have hp : 0 < s.size := by
    rcases Nat.eq_zero_or_pos s.size with h0 | h0
    · rw [str_nil h0] at h1; simp at h1
    · exact h0
  refine ⟨hp, by omega, fun h0 => ?_⟩
  rw [head_get h0] at h3
  rcases h3 with h3 | h3
  · left
    cases hx : ((s[0].toNat : Int) == 48) with
    | false => rfl
    | true =>
      exfalso
      have : s[0] = 48 := by
        apply UInt8.toNat_inj.1
        have := eq_of_beq hx
        show s[0].toNat = 48
        omega
      rw [this] at h3
      simp at h3
  · cases hx : ((s[0].toNat : Int) == 48) with
    | false => exact .inl rfl
    | true => exact .inr ⟨rfl, by omega⟩
theorem wadd_d (a d : Nat) (ha : a < M128) (hd : d ≤ 9) (w : World) :
    Calls Try.prog 35 #[.agg #[.int .u64 (wideN a).hi, .int .u64 (wideN a).lo], .agg #[.int .u64 0, .int .u64 (d : Int)]] w fun e w' => e = .returned (.tuple #[.agg #[.int .u64 (wideN ((a + d) % M128)).hi, .int .u64 (wideN ((a + d) % M128)).lo], .bool (decide (a + d < M128))]) ∧ Below w.heap.size w w' := by
  have e : wideN d = ⟨0, d⟩ := by simp only [wideN, W.mk.injEq]; omega
  have h := wadd_n a d ha (by unfold M128; omega) w
  rw [e] at h
  exact h
theorem u8_dig {c : UInt8} (h : digB c = true) : IntKind.u8.wrap ((c.toNat : Int) - 48) = (dig c : Int) ∧ dig c ≤ 9 := by
  simp only [digB, Bool.and_eq_true, decide_eq_true_eq] at h
  unfold dig
  rw [IntKind.wrap_u8]
  omega
theorem u8_not {c : UInt8} (h : digB c = false) : 9 < IntKind.u8.wrap ((c.toNat : Int) - 48) := by
  simp only [digB, Bool.and_eq_false_iff, decide_eq_false_iff_not] at h
  have := c.toNat_lt
  rw [IntKind.wrap_u8]
  omega
theorem mul_step (a j : Nat) : wideN ((j + 1) * a % M128) = wideN ((j * a % M128 + a) % M128) := by
  rw [Nat.succ_mul, Nat.mod_add_mod]
theorem ok_step (a j : Nat) : decide ((j + 1) * a < M128) = (decide (j * a < M128) && decide (j * a % M128 + a < M128)) := by
  rw [Nat.succ_mul]
  by_cases h : j * a < M128
  · rw [Nat.mod_eq_of_lt h]; simp [h]
  · have : ¬ j * a + a < M128 := by omega
    simp [h, this]
set_option maxHeartbeats 4000000 in
theorem parse_good (s : ByteArray) (w : World) (hs : s.size ≤ maxLen) (h : badHead s.data.toList = false) :
    Calls Try.prog 10 #[.string s] w fun e w' => e = .returned (.tuple #[.agg #[.int .u64 (outV (parseL s.data.toList 0)).1.hi, .int .u64 (outV (parseL s.data.toList 0)).1.lo], .int .i64 (outV (parseL s.data.toList 0)).2]) ∧ Below w.heap.size w w' := by
  obtain ⟨h0, h39, hh⟩ := head_good h
  have hh := hh h0
  obtain ⟨n1, n2⟩ := str_ne h0
  clear h hs
  have hst : outV (parseL (s.data.toList.drop 0) 0) = outV (parseL s.data.toList 0) := rfl
  generalize hR : outV (parseL s.data.toList 0) = R at hst ⊢
  clear hR
  obtain ⟨⟨rh, rl⟩, re⟩ := R
  have HST := Lib.hid hst
  clear hst
  have h39' : (s.size : Int) ≤ 39 := by omega
  have hcase : (((s[0].toNat : Int) == 48) = false ∧ 0 < s.size) ∨ (((s[0].toNat : Int) == 48) = true ∧ (s.size : Int) ≤ 1) := by
    rcases hh with h | ⟨h, h'⟩
    · exact .inl ⟨h, h0⟩
    · exact .inr ⟨h, by omega⟩
  clear hh
  rcases hcase with ⟨g1, g2⟩ | ⟨g1, g2⟩
  all_goals
    go_enter Try.func10, Try.ntmps10
    go_wp2
    go_loopw [33] (fun i w' => ∃ k a : Nat, k ≤ s.size ∧ i = .int .i64 k ∧ a < M128 ∧ Hid (outV (parseL (s.data.toList.drop k) a) = (⟨rh, rl⟩, re)) ∧ KeptC w [(⟨w.heap.size, 0, none⟩, .int .u64 0), (⟨w.heap.size, 1, none⟩, .int .u64 0), (⟨w.heap.size + 1, 0, none⟩, .int .u64 (wideN a).hi), (⟨w.heap.size + 1, 1, none⟩, .int .u64 (wideN a).lo)] [⟨w.heap.size, 0, none⟩, ⟨w.heap.size, 1, none⟩, ⟨w.heap.size + 1, 0, none⟩, ⟨w.heap.size + 1, 1, none⟩] w') (fun i _ => s.size - (intOf i).toNat)
    case atStart => exact ⟨0, 0, Nat.zero_le _, rfl, (by decide), HST, by rw [show wideN 0 = ⟨0, 0⟩ from rfl]; exact (by (repeat' (first | refine KeptC.cons ?_ ?_ | refine KeptC.consF ?_ ?_ ?_ | refine KeptC.mk0 ?_)); all_goals (first | with_reducible assumption | (go_simp; done) | (simp; omega) | exact (by repeat (first | with_reducible refine Below.setCell ?_ (by first | (simp; done) | (simp; omega) | omega) _ | with_reducible refine Below.alloc ?_ (by first | (simp; done) | (simp; omega) | omega) _ | with_reducible refine Below.drew ?_ | with_reducible exact Below.refl _ _))))⟩
    case round =>
      obtain ⟨k, a, hk, rfl, ha, HP, hK⟩ := hrel
      obtain ⟨w1, hw1⟩ : ∃ w1, w1 = wr := ⟨_, rfl⟩
      subst hw1
      simp only [KeptC, List.forall_mem_cons] at hK; obtain ⟨kb0, ⟨kc0_0, kc0_1, kc0_2, kc0_3, _⟩, ⟨kz0_0, kg0_0⟩, ⟨kz0_1, kg0_1⟩, ⟨kz0_2, kg0_2⟩, ⟨kz0_3, kg0_3⟩, _⟩ := hK
      clear HST
      by_cases hlt : k < s.size
      · have hst := parseL_step s.data.toList k hlt a
        rw [show s.data.toList[k] = s[k] from rfl] at hst
        generalize hc : s[k] = c at hst
        have HC := Lib.hid hc
        cases hd : digB c with
        | false =>
          rw [hd, Bool.false_and, if_neg (by decide)] at hst
          have hn := u8_not hd
          rw [← hc] at hn
          obtain ⟨e1, hw, hn⟩ : ∃ e1 : Int, IntKind.u8.wrap ((s[k].toNat : Int) - 48) = e1 ∧ 9 < e1 := ⟨_, rfl, hn⟩
          have HS := Lib.hid hst
          clear hst hd hc
          go_wp2
          have e0 := HP.out
          rw [HS.out] at e0
          simp only [outV, zeroW, Prod.mk.injEq, W.mk.injEq] at e0
          obtain ⟨⟨rfl, rfl⟩, rfl⟩ := e0
          refine bodyPost_ret (v := .tuple #[.agg #[.int .u64 0, .int .u64 0], .int .i64 20]) (by simp [results, Try.results10, go_sem, *]) rfl ⟨rfl, (by repeat (first | with_reducible refine Below.setCell ?_ (by first | (simp; done) | (simp; omega) | omega) _ | with_reducible refine Below.alloc ?_ (by first | (simp; done) | (simp; omega) | omega) _ | with_reducible refine Below.drew ?_ | with_reducible exact Below.refl _ _ | with_reducible refine Below.trans ?_ (Below.mono kb0 (by first | (simp; done) | (simp; omega) | omega))))⟩
        | true =>
          rw [hd, Bool.true_and] at hst
          obtain ⟨d, hd0, hw, hd9⟩ : ∃ d : Nat, dig c = d ∧ IntKind.u8.wrap ((s[k].toNat : Int) - 48) = (d : Int) ∧ d ≤ 9 := by
            obtain ⟨hw, hd9⟩ := u8_dig hd
            rw [← hc] at hw hd9 ⊢
            exact ⟨_, rfl, hw, hd9⟩
          rw [hd0] at hst
          have hd9' : (d : Int) ≤ 9 := by omega
          have HS := Lib.hid hst
          have CD := fun w h => wadd_d (10 * a % M128) d h hd9 w
          have CI := fun j w h => wadd_n (j * a % M128) a h ha w
          have HB := Lib.hid (fun x : Nat => Nat.mod_lt x (by decide : 0 < M128))
          clear hst hd hc hd0 hd9
          go_wp2
          go_loopw [8, 44] (fun okv i w' => ∃ j : Nat, j ≤ 10 ∧ i = .int .i64 j ∧ okv = .bool (decide (j * a < M128)) ∧ KeptC w [(⟨w.heap.size, 0, none⟩, .int .u64 0), (⟨w.heap.size, 1, none⟩, .int .u64 0), (⟨w.heap.size + 1, 0, none⟩, .int .u64 (wideN a).hi), (⟨w.heap.size + 1, 1, none⟩, .int .u64 (wideN a).lo), (⟨w1.heap.size, 0, none⟩, .int .u64 (wideN (j * a % M128)).hi), (⟨w1.heap.size, 1, none⟩, .int .u64 (wideN (j * a % M128)).lo)] [⟨w.heap.size, 0, none⟩, ⟨w.heap.size, 1, none⟩, ⟨w.heap.size + 1, 0, none⟩, ⟨w.heap.size + 1, 1, none⟩, ⟨w1.heap.size, 0, none⟩, ⟨w1.heap.size, 1, none⟩] w') (fun _ i _ => 10 - (intOf i).toNat)
          case atStart => exact ⟨0, by omega, rfl, by rw [Nat.zero_mul, decide_eq_true (by decide : 0 < M128)], by rw [Nat.zero_mul, show wideN (0 % M128) = ⟨0, 0⟩ from rfl]; exact (by (repeat' (first | refine KeptC.cons ?_ ?_ | refine KeptC.consF ?_ ?_ ?_ | refine KeptC.mk0 ?_)); all_goals (first | with_reducible assumption | (go_simp; done) | (simp; omega) | exact (by repeat (first | with_reducible refine Below.setCell ?_ (by first | (simp; done) | (simp; omega) | omega) _ | with_reducible refine Below.alloc ?_ (by first | (simp; done) | (simp; omega) | omega) _ | with_reducible refine Below.drew ?_ | with_reducible exact Below.refl _ _ | with_reducible refine Below.trans ?_ (Below.mono kb0 (by first | (simp; done) | (simp; omega) | omega))))))⟩
          case round =>
            obtain ⟨j, hj, rfl, rfl, hK⟩ := hrel
            have kne : w.heap.size + 1 < w1.heap.size := by omega
            clear kb0 kc0_0 kc0_1 kc0_2 kc0_3 kz0_0 kz0_1 kz0_2 kz0_3 kg0_0 kg0_1 kg0_2 kg0_3
            simp only [KeptC, List.forall_mem_cons] at hK; obtain ⟨kb1, ⟨kc1_0, kc1_1, kc1_2, kc1_3, kc1_4, kc1_5, _⟩, ⟨kz1_0, kg1_0⟩, ⟨kz1_1, kg1_1⟩, ⟨kz1_2, kg1_2⟩, ⟨kz1_3, kg1_3⟩, ⟨kz1_4, kg1_4⟩, ⟨kz1_5, kg1_5⟩, _⟩ := hK
            by_cases hj10 : j < 10
            · have ca := fun w => CI j w (HB.out _)
              have hms := mul_step a j
              have hos := ok_step a j
              clear CD CI HB
              generalize decide (j * a % M128 + a < M128) = q at *
              generalize wideN ((j * a % M128 + a) % M128) = nx at *
              generalize wideN (j * a % M128) = tw at *
              generalize wideN a = aw at *
              obtain ⟨nh, nl⟩ := nx; obtain ⟨th, tl⟩ := tw; obtain ⟨ah, al⟩ := aw
              have CA := Lib.hid ca; have HM := Lib.hid hms; have HO := Lib.hid hos
              clear ca hms hos
              generalize decide (j * a < M128) = p at *
              cases p
              all_goals
                go_wp2_with (fail)
                refine (CA.out _).mono ?_; rintro e w2 ⟨rfl, hb2⟩; obtain ⟨hc2, hf2⟩ := bcell hb2; have hz2 := hb2.size; (try simp at hz2); have hz2_0 : w.heap.size < w2.heap.size := (by omega); have hz2_1 : w.heap.size + 1 < w2.heap.size := (by omega); have hz2_2 : w1.heap.size < w2.heap.size := (by omega)
                go_wp2
                go_roundw
                case rel => exact ⟨j + 1, by omega, by go_num, by rw [HO.out]; simp, by rw [HM.out]; exact (by (repeat' (first | refine KeptC.cons ?_ ?_ | refine KeptC.consF ?_ ?_ ?_ | refine KeptC.mk0 ?_)); all_goals (first | with_reducible assumption | (go_simp; done) | (simp; omega) | exact (by repeat (first | with_reducible refine Below.setCell ?_ (by first | (simp; done) | (simp; omega) | omega) _ | with_reducible refine Below.alloc ?_ (by first | (simp; done) | (simp; omega) | omega) _ | with_reducible refine Below.drew ?_ | with_reducible exact Below.refl _ _ | with_reducible refine Below.trans ?_ (Below.mono hb2 (by first | (simp; done) | (simp; omega) | omega)) | with_reducible refine Below.trans ?_ (Below.mono kb1 (by first | (simp; done) | (simp; omega) | omega))))))⟩
                case measure => simp [intOf]; omega
            · obtain rfl : j = 10 := by omega
              have ca := fun w => CD w (HB.out _)
              clear CD CI HB
              generalize hN : wideN ((10 * a % M128 + d) % M128) = nx at *
              generalize hq : decide (10 * a % M128 + d < M128) = q at *
              generalize hp : decide (10 * a < M128) = p at *
              generalize wideN (10 * a % M128) = tw at *
              have HQ := Lib.hid (And.intro hN (And.intro hq hp))
              clear hN hq hp
              obtain ⟨nh, nl⟩ := nx; obtain ⟨th, tl⟩ := tw
              generalize hA : wideN a = aw at *
              obtain ⟨ah, al⟩ := aw
              clear hA
              have CA := Lib.hid ca
              clear ca
              cases p
              · have e0 := HP.out
                rw [HS.out, if_neg (by have := HQ.out.2.2; simp at this ⊢; omega)] at e0
                simp only [outV, zeroW, Prod.mk.injEq, W.mk.injEq] at e0
                obtain ⟨⟨rfl, rfl⟩, rfl⟩ := e0
                go_wp2_with (fail)
                refine (CA.out _).mono ?_; rintro e w2 ⟨rfl, hb2⟩; obtain ⟨hc2, hf2⟩ := bcell hb2; have hz2 := hb2.size; (try simp at hz2); have hz2_0 : w.heap.size < w2.heap.size := (by omega); have hz2_1 : w.heap.size + 1 < w2.heap.size := (by omega); have hz2_2 : w1.heap.size < w2.heap.size := (by omega)
                go_wp2
                refine bodyPost_ret (v := .tuple #[.agg #[.int .u64 0, .int .u64 0], .int .i64 20]) (by simp [results, Try.results10, go_sem, *]) rfl ⟨rfl, (by repeat (first | with_reducible refine Below.setCell ?_ (by first | (simp; done) | (simp; omega) | omega) _ | with_reducible refine Below.alloc ?_ (by first | (simp; done) | (simp; omega) | omega) _ | with_reducible refine Below.drew ?_ | with_reducible exact Below.refl _ _ | with_reducible refine Below.trans ?_ (Below.mono hb2 (by first | (simp; done) | (simp; omega) | omega)) | with_reducible refine Below.trans ?_ (Below.mono kb1 (by first | (simp; done) | (simp; omega) | omega))))⟩
              · cases q
                · have e0 := HP.out
                  rw [HS.out, if_neg (by have h1 := HQ.out.2.2; have h2 := HQ.out.2.1; simp at h1 h2 ⊢; rw [Nat.mod_eq_of_lt h1] at h2; omega)] at e0
                  simp only [outV, zeroW, Prod.mk.injEq, W.mk.injEq] at e0
                  obtain ⟨⟨rfl, rfl⟩, rfl⟩ := e0
                  go_wp2_with (fail)
                  refine (CA.out _).mono ?_; rintro e w2 ⟨rfl, hb2⟩; obtain ⟨hc2, hf2⟩ := bcell hb2; have hz2 := hb2.size; (try simp at hz2); have hz2_0 : w.heap.size < w2.heap.size := (by omega); have hz2_1 : w.heap.size + 1 < w2.heap.size := (by omega); have hz2_2 : w1.heap.size < w2.heap.size := (by omega)
                  go_wp2
                  refine bodyPost_ret (v := .tuple #[.agg #[.int .u64 0, .int .u64 0], .int .i64 20]) (by simp [results, Try.results10, go_sem, *]) rfl ⟨rfl, (by repeat (first | with_reducible refine Below.setCell ?_ (by first | (simp; done) | (simp; omega) | omega) _ | with_reducible refine Below.alloc ?_ (by first | (simp; done) | (simp; omega) | omega) _ | with_reducible refine Below.drew ?_ | with_reducible exact Below.refl _ _ | with_reducible refine Below.trans ?_ (Below.mono hb2 (by first | (simp; done) | (simp; omega) | omega)) | with_reducible refine Below.trans ?_ (Below.mono kb1 (by first | (simp; done) | (simp; omega) | omega))))⟩
                · obtain ⟨hlt2, hwn⟩ : a * 10 + d < M128 ∧ wideN (a * 10 + d) = ⟨nh, nl⟩ := by
                    have h1 := HQ.out.2.2; have h2 := HQ.out.2.1; have h3 := HQ.out.1
                    simp only [decide_eq_true_eq] at h1 h2
                    rw [Nat.mod_eq_of_lt h1] at h2 h3
                    rw [Nat.mod_eq_of_lt h2] at h3
                    rw [Nat.mul_comm a 10]
                    exact ⟨h2, h3⟩
                  have e0 := HP.out
                  rw [HS.out, if_pos (by simpa using hlt2)] at e0
                  have HP2 := Lib.hid e0
                  have HW := Lib.hid hwn
                  have HL := Lib.hid hlt2
                  clear e0 hwn hlt2
                  go_wp2_with (fail)
                  refine (CA.out _).mono ?_; rintro e w2 ⟨rfl, hb2⟩; obtain ⟨hc2, hf2⟩ := bcell hb2; have hz2 := hb2.size; (try simp at hz2); have hz2_0 : w.heap.size < w2.heap.size := (by omega); have hz2_1 : w.heap.size + 1 < w2.heap.size := (by omega); have hz2_2 : w1.heap.size < w2.heap.size := (by omega)
                  go_wp2
                  go_roundw
                  case rel => exact ⟨k + 1, a * 10 + d, by omega, by go_num, HL.out, HP2, by rw [HW.out]; exact (by (repeat' (first | refine KeptC.cons ?_ ?_ | refine KeptC.consF ?_ ?_ ?_ | refine KeptC.mk0 ?_)); all_goals (first | with_reducible assumption | (go_simp; done) | (simp; omega) | exact (by repeat (first | with_reducible refine Below.setCell ?_ (by first | (simp; done) | (simp; omega) | omega) _ | with_reducible refine Below.alloc ?_ (by first | (simp; done) | (simp; omega) | omega) _ | with_reducible refine Below.drew ?_ | with_reducible exact Below.refl _ _ | with_reducible refine Below.trans ?_ (Below.mono hb2 (by first | (simp; done) | (simp; omega) | omega)) | with_reducible refine Below.trans ?_ (Below.mono kb1 (by first | (simp; done) | (simp; omega) | omega))))))⟩
                  case measure => simp [intOf]; omega
      · obtain rfl : k = s.size := by omega
        have e0 := HP.out
        rw [show s.size = s.data.toList.length from rfl, List.drop_length] at e0
        simp only [parseL, outV, Prod.mk.injEq] at e0
        obtain ⟨e0, rfl⟩ := e0
        obtain ⟨rfl, rfl⟩ : rh = (wideN a).hi ∧ rl = (wideN a).lo := by rw [e0]; exact ⟨rfl, rfl⟩
        clear e0
        go_wp2
        refine bodyPost_ret (v := .tuple #[.agg #[.int .u64 (wideN a).hi, .int .u64 (wideN a).lo], .int .i64 0]) (by simp [results, Try.results10, go_sem, *]) rfl ⟨rfl, (by repeat (first | with_reducible refine Below.setCell ?_ (by first | (simp; done) | (simp; omega) | omega) _ | with_reducible refine Below.alloc ?_ (by first | (simp; done) | (simp; omega) | omega) _ | with_reducible refine Below.drew ?_ | with_reducible exact Below.refl _ _ | with_reducible refine Below.trans ?_ (Below.mono kb0 (by first | (simp; done) | (simp; omega) | omega))))⟩
theorem parse_any (s : ByteArray) (w : World) (hs : s.size ≤ maxLen) :
    Calls Try.prog 10 #[.string s] w fun e w' => e = .returned (.tuple #[.agg #[.int .u64 (parseV s.data.toList).1.hi, .int .u64 (parseV s.data.toList).1.lo], .int .i64 (parseV s.data.toList).2]) ∧ Below w.heap.size w w' := by
  unfold parseV parseN
  cases h : badHead s.data.toList with
  | true => exact parse_bad s w hs h
  | false => exact parse_good s w hs h
end Go.Proofs.Ytmgpknadefhikaa
