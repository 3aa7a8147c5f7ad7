/- Texts of wide numbers: eddyref01.ten and eddyref01.Text. -/
import Derived.Test.YtmgpknadefhikaaNumE
namespace Go.Proofs.Ytmgpknadefhikaa
open Go.RowKit
theorem or32 (x y : Nat) (hx : x < 4294967296) (hy : y < 4294967296) : bits .or .u64 ((x : Int) * 4294967296) (y : Int) = ((x * 4294967296 + y : Nat) : Int) := by
  have h := bits_or_u64_nat (x * 4294967296) y (by omega) (by omega)
  have e : x * 4294967296 ||| y = x * 4294967296 + y := by
    have := Nat.shiftLeft_add_eq_or_of_lt (b := y) (i := 32) (by omega) x
    rw [Nat.shiftLeft_eq] at this
    exact this.symm
  rw [e] at h
  exact h
set_option maxRecDepth 100000 in
set_option maxHeartbeats 1000000 in
theorem ten_any (n : Nat) (hn : n < M128) (w : World) :
    Calls Try.prog 48 #[.agg #[.int .u64 (wideN n).hi, .int .u64 (wideN n).lo]] w fun e w' => e = .returned (.tuple #[.agg #[.int .u64 (wideN (n / 10)).hi, .int .u64 (wideN (n / 10)).lo], .int .u64 ((n % 10 : Nat) : Int)]) ∧ Below w.heap.size w w' := by
  obtain ⟨A, hA⟩ : ∃ A : Nat, A = n / 18446744073709551616 := ⟨_, rfl⟩
  obtain ⟨B, hB⟩ : ∃ B : Nat, B = n % 18446744073709551616 := ⟨_, rfl⟩
  have hw : wideN n = ⟨A, B⟩ := by simp only [wideN, hA, hB]
  obtain ⟨A10, hA10⟩ : ∃ A10 : Nat, A10 = A % 10 := ⟨_, rfl⟩
  obtain ⟨A2, hA2⟩ : ∃ A2 : Nat, A2 = A / 10 := ⟨_, rfl⟩
  obtain ⟨Bh, hBh⟩ : ∃ Bh : Nat, Bh = B / 4294967296 := ⟨_, rfl⟩
  obtain ⟨Bl, hBl⟩ : ∃ Bl : Nat, Bl = B % 4294967296 := ⟨_, rfl⟩
  obtain ⟨h, hh⟩ : ∃ h : Nat, h = A10 * 4294967296 + Bh := ⟨_, rfl⟩
  obtain ⟨h10, hh10⟩ : ∃ h10 : Nat, h10 = h % 10 := ⟨_, rfl⟩
  obtain ⟨h2, hh2⟩ : ∃ h2 : Nat, h2 = h / 10 := ⟨_, rfl⟩
  obtain ⟨l, hl⟩ : ∃ l : Nat, l = h10 * 4294967296 + Bl := ⟨_, rfl⟩
  obtain ⟨l10, hl10⟩ : ∃ l10 : Nat, l10 = l % 10 := ⟨_, rfl⟩
  obtain ⟨l2, hl2⟩ : ∃ l2 : Nat, l2 = l / 10 := ⟨_, rfl⟩
  obtain ⟨q, hq⟩ : ∃ q : Nat, q = h2 * 4294967296 + l2 := ⟨_, rfl⟩
  have hBK : B < 18446744073709551616 := by omega
  have hAK : A < 18446744073709551616 := by unfold M128 at hn; omega
  have bBh : Bh < 4294967296 := by omega
  have bBl : Bl < 4294967296 := by omega
  have bh2 : h2 < 4294967296 := by omega
  have bl2 : l2 < 4294967296 := by omega
  have hwn : wideN (n / 10) = ⟨A2, q⟩ := by simp only [wideN, W.mk.injEq]; omega
  have hrn : n % 10 = l10 := by omega
  have r1 : (A : Int) % 10 = A10 := by omega
  have r2 : IntKind.u64.wrap ((A : Int) / 10) = A2 := by rw [IntKind.wrap_u64]; omega
  have r3 : IntKind.u64.wrap ((A10 : Int) * 4294967296) = (A10 : Int) * 4294967296 := by rw [IntKind.wrap_u64]; omega
  have r4 : (B : Int) / 4294967296 = Bh := by omega
  have r5 : bits .or .u64 ((A10 : Int) * 4294967296) (Bh : Int) = (h : Int) := by rw [hh]; exact or32 _ _ (by omega) bBh
  have r6 : (h : Int) % 10 = h10 := by omega
  have r7 : IntKind.u64.wrap ((h10 : Int) * 4294967296) = (h10 : Int) * 4294967296 := by rw [IntKind.wrap_u64]; omega
  have r8 : bits .and .u64 (B : Int) 4294967295 = (Bl : Int) := by rw [Mul64.maskN _ hBK, hBl]
  have r9 : bits .or .u64 ((h10 : Int) * 4294967296) (Bl : Int) = (l : Int) := by rw [hl]; exact or32 _ _ (by omega) bBl
  have r10 : IntKind.u64.wrap ((h : Int) / 10) = h2 := by rw [IntKind.wrap_u64]; omega
  have r11 : IntKind.u64.wrap ((h2 : Int) * 4294967296) = (h2 : Int) * 4294967296 := by rw [IntKind.wrap_u64]; omega
  have r12 : IntKind.u64.wrap ((l : Int) / 10) = l2 := by rw [IntKind.wrap_u64]; omega
  have r13 : bits .or .u64 ((h2 : Int) * 4294967296) (l2 : Int) = (q : Int) := by rw [hq]; exact or32 _ _ bh2 bl2
  have r14 : (l : Int) % 10 = l10 := by omega
  rw [hw, hwn, hrn]
  clear hw hwn hrn hA hB hA10 hA2 hBh hBl hh hh10 hh2 hl hl10 hl2 hq hBK hAK bBh bBl bh2 bl2 hn
  go_enter Try.func48, Try.ntmps48
  go_wp2
  refine bodyPost_ret (v := .tuple #[.agg #[.int .u64 A2, .int .u64 q], .int .u64 l10]) (by simp [results, Try.results48, go_sem, *]) rfl ⟨rfl, (by repeat (first | with_reducible refine Below.setCell ?_ (by first | (simp; done) | (simp; omega) | omega) _ | with_reducible refine Below.alloc ?_ (by first | (simp; done) | (simp; omega) | omega) _ | with_reducible refine Below.drew ?_ | with_reducible exact Below.refl _ _))⟩
def strLen : Value → Nat
  | .string s => s.size
  | _ => 0
theorem text_cat (R : Nat) (tl : List UInt8) : ((⟨#[48 + UInt8.ofNat R]⟩ : ByteArray) ++ ⟨tl.toArray⟩) = ⟨(UInt8.ofNat (48 + R) :: tl).toArray⟩ := by
  apply ByteArray.ext
  rw [ByteArray.data_append]
  simp [UInt8.ofNat_add]
theorem str_less {c : UInt8} {tl : List UInt8} (h : tl.length < 40) : 40 - strLen (.string ⟨(c :: tl).toArray⟩) < 40 - strLen (.string ⟨tl.toArray⟩) := by
  have e1 : strLen (.string ⟨(c :: tl).toArray⟩) = tl.length + 1 := rfl
  have e2 : strLen (.string ⟨tl.toArray⟩) = tl.length := rfl
  omega
theorem text_end {m n R : Nat} {tl : List UInt8} (h : m < M128 ∧ m < 10 ^ (39 - tl.length) ∧ tl.length ≤ 38 ∧ digs m ++ tl = digs n) (hd : digs0 (m / 10) ++ [UInt8.ofNat (48 + R)] = digs m) (h0 : m / 10 = 0) : UInt8.ofNat (48 + R) :: tl = digs n := by
  rw [h0] at hd
  rw [← h.2.2.2, ← hd]
  simp [digs0]
theorem text_round {m n R : Nat} {tl : List UInt8} (h : m < M128 ∧ m < 10 ^ (39 - tl.length) ∧ tl.length ≤ 38 ∧ digs m ++ tl = digs n) (hd : digs0 (m / 10) ++ [UInt8.ofNat (48 + R)] = digs m) (h0 : ¬ m / 10 = 0) :
    m / 10 < M128 ∧ m / 10 < 10 ^ (39 - (UInt8.ofNat (48 + R) :: tl).length) ∧ (UInt8.ofNat (48 + R) :: tl).length ≤ 38 ∧ digs (m / 10) ++ UInt8.ofNat (48 + R) :: tl = digs n := by
  obtain ⟨a1, a2, a3, a4⟩ := h
  have e : 39 - tl.length = (38 - tl.length) + 1 := by omega
  rw [e] at a2
  have hp := pow_step a2
  have hl : tl.length + 1 ≤ 38 := by
    rcases Nat.lt_or_ge tl.length 38 with h1 | h1
    · omega
    · rw [show 38 - tl.length = 0 by omega] at hp
      simp at hp
      omega
  refine ⟨by omega, by rw [List.length_cons, show 39 - (tl.length + 1) = 38 - tl.length by omega]; exact hp, hl, ?_⟩
  rw [← List.singleton_append, ← List.append_assoc, ← a4, ← hd]
  simp [digs0, h0]
set_option maxRecDepth 100000 in
set_option maxHeartbeats 4000000 in
theorem rtext_any (n : Nat) (hn : n < M128) (w : World) :
    Calls Try.prog 34 #[.agg #[.int .u64 (wideN n).hi, .int .u64 (wideN n).lo]] w fun e w' => e = .returned (.string ⟨(digs n).toArray⟩) ∧ Below w.heap.size w w' := by
  have hp39 : n < 10 ^ 39 := Nat.lt_trans hn M128_pow
  have HD := Lib.hid (And.intro hn hp39)
  clear hp39 hn
  go_enter Try.func34, Try.ntmps34
  go_wp2
  go_loopw [3] (fun sv w' => ∃ (m : Nat) (tl : List UInt8), sv = .string ⟨tl.toArray⟩ ∧ Hid (m < M128 ∧ m < 10 ^ (39 - tl.length) ∧ tl.length ≤ 38 ∧ digs m ++ tl = digs n) ∧
      KeptC w [(⟨w.heap.size, 0, none⟩, .int .u64 (wideN m).hi), (⟨w.heap.size, 1, none⟩, .int .u64 (wideN m).lo)] [⟨w.heap.size, 0, none⟩, ⟨w.heap.size, 1, none⟩] w') (fun sv _ => 40 - strLen sv)
  case atStart => exact ⟨n, [], rfl, Lib.hid ⟨HD.out.1, HD.out.2, by simp, by simp⟩, (by (repeat' (first | refine KeptC.cons ?_ ?_ | refine KeptC.consF ?_ ?_ ?_ | refine KeptC.mk0 ?_)); all_goals (first | with_reducible assumption | (go_simp; done) | (simp; omega) | exact (by repeat (first | with_reducible refine Below.setCell ?_ (by first | (simp; done) | (simp; omega) | omega) _ | with_reducible refine Below.alloc ?_ (by first | (simp; done) | (simp; omega) | omega) _ | with_reducible refine Below.drew ?_ | with_reducible exact Below.refl _ _))))⟩
  case round =>
    obtain ⟨m, tl, rfl, HP, hK⟩ := hrel
    simp only [KeptC, List.forall_mem_cons] at hK; obtain ⟨kb0, ⟨kc0_0, kc0_1, _⟩, ⟨kz0_0, kg0_0⟩, ⟨kz0_1, kg0_1⟩, _⟩ := hK
    obtain ⟨w1, hw1⟩ : ∃ w1, w1 = wr := ⟨_, rfl⟩
    subst hw1
    obtain ⟨hmM, hmp, htl, hdg⟩ := HP.out
    have c1 := fun w => ten_any m hmM w
    obtain ⟨R, hR⟩ : ∃ R : Nat, R = m % 10 := ⟨_, rfl⟩
    have hR10 : R < 10 := by omega
    rw [← hR] at c1
    have hds := digs_step m
    rw [← hR] at hds
    obtain ⟨qh, ql, hq⟩ : ∃ qh ql : Int, wideN (m / 10) = ⟨qh, ql⟩ := ⟨_, _, rfl⟩
    rw [hq] at c1
    have C1 := Lib.hid c1
    have HX := Lib.hid (And.intro hds (And.intro hq hR))
    clear c1 hds hq hR hmM hmp htl hdg HD
    go_wp2_with (fail)
    refine (C1.out _).mono ?_; rintro e w2 ⟨rfl, hb2⟩; obtain ⟨hc2, hf2⟩ := bcell hb2; have hz2 := hb2.size; (try simp at hz2); have hz2_0 : w.heap.size < w2.heap.size := (by omega)
    have hcv := run_convert_bytes_back (P := Try.prog) ((w2.alloc (.cells #[.int .u64 qh, .int .u64 ql] 24)).alloc (.cells #[.int .u8 (48 + (R : Int))] 5)) 59 9 5 ⟨w2.heap.size + 1, 0, none⟩ 1 [UInt8.ofNat (48 + R)] Try.underlying59 Try.underlying5 Try.underlying9 (by
      intro j hj
      have hj0 : j = 0 := by simpa using hj
      subst hj0
      have hc8 : ((UInt8.ofNat (48 + R)).toNat : Int) = 48 + (R : Int) := by
        rw [UInt8.toNat_ofNat_of_lt' (by show 48 + R < 256; omega)]; omega
      rw [List.getElem_cons_zero, hc8]
      go_simp)
    simp only [List.length_singleton] at hcv
    have hcase : (m / 10 = 0 ∧ qh = 0 ∧ ql = 0) ∨ (m / 10 ≠ 0 ∧ (qh == 0) = false) ∨ (m / 10 ≠ 0 ∧ qh = 0 ∧ (ql == 0) = false) := by
      have hq := HX.out.2.1
      simp only [wideN, W.mk.injEq] at hq
      obtain ⟨h1, h2⟩ := hq
      have hmM := HP.out.1
      unfold M128 at hmM
      by_cases hqh : qh = 0
      · by_cases hql : ql = 0
        · exact .inl ⟨by omega, hqh, hql⟩
        · exact .inr (.inr ⟨by omega, hqh, beq_false_of_ne hql⟩)
      · exact .inr (.inl ⟨by omega, beq_false_of_ne hqh⟩)
    have hL : ¬ (9223372036854775807 < 1 + tl.length) := by have := HP.out.2.2.1; omega
    have HZ := Lib.hid (fun h : ¬ m / 10 = 0 => h)
    rcases hcase with ⟨h0, rfl, rfl⟩ | ⟨h0, hq0⟩ | ⟨h0, rfl, hq0⟩
    · have HE := Lib.hid (text_end HP.out HX.out.1 h0)
      clear h0
      go_wp2
      go_ret
      exact ⟨by rw [← HE.out, ← text_cat]; rfl, (by repeat (first | with_reducible refine Below.setCell ?_ (by first | (simp; done) | (simp; omega) | omega) _ | with_reducible refine Below.alloc ?_ (by first | (simp; done) | (simp; omega) | omega) _ | with_reducible refine Below.drew ?_ | with_reducible exact Below.refl _ _ | with_reducible refine Below.trans ?_ (Below.mono hb2 (by first | (simp; done) | (simp; omega) | omega)) | with_reducible refine Below.trans ?_ (Below.mono kb0 (by first | (simp; done) | (simp; omega) | omega))))⟩
    · go_wp2
      go_roundw
      case rel =>
        refine ⟨m / 10, UInt8.ofNat (48 + R) :: tl, by rw [text_cat], Lib.hid (text_round HP.out HX.out.1 (HZ.out h0)), ?_⟩
        rw [HX.out.2.1]
        exact (by (repeat' (first | refine KeptC.cons ?_ ?_ | refine KeptC.consF ?_ ?_ ?_ | refine KeptC.mk0 ?_)); all_goals (first | with_reducible assumption | (go_simp; done) | (simp; omega) | exact (by repeat (first | with_reducible refine Below.setCell ?_ (by first | (simp; done) | (simp; omega) | omega) _ | with_reducible refine Below.alloc ?_ (by first | (simp; done) | (simp; omega) | omega) _ | with_reducible refine Below.drew ?_ | with_reducible exact Below.refl _ _ | with_reducible refine Below.trans ?_ (Below.mono hb2 (by first | (simp; done) | (simp; omega) | omega)) | with_reducible refine Below.trans ?_ (Below.mono kb0 (by first | (simp; done) | (simp; omega) | omega))))))
      case measure => rw [text_cat]; exact str_less (by have := HP.out.2.2.1; omega)
    · go_wp2
      go_roundw
      case rel =>
        refine ⟨m / 10, UInt8.ofNat (48 + R) :: tl, by rw [text_cat], Lib.hid (text_round HP.out HX.out.1 (HZ.out h0)), ?_⟩
        rw [HX.out.2.1]
        exact (by (repeat' (first | refine KeptC.cons ?_ ?_ | refine KeptC.consF ?_ ?_ ?_ | refine KeptC.mk0 ?_)); all_goals (first | with_reducible assumption | (go_simp; done) | (simp; omega) | exact (by repeat (first | with_reducible refine Below.setCell ?_ (by first | (simp; done) | (simp; omega) | omega) _ | with_reducible refine Below.alloc ?_ (by first | (simp; done) | (simp; omega) | omega) _ | with_reducible refine Below.drew ?_ | with_reducible exact Below.refl _ _ | with_reducible refine Below.trans ?_ (Below.mono hb2 (by first | (simp; done) | (simp; omega) | omega)) | with_reducible refine Below.trans ?_ (Below.mono kb0 (by first | (simp; done) | (simp; omega) | omega))))))
      case measure => rw [text_cat]; exact str_less (by have := HP.out.2.2.1; omega)
end Go.Proofs.Ytmgpknadefhikaa
