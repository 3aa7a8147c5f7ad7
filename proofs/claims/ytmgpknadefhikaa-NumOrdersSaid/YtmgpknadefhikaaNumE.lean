/- Texts of wide numbers: num.Text. -/
import Derived.Test.YtmgpknadefhikaaNumD
import Derived.Test.YtmgpknadefhikaaBlk
import Derived.Laws.IdiomStrings
namespace Go.Proofs.Ytmgpknadefhikaa
open Go.RowKit
/-- The decimal digits. -/
def digs (n : Nat) : List UInt8 := if n < 10 then [UInt8.ofNat (48 + n)] else digs (n / 10) ++ [UInt8.ofNat (48 + n % 10)]
termination_by n
decreasing_by omega
def digs0 (n : Nat) : List UInt8 := if n = 0 then [] else digs n
theorem digs_step (n : Nat) : digs0 (n / 10) ++ [UInt8.ofNat (48 + n % 10)] = digs n := by
  unfold digs0
  by_cases h : n < 10
  · rw [if_pos (by omega), digs, if_pos h, Nat.mod_eq_of_lt h]; rfl
  · rw [if_neg (by omega)]
    conv => rhs; rw [digs, if_neg h]
theorem pow_step {m p : Nat} (h : m < 10 ^ (p + 1)) : m / 10 < 10 ^ p := by
  rw [Nat.pow_succ] at h
  omega
theorem M128_pow : M128 < 10 ^ 39 := by decide
theorem text_step {m n p' R : Nat} {tl : List UInt8} {X : Prop} (h : m < M128 ∧ m < 10 ^ (p' + 1) ∧ p' + 1 + tl.length = 39)
    (h2 : X ∧ digs0 (m / 10) ++ [UInt8.ofNat (48 + R)] = digs m ∧ m % 10 = R ∧ ((p' + 1 = 39 ∧ m = n) ∨ (p' + 1 < 39 ∧ digs0 m ++ tl = digs n))) (h3 : ¬ (p' + 1 < 39 ∧ m = 0)) :
    m / 10 < M128 ∧ m / 10 < 10 ^ p' ∧ p' + (UInt8.ofNat (48 + R) :: tl).length = 39 ∧ ((p' = 39 ∧ m / 10 = n) ∨ (p' < 39 ∧ digs0 (m / 10) ++ UInt8.ofNat (48 + R) :: tl = digs n)) := by
  obtain ⟨a1, a2, a3⟩ := h
  obtain ⟨_, b1, _, b2⟩ := h2
  refine ⟨by omega, pow_step a2, by simp; omega, .inr ⟨by omega, ?_⟩⟩
  rw [← List.singleton_append, ← List.append_assoc, b1]
  rcases b2 with ⟨h39, rfl⟩ | ⟨_, hd⟩
  · have : tl = [] := List.eq_nil_of_length_eq_zero (by omega)
    rw [this, List.append_nil]
  · have h0 : ¬ m = 0 := fun h => h3 ⟨by assumption, h⟩
    rw [← hd]
    simp [digs0, h0]
theorem text_cells {cs : Array Value} {p' R : Nat} {tl : List UInt8} (hs : cs.size = 39) (h : ∀ j (hj : j < tl.length), cs[p' + 1 + j]? = some (.int .u8 (tl[j].toNat : Int))) (hc : ((UInt8.ofNat (48 + R)).toNat : Int) = 48 + (R : Int)) (hp : p' < 39) :
    ∀ j (hj : j < (UInt8.ofNat (48 + R) :: tl).length), (cs.setIfInBounds p' (.int .u8 (48 + (R : Int))))[p' + j]? = some (.int .u8 (((UInt8.ofNat (48 + R) :: tl)[j]).toNat : Int)) := by
  intro j hj
  rcases j with _ | j
  · rw [Nat.add_zero, Array.getElem?_setIfInBounds_self_of_lt (by omega)]
    simp only [List.getElem_cons_zero, hc]
  · rw [Array.getElem?_setIfInBounds_ne (by omega)]
    have := h j (by simpa using hj)
    rw [show p' + (j + 1) = p' + 1 + j by omega, this]
    simp
set_option maxRecDepth 100000 in
set_option maxHeartbeats 4000000 in
theorem text_any (n : Nat) (hn : n < M128) (w : World) :
    Calls Try.prog 33 #[.agg #[.int .u64 (wideN n).hi, .int .u64 (wideN n).lo]] w fun e w' => e = .returned (.string ⟨(digs n).toArray⟩) ∧ Below w.heap.size w w' := by
  have hp39 : n < 10 ^ 39 := Nat.lt_trans hn M128_pow
  have HD := Lib.hid (And.intro hn hp39)
  clear hp39 hn
  go_enter Try.func33, Try.ntmps33
  go_wp2
  go_loopw [4] (fun pv w' => ∃ (p m : Nat) (tl : List UInt8) (cs : Array Value), p ≤ 39 ∧ pv = .int .i64 p ∧ Hid (m < M128 ∧ m < 10 ^ p ∧ p + tl.length = 39 ∧ ((p = 39 ∧ m = n) ∨ (p < 39 ∧ digs0 m ++ tl = digs n))) ∧
      KeptC w [(⟨w.heap.size, 0, none⟩, .int .u64 (wideN m).hi), (⟨w.heap.size, 1, none⟩, .int .u64 (wideN m).lo)] [⟨w.heap.size, 0, none⟩, ⟨w.heap.size, 1, none⟩] w' ∧
      Hid (Blk w' (w.heap.size + 1) 58 cs ∧ cs.size = 39 ∧ ∀ j (hj : j < tl.length), cs[p + j]? = some (.int .u8 (tl[j].toNat : Int)))) (fun pv _ => (intOf pv).toNat)
  case atStart =>
    have h := Blk.new (w.alloc (.cells #[.int .u64 (wideN n).hi, .int .u64 (wideN n).lo] 24)) 58 (Array.replicate 39 (.int .u8 0))
    rw [World.size_alloc] at h
    exact ⟨39, n, [], Array.replicate 39 (.int .u8 0), Nat.le_refl _, rfl, Lib.hid ⟨HD.out.1, HD.out.2, rfl, .inl ⟨rfl, rfl⟩⟩, (by (repeat' (first | refine KeptC.cons ?_ ?_ | refine KeptC.consF ?_ ?_ ?_ | refine KeptC.mk0 ?_)); all_goals (first | with_reducible assumption | (go_simp; done) | (simp; omega) | exact (by repeat (first | with_reducible refine Below.setCell ?_ (by first | (simp; done) | (simp; omega) | omega) _ | with_reducible refine Below.alloc ?_ (by first | (simp; done) | (simp; omega) | omega) _ | with_reducible refine Below.drew ?_ | with_reducible exact Below.refl _ _)))), Lib.hid ⟨h, rfl, fun j hj => absurd hj (by simp)⟩⟩
  case round =>
    obtain ⟨p, m, tl, cs, hp, rfl, HP, hK, HB⟩ := hrel
    simp only [KeptC, List.forall_mem_cons] at hK; obtain ⟨kb0, ⟨kc0_0, kc0_1, _⟩, ⟨kz0_0, kg0_0⟩, ⟨kz0_1, kg0_1⟩, _⟩ := hK
    obtain ⟨w1, hw1⟩ : ∃ w1, w1 = wr := ⟨_, rfl⟩
    subst hw1
    obtain ⟨hmM, hmp, hpt, hcs⟩ := HP.out
    by_cases hx : p < 39 ∧ m = 0
    · obtain ⟨hp1, rfl⟩ := hx
      have htl : tl = digs n := by
        rcases hcs with ⟨h, _⟩ | ⟨_, h⟩
        · omega
        · simpa [digs0] using h
      have e0 : wideN 0 = ⟨0, 0⟩ := rfl
      rw [e0] at kc0_0 kc0_1
      have g1 : ((p : Int) == 39) = false := beq_false_of_ne (by omega)
      have g2 : (p : Int) < 39 := by omega
      have g3 : (p : Int) ≤ 39 := by omega
      have hlen : tl.length = 39 - p := by omega
      have hcells : ∀ j (hj : j < tl.length), w1.cell? ((⟨w.heap.size + 1, p, none⟩ : Addr).add j) = some (.int .u8 (tl[j].toNat : Int)) := by
        intro j hj
        have h1 := HB.out.2.2 j hj
        have h2 := HB.out.1.cell (p + j)
        rw [h1] at h2
        rw [← h2]
        congr 1
        unfold Addr.add
        split <;> simp_all
      have hcv := run_convert_bytes_back (P := Try.prog) w1 59 9 5 ⟨w.heap.size + 1, p, none⟩ (39 - p) tl Try.underlying59 Try.underlying5 Try.underlying9 hcells
      rw [hlen] at hcv
      have HT := Lib.hid htl
      clear hcells htl hlen HP hmM hmp hpt hcs HD hp1 hp
      go_wp2
      go_ret
      exact ⟨by rw [← HT.out]; rfl, kb0⟩
    · obtain ⟨A, hA⟩ : ∃ A : Nat, A = m / 18446744073709551616 := ⟨_, rfl⟩
      obtain ⟨B, hBB⟩ : ∃ B : Nat, B = m % 18446744073709551616 := ⟨_, rfl⟩
      have hBK : B < 18446744073709551616 := by omega
      have hw : wideN m = ⟨A, B⟩ := by simp only [wideN, hA, hBB]
      rw [hw] at kc0_0 kc0_1
      obtain ⟨p', rfl⟩ : ∃ p', p = p' + 1 := by
        rcases p with _ | p'
        · simp at hmp; omega
        · exact ⟨p', rfl⟩
      obtain ⟨Q, hQ⟩ : ∃ Q : Nat, Q = (A % 10 * 18446744073709551616 + B) / 10 := ⟨_, rfl⟩
      obtain ⟨R, hR⟩ : ∃ R : Nat, R = (A % 10 * 18446744073709551616 + B) % 10 := ⟨_, rfl⟩
      have hR10 : R < 10 := by omega
      obtain ⟨rI, hrI⟩ : ∃ rI : Int, rI = ((A % 10 : Nat) : Int) := ⟨_, rfl⟩
      obtain ⟨A2, hA2⟩ : ∃ A2 : Int, A2 = ((A / 10 : Nat) : Int) := ⟨_, rfl⟩
      have hwn : wideN (m / 10) = ⟨A2, Q⟩ := by simp only [wideN, W.mk.injEq]; omega
      have hRm : m % 10 = R := by omega
      have hds := digs_step m
      rw [hRm] at hds
      have cd := fun w => div10_any (A % 10) B (by omega) hBK w
      rw [← hQ, ← hR, ← hrI] at cd
      have hAK : A < 18446744073709551616 := by unfold M128 at hmM; omega
      have hcase : (p' + 1 = 39 ∧ 0 ≤ A) ∨ (p' + 1 < 39 ∧ ((A : Int) == 0) = false) ∨ (p' + 1 < 39 ∧ A = 0 ∧ ((B : Int) == 0) = false) := by
        by_cases h1 : p' + 1 = 39
        · exact .inl ⟨h1, Nat.zero_le _⟩
        · by_cases h2 : A = 0
          · exact .inr (.inr ⟨by omega, h2, beq_false_of_ne (by omega)⟩)
          · exact .inr (.inl ⟨by omega, beq_false_of_ne (by omega)⟩)
      have r1 : (A : Int) % 10 = rI := by omega
      have r2 : IntKind.u64.wrap A2 = A2 := by rw [IntKind.wrap_u64]; omega
      have r3 : (A : Int) / 10 = A2 := by omega
      have z1 : A = 0 → rI = 0 := by intro h; subst h; simpa using hrI
      have z2 : A = 0 → A2 = 0 := by intro h; subst h; simpa using hA2
      have hc8 : ((UInt8.ofNat (48 + R)).toNat : Int) = 48 + (R : Int) := by
        rw [UInt8.toNat_ofNat_of_lt' (by show 48 + R < 256; omega)]; omega
      have HZ := Lib.hid (And.intro z1 z2)
      have HR3 := Lib.hid (And.intro r2 r3)
      have HC8 := Lib.hid hc8
      have HM := Lib.hid (And.intro hmM (And.intro hmp hpt))
      have HX := Lib.hid hx
      have HN := Lib.hid (And.intro hwn (And.intro hds (And.intro hRm hcs)))
      clear hA hBB hw hQ hR hwn hds hRm hcs hx hmM HD hAK hBK hrI hA2 r3 r2 z1 z2 hc8 hmp hpt
      have hlt9 := HB.out.1.lt
      rcases hcase with ⟨h39, _⟩ | ⟨h39, hA0⟩ | ⟨h39, hA0, hB0⟩
      · obtain rfl : p' = 38 := by omega
        clear h39
        have CD := Lib.hid cd
        clear cd
        obtain ⟨r2, r3⟩ := HR3.out
        go_wp2_with (fail)
        refine (CD.out _).mono ?_; rintro e w2 ⟨rfl, hb2⟩; obtain ⟨hc2, hf2⟩ := bcell hb2; have hz2 := hb2.size; (try simp at hz2); have hz2_0 : w.heap.size < w2.heap.size := (by omega); have hz2_1 : w.heap.size + 1 < w2.heap.size := (by omega)
        have HB2 := Lib.hid (HB.out.1.below hb2 hlt9)
        have hcl : w1.cell? ⟨w.heap.size + 1, 38, none⟩ = some (cs[38]'(by have := HB.out.2.1; omega)) := (HB.out.1.cell 38).trans (Array.getElem?_eq_getElem _)
        have hfr := HB.out.1.frozen 38
        go_wp2
        go_roundw
        case rel =>
          refine ⟨38, m / 10, UInt8.ofNat (48 + R) :: tl, cs.setIfInBounds 38 (.int .u8 ((UInt8.ofNat (48 + R)).toNat : Int)), by omega, by go_num, Lib.hid ?_, ?_, Lib.hid ?_⟩
          · exact text_step HM.out ⟨HN.out.1, HN.out.2.1, HN.out.2.2.1, by have := HN.out.2.2.2; first | exact this | simpa using this⟩ HX.out
          · rw [HN.out.1]; exact (by (repeat' (first | refine KeptC.cons ?_ ?_ | refine KeptC.consF ?_ ?_ ?_ | refine KeptC.mk0 ?_)); all_goals (first | with_reducible assumption | (go_simp; done) | (simp; omega) | exact (by repeat (first | with_reducible refine Below.setCell ?_ (by first | (simp; done) | (simp; omega) | omega) _ | with_reducible refine Below.alloc ?_ (by first | (simp; done) | (simp; omega) | omega) _ | with_reducible refine Below.drew ?_ | with_reducible exact Below.refl _ _ | with_reducible refine Below.trans ?_ (Below.mono hb2 (by first | (simp; done) | (simp; omega) | omega)) | with_reducible refine Below.trans ?_ (Below.mono kb0 (by first | (simp; done) | (simp; omega) | omega))))))
          · rw [HC8.out]
            exact ⟨((HB2.out.set_ 38 _).far (by simp) _).far (by simp) _, by rw [Array.size_setIfInBounds]; exact HB.out.2.1, text_cells HB.out.2.1 HB.out.2.2 HC8.out (by omega)⟩
        case measure => first | (simp [intOf]; done) | (simp [intOf]; omega)
      · have g1 : (((p' : Int) + 1) == 39) = false := beq_false_of_ne (by omega)
        have g2 : (p' : Int) < 38 := by omega
        clear h39
        have CD := Lib.hid cd
        clear cd
        obtain ⟨r2, r3⟩ := HR3.out
        go_wp2_with (fail)
        refine (CD.out _).mono ?_; rintro e w2 ⟨rfl, hb2⟩; obtain ⟨hc2, hf2⟩ := bcell hb2; have hz2 := hb2.size; (try simp at hz2); have hz2_0 : w.heap.size < w2.heap.size := (by omega); have hz2_1 : w.heap.size + 1 < w2.heap.size := (by omega)
        have HB2 := Lib.hid (HB.out.1.below hb2 hlt9)
        have hcl : w1.cell? ⟨w.heap.size + 1, p', none⟩ = some (cs[p']'(by have := HB.out.2.1; omega)) := (HB.out.1.cell p').trans (Array.getElem?_eq_getElem _)
        have hfr := HB.out.1.frozen p'
        go_wp2
        go_roundw
        case rel =>
          refine ⟨p', m / 10, UInt8.ofNat (48 + R) :: tl, cs.setIfInBounds p' (.int .u8 ((UInt8.ofNat (48 + R)).toNat : Int)), by omega, by go_num, Lib.hid ?_, ?_, Lib.hid ?_⟩
          · exact text_step HM.out ⟨HN.out.1, HN.out.2.1, HN.out.2.2.1, by have := HN.out.2.2.2; first | exact this | simpa using this⟩ HX.out
          · rw [HN.out.1]; exact (by (repeat' (first | refine KeptC.cons ?_ ?_ | refine KeptC.consF ?_ ?_ ?_ | refine KeptC.mk0 ?_)); all_goals (first | with_reducible assumption | (go_simp; done) | (simp; omega) | exact (by repeat (first | with_reducible refine Below.setCell ?_ (by first | (simp; done) | (simp; omega) | omega) _ | with_reducible refine Below.alloc ?_ (by first | (simp; done) | (simp; omega) | omega) _ | with_reducible refine Below.drew ?_ | with_reducible exact Below.refl _ _ | with_reducible refine Below.trans ?_ (Below.mono hb2 (by first | (simp; done) | (simp; omega) | omega)) | with_reducible refine Below.trans ?_ (Below.mono kb0 (by first | (simp; done) | (simp; omega) | omega))))))
          · rw [HC8.out]
            exact ⟨((HB2.out.set_ p' _).far (by simp) _).far (by simp) _, by rw [Array.size_setIfInBounds]; exact HB.out.2.1, text_cells HB.out.2.1 HB.out.2.2 HC8.out (by omega)⟩
        case measure => first | (simp [intOf]; done) | (simp [intOf]; omega)
      · have g1 : (((p' : Int) + 1) == 39) = false := beq_false_of_ne (by omega)
        have g2 : (p' : Int) < 38 := by omega
        obtain rfl := HZ.out.1 hA0
        obtain rfl := HZ.out.2 hA0
        have hA0' : (A : Int) = 0 := by omega
        clear h39 hA0 r1
        have CD := Lib.hid cd
        clear cd
        go_wp2_with (fail)
        refine (CD.out _).mono ?_; rintro e w2 ⟨rfl, hb2⟩; obtain ⟨hc2, hf2⟩ := bcell hb2; have hz2 := hb2.size; (try simp at hz2); have hz2_0 : w.heap.size < w2.heap.size := (by omega); have hz2_1 : w.heap.size + 1 < w2.heap.size := (by omega)
        have HB2 := Lib.hid (HB.out.1.below hb2 hlt9)
        have hcl : w1.cell? ⟨w.heap.size + 1, p', none⟩ = some (cs[p']'(by have := HB.out.2.1; omega)) := (HB.out.1.cell p').trans (Array.getElem?_eq_getElem _)
        have hfr := HB.out.1.frozen p'
        go_wp2
        go_roundw
        case rel =>
          refine ⟨p', m / 10, UInt8.ofNat (48 + R) :: tl, cs.setIfInBounds p' (.int .u8 ((UInt8.ofNat (48 + R)).toNat : Int)), by omega, by go_num, Lib.hid ?_, ?_, Lib.hid ?_⟩
          · exact text_step HM.out ⟨HN.out.1, HN.out.2.1, HN.out.2.2.1, by have := HN.out.2.2.2; first | exact this | simpa using this⟩ HX.out
          · rw [HN.out.1]; exact (by (repeat' (first | refine KeptC.cons ?_ ?_ | refine KeptC.consF ?_ ?_ ?_ | refine KeptC.mk0 ?_)); all_goals (first | with_reducible assumption | (go_simp; done) | (simp; omega) | exact (by repeat (first | with_reducible refine Below.setCell ?_ (by first | (simp; done) | (simp; omega) | omega) _ | with_reducible refine Below.alloc ?_ (by first | (simp; done) | (simp; omega) | omega) _ | with_reducible refine Below.drew ?_ | with_reducible exact Below.refl _ _ | with_reducible refine Below.trans ?_ (Below.mono hb2 (by first | (simp; done) | (simp; omega) | omega)) | with_reducible refine Below.trans ?_ (Below.mono kb0 (by first | (simp; done) | (simp; omega) | omega))))))
          · rw [HC8.out]
            exact ⟨((HB2.out.set_ p' _).far (by simp) _).far (by simp) _, by rw [Array.size_setIfInBounds]; exact HB.out.2.1, text_cells HB.out.2.1 HB.out.2.2 HC8.out (by omega)⟩
        case measure => first | (simp [intOf]; done) | (simp [intOf]; omega)
end Go.Proofs.Ytmgpknadefhikaa
