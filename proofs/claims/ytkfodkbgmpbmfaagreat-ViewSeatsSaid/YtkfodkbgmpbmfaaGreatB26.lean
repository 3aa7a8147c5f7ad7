/- Chapter 22, parts on the way: Wq -/
import Derived.Laws.BytesString
import Derived.Test.YtkfodkbgmpbmfaaGreatB01
import Derived.Test.YtkfodkbgmpbmfaaGreatB25
set_option linter.unusedVariables false
set_option linter.unusedSimpArgs false
namespace Go.Proofs.YtkfodkbgmpbmfaaGreat
open Go.RowKit Go.Shelf
set_option linter.unusedVariables false
set_option linter.unusedSimpArgs false
set_option maxRecDepth 100000
theorem rwhole_any (b : Nat) (A : Option Addr) (n cp : Nat) (bs : List Int) (p : Nat) (code : Int) (W : World) (h : RdAt W b A n cp bs p code) :
    Calls Tryz.prog 118 #[.pointer (some ⟨b, 0, none⟩)] W (RdPost IsI W b A n cp bs p) := by
 have C := Lib.hid (rnum_any b A n cp bs p code W h)
 clear h
 go_enter Tryz.func118, Tryz.ntmps118
 go_wp2_with (fail)
 refine C.out.mono ?_; rintro e w1 ⟨v, q, c, rfl, ⟨x, hx0, rfl⟩, hR, hpq, hlt, hB⟩
 have HH := Lib.hid hR; have HPQ := Lib.hid hpq; have HLT := Lib.hid hlt; have HB := Lib.hid hB
 clear hpq hlt hB C
 have c2 := hR.c2
 have f2 := hR.f2
 clear hR
 by_cases hc : c = 0
 · subst hc
   obtain ⟨D, hD⟩ : ∃ D, decide (9223372036854775807 < x) = D := ⟨_, rfl⟩
   clear hx0
   cases D
   · go_wp2
     go_ret
     exact ⟨_, q, 0, rfl, ⟨_, rfl⟩, HH.out, HPQ.out, fun _ => HLT.out trivial, HB.out⟩
   · have HE := Lib.hid (HH.out.code 20)
     go_wp2
     go_ret
     exact ⟨_, q, 20, rfl, ⟨_, rfl⟩, HE.out.1, HPQ.out, fun h => absurd h (by decide), HB.out.trans HE.out.2⟩
 · have q0 : (c == 0) = false := by simpa using hc
   have q1 : (c != 0) = true := by simpa using hc
   have HC := Lib.hid hc
   clear hc
   go_wp2
   go_ret
   exact ⟨_, q, c, rfl, ⟨_, rfl⟩, HH.out, HPQ.out, HLT.out, HB.out⟩
theorem rsmall_any (b : Nat) (A : Option Addr) (n cp : Nat) (bs : List Int) (p : Nat) (code : Int) (W : World) (h : RdAt W b A n cp bs p code) :
    Calls Tryz.prog 117 #[.pointer (some ⟨b, 0, none⟩)] W (RdPost IsI W b A n cp bs p) := by
 have C := Lib.hid (rwhole_any b A n cp bs p code W h)
 clear h
 go_enter Tryz.func117, Tryz.ntmps117
 go_wp2_with (fail)
 refine C.out.mono ?_; rintro e w1 ⟨v, q, c, rfl, ⟨x, rfl⟩, hR, hpq, hlt, hB⟩
 have HH := Lib.hid hR; have HPQ := Lib.hid hpq; have HLT := Lib.hid hlt; have HB := Lib.hid hB
 clear hpq hlt hB C hR
 by_cases hx : (1073741824 : Int) < x
 · go_wp2
   go_ret
   exact ⟨_, q, c, rfl, ⟨_, rfl⟩, HH.out, HPQ.out, HLT.out, HB.out⟩
 · go_wp2
   go_ret
   exact ⟨_, q, c, rfl, ⟨_, rfl⟩, HH.out, HPQ.out, HLT.out, HB.out⟩
theorem rint_any (b : Nat) (A : Option Addr) (n cp : Nat) (bs : List Int) (p : Nat) (code : Int) (W : World) (h : RdAt W b A n cp bs p code) :
    Calls Tryz.prog 150 #[.pointer (some ⟨b, 0, none⟩)] W (RdPost IsI W b A n cp bs p) := by
 have C := Lib.hid (rnum_any b A n cp bs p code W h)
 clear h
 go_enter Tryz.func150, Tryz.ntmps150
 go_wp2_with (fail)
 refine C.out.mono ?_; rintro e w1 ⟨v, q, c, rfl, ⟨x, hx0, rfl⟩, hR, hpq, hlt, hB⟩
 have HH := Lib.hid hR; have HPQ := Lib.hid hpq; have HLT := Lib.hid hlt; have HB := Lib.hid hB
 clear hpq hlt hB C hR hx0
 obtain ⟨D, hD⟩ : ∃ D, (x.tmod 2 == 0) = D := ⟨_, rfl⟩
 cases D
 · go_wp2
   go_ret
   exact ⟨_, q, c, rfl, ⟨_, rfl⟩, HH.out, HPQ.out, HLT.out, HB.out⟩
 · go_wp2
   go_ret
   exact ⟨_, q, c, rfl, ⟨_, rfl⟩, HH.out, HPQ.out, HLT.out, HB.out⟩
theorem conv_str {A : Option Addr} {n cp : Nat} {bs : List Int} : ∃ s : ByteArray, ∀ {w : World} {b : Nat} (h : RowsE encY8 1 w b A n bs), (convert 77 9 (.slice A n cp)).run Tryz.prog w = .ok (.string s) w := by
 cases A with
 | none => exact ⟨_, fun {w b} h => (run_convert_bytes_string w _ _ _ none n cp rfl rfl rfl).trans (by simp [Conv.bytesToString]; rfl)⟩
 | some a =>
  refine ⟨_, fun {w b} h => (run_convert_bytes_string w _ _ _ (some a) n cp rfl rfl rfl).trans (run_bytesToString w a n cp bs ?_)⟩
  have := run_loadCells_list (P := Tryz.prog) w a (bs.map (Value.int .u8)) (fun j v hj => by
   have hjl : j < bs.length := by
    rcases Nat.lt_or_ge j bs.length with h | h
    · exact h
    · simp [List.getElem?_eq_none (show (bs.map (Value.int .u8)).length ≤ j by simpa using h)] at hj
   obtain ⟨ad, x, e, hb, hx, h4⟩ := h.at (j := j) (by have := h.1; omega)
   obtain rfl := Option.some.inj e
   rw [Nat.mul_one] at h4
   have h5 := h4 0 _ rfl
   rw [Bg.add_z] at h5
   rw [h5]
   simp [hx] at hj
   exact congrArg some hj)
  simpa [h.1] using this
theorem rowsE_cut8 {w : World} {b : Nat} {A : Option Addr} {n cp : Nat} {bs : List Int} (h : RowsE encY8 1 w b A n bs) {q T : Nat} (hT : T ≤ n) (hc : n ≤ cp) :
    RowsE encY8 1 w b (if cp = q then A else A.map (fun x => x.add q)) (T - q) ((bs.drop q).take (T - q)) := by
 refine ⟨by simp [h.1]; omega, fun hn => ?_⟩
 obtain ⟨ad, rfl, hb, hcell⟩ := h.2 (by omega)
 rw [if_neg (by omega)]
 refine ⟨ad.add q, rfl, by rw [block_of_add]; exact hb, fun j x hx => ?_⟩
 have hj : j < T - q := by
  have := (List.getElem?_eq_some_iff.1 hx).1
  simp at this
  omega
 rw [List.getElem?_take_of_lt hj, List.getElem?_drop] at hx
 have := hcell (q + j) x hx
 rw [Nat.mul_one] at this ⊢
 rwa [add_of_add]
set_option maxHeartbeats 4000000 in
theorem rstr_any (b : Nat) (A : Option Addr) (n cp : Nat) (bs : List Int) (p : Nat) (code : Int) (W : World) (h : RdAt W b A n cp bs p code) :
    Calls Tryz.prog 148 #[.pointer (some ⟨b, 0, none⟩)] W (RdPost IsS W b A n cp bs p) := by
 have C := Lib.hid (rnum_any b A n cp bs p code W h)
 clear h
 go_enter Tryz.func148, Tryz.ntmps148
 go_wp2_with (fail)
 refine C.out.mono ?_; rintro e w1 ⟨v, q, c, rfl, ⟨x, hx0, rfl⟩, hR, hpq, hlt, hB⟩
 have HH := Lib.hid hR; have HPQ := Lib.hid hpq; have HLT := Lib.hid hlt; have HB := Lib.hid hB
 clear hpq hlt hB C
 obtain ⟨c0, c1, c2, f1, f2, hr, hle, hmx, hcn, -⟩ := hR
 have hbw := cell_lt c0
 simp only [] at hbw
 have HX := Lib.hid hx0
 clear hx0
 by_cases hc : c = 0
 rotate_left
 · have q0 : (c == 0) = false := by simpa using hc
   have q1 : (c != 0) = true := by simpa using hc
   have HC := Lib.hid hc
   clear hc hr hle hmx hcn
   go_wp2_with (fail)
   refine wp_region_quietC_lit (KeptC w1 [(⟨b, 0, none⟩, .slice A n cp), (⟨b, 1, none⟩, .int .i64 q), (⟨b, 2, none⟩, .int .i64 c)] []) (by kernel_rfl) (by kernel_rfl) ?_ ?_
   · refine KeptC.drewn ?_
     exact Qk
   repeat (first
    | go_big_quiet_skip
    | (go_big_quiet_want; (apply quietC_run); (· intro w' hw'; (have hk' := hw'; simp only [KeptC, List.forall_mem_cons] at hk'; go_split_ands); go_simp; first | done | rfl); (simp only [Act.put, List.setIfInBounds_toArray, List.set_cons_zero, List.set_cons_succ]; go_big_quiet_on))
    | (go_big_quiet_want; (apply quietC_call); (· intro w' hw'; go_simp; first | done | exact ⟨rfl, rfl⟩ | rfl); (· intro w' hw'; first | ((with_reducible refine (fail).mono ?_); rintro e w2 ⟨rfl, hb⟩; exact ⟨rfl, hw'.below hb⟩)); (simp only [Act.put, List.setIfInBounds_toArray, List.set_cons_zero, List.set_cons_succ]; go_big_quiet_on)))
   refine wpQuiet_nil ?_
   intro w9 hk9
   (have hk' := hk9; simp only [KeptC, List.forall_mem_cons] at hk'; go_split_ands); have hkB9 := hk9.1
   have hd9 : Below w1.heap.size w1 w9 := hkB9
   have HE := Lib.hid (HH.out.below hd9)
   have HB9 : Hid (Away b w1 w9) := Lib.hid (Away.of hd9 hbw)
   clear c0 c1 c2 f1 f2
   go_wp2
   go_ret
   exact ⟨_, q, c, rfl, ⟨_, rfl⟩, HE.out, HPQ.out, fun h => absurd h HC.out, HB.out.trans HB9.out⟩
 subst hc
 obtain ⟨m, hm⟩ : ∃ m : Nat, n - q = m := ⟨_, rfl⟩
 have hw : IntKind.i64.wrap ((n : Int) - (q : Int)) = (m : Int) := by rw [IntKind.wrap_i64]; omega
 have hw2 : IntKind.u64.wrap (m : Int) = (m : Int) := by
  show (m : Int) % (2 ^ 64 : Int) = m
  exact Int.emod_eq_of_lt (by omega) (by omega)
 have HM := Lib.hid hm
 obtain ⟨D, hD⟩ : ∃ D, decide ((m : Int) < x) = D := ⟨_, rfl⟩
 have HR := Lib.hid hr; have HLE := Lib.hid hle; have HMX := Lib.hid hmx; have HCN := Lib.hid hcn
 clear hr hm hle hmx hcn
 cases D with
 | true =>
  go_wp2_with (fail)
  refine wp_region_quietC_lit (KeptC w1 [(⟨b, 0, none⟩, .slice A n cp), (⟨b, 1, none⟩, .int .i64 q), (⟨b, 2, none⟩, .int .i64 0)] []) (by kernel_rfl) (by kernel_rfl) ?_ ?_
  · refine KeptC.drewn ?_
    exact Qk
  repeat (first
   | go_big_quiet_skip
   | (go_big_quiet_want; (apply quietC_run); (· intro w' hw'; (have hk' := hw'; simp only [KeptC, List.forall_mem_cons] at hk'; go_split_ands); go_simp; first | done | rfl); (simp only [Act.put, List.setIfInBounds_toArray, List.set_cons_zero, List.set_cons_succ]; go_big_quiet_on))
   | (go_big_quiet_want; (apply quietC_call); (· intro w' hw'; go_simp; first | done | exact ⟨rfl, rfl⟩ | rfl); (· intro w' hw'; first | ((with_reducible refine (fail).mono ?_); rintro e w2 ⟨rfl, hb⟩; exact ⟨rfl, hw'.below hb⟩)); (simp only [Act.put, List.setIfInBounds_toArray, List.set_cons_zero, List.set_cons_succ]; go_big_quiet_on)))
  refine wpQuiet_nil ?_
  intro w9 hk9
  (have hk' := hk9; simp only [KeptC, List.forall_mem_cons] at hk'; go_split_ands); have hkB9 := hk9.1
  have hd9 : Below w1.heap.size w1 w9 := hkB9
  have HE := Lib.hid ((HH.out.below hd9).code 21)
  have g2 : w9.frozen? ⟨b, 2, none⟩ = false := (hd9.frozen (cell_lt c2)).trans f2
  have HB9 : Hid (Away b w1 w9) := Lib.hid (Away.of hd9 hbw)
  clear c0 c1 c2 f1 f2
  go_wp2
  go_ret
  exact ⟨_, q, 21, rfl, ⟨_, rfl⟩, HE.out.1, HPQ.out, fun h => absurd h (by decide), (HB.out.trans HB9.out).trans HE.out.2⟩
 | false =>
  have hxm : x ≤ m := by simpa using hD
  obtain ⟨k, rfl⟩ := Int.eq_ofNat_of_zero_le HX.out
  have hkm : q + k ≤ n := by have := HM.out; have := HLE.out; omega
  have hcn := HCN.out
  have hmx := HMX.out
  have hD2 : (k : Int) ≤ (m : Int) := hxm
  have hD3 : k ≤ m := by omega
  clear hxm
  have hw3 : IntKind.i64.wrap (k : Int) = (k : Int) := by rw [IntKind.wrap_i64]; omega
  obtain ⟨T, hT⟩ : ∃ T, q + k = T := ⟨_, rfl⟩
  have hw4 : IntKind.i64.wrap ((q : Int) + (k : Int)) = (T : Int) := by rw [IntKind.wrap_i64]; omega
  have hqT : q ≤ T := by omega
  have hTc : T ≤ cp := by omega
  have hTi : (T : Int) ≤ (cp : Int) := by omega
  have HT := Lib.hid hT
  have HTN : Hid (T ≤ n) := Lib.hid (by omega)
  clear hT hkm hcn hmx
  go_wp2_with (fail)
  refine wp_region_quietC_lit (KeptC w1 [(⟨b, 0, none⟩, .slice A n cp), (⟨b, 1, none⟩, .int .i64 q), (⟨b, 2, none⟩, .int .i64 0)] []) (by kernel_rfl) (by kernel_rfl) ?_ ?_
  · refine KeptC.drewn ?_
    exact Qk
  repeat (first
   | go_big_quiet_skip
   | (go_big_quiet_want; (apply quietC_run); (· intro w' hw'; (have hk' := hw'; simp only [KeptC, List.forall_mem_cons] at hk'; go_split_ands); go_simp; first | done | rfl); (simp only [Act.put, List.setIfInBounds_toArray, List.set_cons_zero, List.set_cons_succ]; go_big_quiet_on))
   | (go_big_quiet_want; (apply quietC_call); (· intro w' hw'; go_simp; first | done | exact ⟨rfl, rfl⟩ | rfl); (· intro w' hw'; first | ((with_reducible refine (fail).mono ?_); rintro e w2 ⟨rfl, hb⟩; exact ⟨rfl, hw'.below hb⟩)); (simp only [Act.put, List.setIfInBounds_toArray, List.set_cons_zero, List.set_cons_succ]; go_big_quiet_on)))
  refine wpQuiet_nil ?_
  intro w8 hk8
  (have hk' := hk8; simp only [KeptC, List.forall_mem_cons] at hk'; go_split_ands); have hkB8 := hk8.1
  have hd8 : Below w1.heap.size w1 w8 := hkB8
  have HH8 := Lib.hid (HH.out.below hd8)
  have HB8 : Hid (Away b w1 w8) := Lib.hid (Away.of hd8 hbw)
  have hb8 : b < w8.heap.size := Nat.lt_of_lt_of_le hbw hd8.size
  clear c0 c1 c2 f1 f2
  obtain ⟨X, hX⟩ : ∃ X, (if cp = q then A else Option.map (fun x => x.add q) A) = X := ⟨_, rfl⟩
  obtain ⟨S, hS⟩ : ∃ S : ByteArray, ∀ W', Below w8.heap.size w8 W' → (convert 77 9 (.slice X (T - q) (cp - q))).run Tryz.prog W' = .ok (.string S) W' := by
   rw [← hX]
   obtain ⟨S, hS⟩ := conv_str (A := if cp = q then A else A.map (fun x => x.add q)) (n := T - q) (cp := cp - q) (bs := (bs.drop q).take (T - q))
   exact ⟨S, fun W' hb => hS (rowsE_cut8 (cp := cp) (HH8.out.row.below (hb.mono (Nat.le_of_lt hb8))) HTN.out HCN.out (q := q))⟩
  go_wp2_with (fail)
  refine wp_region_quietC_lit (KeptC w8 [(⟨b, 0, none⟩, .slice A n cp), (⟨b, 1, none⟩, .int .i64 q), (⟨b, 2, none⟩, .int .i64 0)] []) (by kernel_rfl) (by kernel_rfl) ?_ ?_
  · refine KeptC.drewn ?_
    exact Qk
  repeat (first
   | go_big_quiet_skip
   | (go_big_quiet_want; (apply quietC_run); (· intro w' hw'; (have hk' := hw'; simp only [KeptC, List.forall_mem_cons] at hk'; go_split_ands); go_simp; first | done | rfl); (simp only [Act.put, List.setIfInBounds_toArray, List.set_cons_zero, List.set_cons_succ]; go_big_quiet_on))
   | (go_big_quiet_want; (apply quietC_call); (· intro w' hw'; go_simp; first | done | exact ⟨rfl, rfl⟩ | rfl); (· intro w' hw'; first | ((with_reducible refine (fail).mono ?_); rintro e w2 ⟨rfl, hb⟩; exact ⟨rfl, hw'.below hb⟩)); (simp only [Act.put, List.setIfInBounds_toArray, List.set_cons_zero, List.set_cons_succ]; go_big_quiet_on)))
  refine wpQuiet_nil ?_
  intro w9 hk9
  (have hk' := hk9; simp only [KeptC, List.forall_mem_cons] at hk'; go_split_ands); have hkB9 := hk9.1
  have hd9 : Below w8.heap.size w8 w9 := hkB9
  have HH9 := Lib.hid (HH8.out.below hd9)
  have HB9 : Hid (Away b W w9) := Lib.hid ((HB.out.trans HB8.out).trans (Away.of hd9 hb8))
  have g1 := HH9.out.f1
  have c1 := HH9.out.c1
  have HE := Lib.hid (HH9.out.step T HTN.out)
  go_wp2
  go_ret
  exact ⟨_, T, 0, rfl, ⟨_, rfl⟩, HE.out.1, by have := HT.out; have := HPQ.out; omega, fun _ => by have := HT.out; have := HLT.out trivial; omega, HB9.out.trans HE.out.2⟩
end Go.Proofs.YtkfodkbgmpbmfaaGreat
