/- Chapter 22, parts on the way: Wm -/
import Derived.Test.YtkfodkbgmpbmfaaGreatB01
import Derived.Test.YtkfodkbgmpbmfaaGreatB23
set_option linter.unusedVariables false
set_option linter.unusedSimpArgs false
namespace Go.Proofs.YtkfodkbgmpbmfaaGreat
open Go.RowKit Go.Shelf
set_option linter.unusedVariables false
set_option linter.unusedSimpArgs false
set_option maxRecDepth 100000
def adjLn (l : List Ln) (t : Nat) : Prop := ∀ x y, l[t]? = some x → l[t + 1]? = some y → ltN x.name y.name = true
theorem lnsP_of {l : List Ln} {n : Nat} (hl : l.length = n) (h2 : ∀ t : Nat, t + 1 < n → adjLn l t) : l.Pairwise (fun a b => ltN a.name b.name = true) :=
 pw_adjv (R := fun a b => ltN a.name b.name = true) (fun a b c h1 h2 => ltN_trans (a := a.name) (b := b.name) (c := c.name) h1 h2) l (fun t x y hx hy => h2 t (by have := (List.getElem?_eq_some_iff.1 hy).1; omega) x y hx hy)
theorem lnsF_of {l : List Ln} {n : Nat} {i p : Int} (hl : l.length = n) (h1 : ∀ (t : Nat) y, t < n → l[t]? = some y → Rg.fitB y.ver y.wr y.flow i p = true) : ∀ s ∈ l, Rg.fitB s.ver s.wr s.flow i p = true := fun s hs => by
 obtain ⟨t, ht, e⟩ := List.getElem_of_mem hs
 exact h1 t s (by omega) (by rw [List.getElem?_eq_getElem ht, e])
theorem regz_eq (a b c : Int) : ∃ B : Bool, ∀ W, (binOp .eql 88 (.agg #[.int .i64 a, .int .i64 b, .int .i64 c]) (.agg #[.int .i64 0, .int .i64 0, .int .i64 0])).run Tryz.prog W = .ok (.bool B) W := by
 by_cases h1 : a = 0
 · by_cases h2 : b = 0
   · by_cases h3 : c = 0
     · subst h1 h2 h3; exact ⟨true, fun W => by go_simp⟩
     · have q : (c == 0) = false := by simpa using h3
       subst h1 h2; exact ⟨false, fun W => by go_simp⟩
   · have q : (b == 0) = false := by simpa using h2
     subst h1; exact ⟨false, fun W => by go_simp⟩
 · have q : (a == 0) = false := by simpa using h1
   exact ⟨false, fun W => by go_simp⟩
noncomputable def regzB (a b c : Int) : Bool := Classical.choose (regz_eq a b c)
theorem regzB_run (a b c : Int) : ∀ W, (binOp .eql 88 (.agg #[.int .i64 a, .int .i64 b, .int .i64 c]) (.agg #[.int .i64 0, .int .i64 0, .int .i64 0])).run Tryz.prog W = .ok (.bool (regzB a b c)) W := Classical.choose_spec (regz_eq a b c)
def FitX (F : Prop) (w0 : World) (e : Ending) (w' : World) : Prop := ∃ b : Bool, e = .returned (.bool b) ∧ (b = true ↔ F) ∧ Below w0.heap.size w0 w'
theorem FitX.no {F : Prop} {w0 w' : World} (f : F → False) (h : Below w0.heap.size w0 w') : FitX F w0 (.returned (.bool false)) w' := ⟨false, rfl, ⟨fun h => (by cases h), fun h => (f h).elim⟩, h⟩
theorem FitX.yes {F : Prop} {w0 w' : World} (f : F) (h : Below w0.heap.size w0 w') : FitX F w0 (.returned (.bool true)) w' := ⟨true, rfl, ⟨fun _ => f, fun _ => rfl⟩, h⟩
structure LnFull (id peer : Int) (x : Ln) : Prop where
 nm : nameB x.name.data.toList = true
 fit : Rg.fitB x.ver x.wr x.flow id peer = true
 nz : regzB x.ver x.wr x.flow = false
def HfNum (id peer boot life : Int) (ln : Nat) (miss : Int) : Prop := peer ≠ id ∧ ¬ boot < 1 ∧ ¬ 1099511627776 < boot ∧ ¬ life < 0 ∧ ¬ 1099511627776 < life ∧ ¬ (8 : Int) < ln ∧ ¬ miss < 0 ∧ ¬ 3 ≤ miss
structure HfFull (id : Int) (y : Hf) : Prop where
 a0 : nodeI id = true
 a1 : nodeI y.peer = true
 num : HfNum id y.peer y.boot y.life y.ln y.miss
 b0 : y.pend = false → (y.miss != 0) = false
 b1 : ∀ (k : Nat) x, y.lines[k]? = some x → LnFull id y.peer x
 b2 : ∀ k : Nat, adjLn y.lines k
theorem HfFull.ok {id : Int} {y : Hf} (hl : y.lines.length = y.ln) (h : HfFull id y) : HfOk id y :=
 ⟨nodeI_iff.1 h.a1, by have h7 := h.num.2.2.2.2.2.1; omega, lnsP_of rfl (fun t _ => h.b2 t), lnsF_of rfl (fun t x _ hx => (h.b1 t x hx).fit)⟩
set_option maxHeartbeats 8000000 in
theorem hffull_any (id : Int) (y : Hf) (w : World) (hr : RowsE encLn 4 w w.heap.size y.la y.ln y.lines) (hnm : ∀ l ∈ y.lines, l.name.size ≤ maxLen) :
    Calls Tryz.prog 110 #[.int .i64 id, HfV y] w (FitX (HfFull id y) w) := by
 have HR := Lib.hid hr
 have HNM := Lib.hid hnm
 clear hr hnm
 obtain ⟨peer, boot, life, la, ln, lc, pend, miss, lines⟩ := y
 simp only [] at HR HNM ⊢
 obtain ⟨B0, hB0⟩ : ∃ B, nodeI id = B := ⟨_, rfl⟩
 have c1 := node10_any id
 rw [hB0] at c1
 obtain ⟨B1, hB1⟩ : ∃ B, nodeI peer = B := ⟨_, rfl⟩
 have c2 := node10_any peer
 rw [hB1] at c2
 have HB0 := Lib.hid hB0
 have HB1 := Lib.hid hB1
 have CI := Lib.hid c1; have CP := Lib.hid c2
 clear hB0 hB1 c1 c2
 go_enter Tryz.func110, Tryz.ntmps110
 go_wp2_with (fail)
 refine (CI.out _).mono ?_; rintro e w1 ⟨rfl, rfl⟩
 cases B0 with
 | false =>
  go_wp2
  go_ret
  exact FitX.no (fun h => by have h1 := h.a0; rw [HB0.out] at h1; cases h1) Qb
 | true =>
 go_wp2_with (fail)
 refine (CP.out _).mono ?_; rintro e w1 ⟨rfl, rfl⟩
 cases B1 with
 | false =>
  go_wp2
  go_ret
  exact FitX.no (fun h => by have h1 := h.a1; rw [HB1.out] at h1; cases h1) Qb
 | true =>
 by_cases g2 : peer = id
 · have q2 : (peer == id) = true := by simpa using g2
   clear g2
   go_wp2
   go_ret
   exact FitX.no (fun h => h.num.1 (by simpa using q2)) Qb
 have q2 : (peer == id) = false := by simpa using g2
 clear g2
 by_cases g3 : boot < 1
 · go_wp2
   go_ret
   exact FitX.no (fun h => h.num.2.1 g3) Qb
 by_cases g4 : 1099511627776 < boot
 · go_wp2
   go_ret
   exact FitX.no (fun h => h.num.2.2.1 g4) Qb
 by_cases g5 : life < 0
 · go_wp2
   go_ret
   exact FitX.no (fun h => h.num.2.2.2.1 g5) Qb
 by_cases g6 : 1099511627776 < life
 · go_wp2
   go_ret
   exact FitX.no (fun h => h.num.2.2.2.2.1 g6) Qb
 by_cases g7 : (8 : Int) < ln
 · go_wp2
   go_ret
   exact FitX.no (fun h => h.num.2.2.2.2.2.1 g7) Qb
 by_cases g8 : miss < 0
 · go_wp2
   go_ret
   exact FitX.no (fun h => h.num.2.2.2.2.2.2.1 g8) Qb
 by_cases g9 : 3 ≤ miss
 · go_wp2
   go_ret
   exact FitX.no (fun h => h.num.2.2.2.2.2.2.2 g9) Qb
 have hln : ln ≤ 8 := by omega
 have HLN := Lib.hid hln
 obtain ⟨B12, hB12⟩ : ∃ B, (miss != 0) = B := ⟨_, rfl⟩
 have HF : Hid (HfNum id peer boot life ln miss) := Lib.hid ⟨by simpa using q2, g3, g4, g5, g6, g7, g8, g9⟩
 cases pend
 · cases B12
   rotate_left
   · go_wp2
     go_ret
     exact FitX.no (fun h => by have h1 := h.b0 rfl; rw [hB12] at h1; cases h1) Qb
   all_goals
    have HM0 := Lib.hid hB12
    go_wp2
    clear hB12 q2 g3 g4 g5 g6 g7 g8 g9 CI CP hln
    go_loopw [5] (fun i w' => ∃ (k : Nat), k ≤ ln ∧ i = .int .i64 k ∧ Hid (∀ (t : Nat) y, t < k → lines[t]? = some y → LnFull id peer y) ∧ Hid (∀ t : Nat, t + 1 < k → adjLn lines t) ∧ KeptC w [(⟨w.heap.size, 0, none⟩, .int .i64 peer), (⟨w.heap.size, 3, none⟩, .slice la ln lc)] [] w') (fun i _ => ln - (intOf i).toNat)
    case atStart => exact ⟨0, Nat.zero_le _, rfl, Lib.hid before_zero, Lib.hid (fun t h => by omega), Qk⟩
    case round =>
     obtain ⟨k, hk, rfl, HA, HP, hK⟩ := hrel
     simp only [KeptC, List.forall_mem_cons] at hK; obtain ⟨kb0, ⟨kc0_0, kc0_1, _⟩, _⟩ := hK
     by_cases hlt : k < ln
     rotate_left
     · obtain rfl : k = ln := by omega
       have HN : Hid (HfFull id ⟨peer, boot, life, la, k, lc, false, miss, lines⟩) := Lib.hid ⟨HB0.out, HB1.out, HF.out, fun _ => HM0.out, fun t x hx => HA.out t x (by have h1 : lines.length = _ := HR.out.1; have h2 : t < lines.length := (List.getElem?_eq_some_iff.1 hx).1; omega) hx, fun t a b ha hb => HP.out t (by have h1 : lines.length = _ := HR.out.1; have h2 : t + 1 < lines.length := (List.getElem?_eq_some_iff.1 hb).1; omega) a b ha hb⟩
       go_wp2
       go_ret
       exact FitX.yes HN.out kb0
     · obtain ⟨ad, x, rfl, hab, hx, h4⟩ := HR.out.at hlt
       obtain ⟨P, hP⟩ : ∃ P, ad.add (k * 4) = P := ⟨_, rfl⟩
       rw [hP] at h4 hab
       obtain ⟨c0, c1, c2, c3⟩ := (ln4_of h4).below hab kb0
       have hs0 := kb0.size
       have hzw : w.heap.size < wr.heap.size := cell_lt kc0_0
       have hPw : P.block < wr.heap.size := by omega
       have HX := Lib.hid hx
       clear h4 hx
       have CN := Lib.hid (fun W => wname_any x.name W)
       obtain ⟨B0, hB0⟩ : ∃ B, nameB x.name.data.toList = B := ⟨_, rfl⟩
       rw [hB0] at CN
       have CF := Lib.hid (fun W => Rg.rfit_any x.ver x.wr x.flow id peer W)
       obtain ⟨B1, hB1⟩ : ∃ B, Rg.fitB x.ver x.wr x.flow id peer = B := ⟨_, rfl⟩
       rw [hB1] at CF
       have HF1 := Lib.hid hB1
       have HN0 := Lib.hid hB0
       obtain ⟨B3, hB3⟩ : ∃ B, regzB x.ver x.wr x.flow = B := ⟨_, rfl⟩
       have hEq := regzB_run x.ver x.wr x.flow
       rw [hB3] at hEq
       have HN3 := Lib.hid hB3
       clear hB0 hB1 hB3
       cases k with
       | zero =>
        go_wp2_with (fail)
        refine wp_region_quietC_lit (KeptC w [(⟨w.heap.size, 0, none⟩, .int .i64 peer), (⟨w.heap.size, 3, none⟩, .slice (some ad) ln lc), (⟨wr.heap.size, 0, none⟩, .string x.name), (⟨wr.heap.size, 1, none⟩, .int .i64 x.ver), (⟨wr.heap.size, 2, none⟩, .int .i64 x.wr), (⟨wr.heap.size, 3, none⟩, .int .i64 x.flow)] []) (by kernel_rfl) (by kernel_rfl) ?_ ?_
        · refine KeptC.drewn ?_
          exact Qk1 kb0
        try simp only [List.append_eq, List.cons_append, List.nil_append]
        repeat (first
         | go_big_quiet_skip
         | (refine BigFrame.wpQuiet_skip (wanted_off rfl rfl rfl rfl) ?_; (simp only [Act.put, List.setIfInBounds_toArray, List.set_cons_zero, List.set_cons_succ]))
         | (apply pick_or0 rfl rfl rfl; (· intro hA; (try simp only [hA, Bool.not_false, Bool.not_true, Bool.and_self, Bool.and_true, Bool.true_and, qv_true]); rfl); intro D hD; (simp only [Act.put, List.setIfInBounds_toArray, List.set_cons_zero, List.set_cons_succ]))
         | (apply pick_orG rfl (by first | exact wanted_on rfl rfl rfl rfl | exact wanted_pos rfl rfl rfl | exact wanted_neg rfl rfl rfl | exact wanted_pos2 rfl rfl rfl | exact wanted_neg2 rfl rfl rfl); (· intro hG; (try simp only [Bool.and_eq_true, Bool.or_eq_false_iff, Bool.not_eq_true', Bool.not_eq_false', Bool.not_not] at hG); (try simp only [hG, Bool.or_false, Bool.false_or, Bool.not_false, Bool.not_true, Bool.and_self, Bool.and_true, Bool.true_and, Bool.or_true, Bool.true_or, qv_true]); rfl); (· intro hG; (try simp only [Bool.and_eq_true, Bool.or_eq_false_iff, Bool.not_eq_true', Bool.not_eq_false', Bool.not_not] at hG); (try simp only [hG, Bool.or_false, Bool.false_or, Bool.not_false, Bool.not_true, Bool.and_self, Bool.and_true, Bool.true_and, Bool.or_true, Bool.true_or, qv_true]); intro hA; (try simp only [hA, Bool.not_false, Bool.not_true, Bool.and_self, Bool.and_true, Bool.true_and, qv_true]); rfl); intro D hD; (simp only [Act.put, List.setIfInBounds_toArray, List.set_cons_zero, List.set_cons_succ]))
         | (apply pick_and0 rfl rfl rfl; (· intro hA; (try simp only [hA, Bool.not_false, Bool.not_true, Bool.and_self, Bool.and_true, Bool.true_and, qv_true]); rfl); intro D hD; (simp only [Act.put, List.setIfInBounds_toArray, List.set_cons_zero, List.set_cons_succ]))
         | (apply pick_andG rfl (by first | exact wanted_on rfl rfl rfl rfl | exact wanted_pos rfl rfl rfl | exact wanted_neg rfl rfl rfl | exact wanted_pos2 rfl rfl rfl | exact wanted_neg2 rfl rfl rfl); (· intro hG; (try simp only [Bool.and_eq_true, Bool.or_eq_false_iff, Bool.not_eq_true', Bool.not_eq_false', Bool.not_not] at hG); (try simp only [hG, Bool.or_false, Bool.false_or, Bool.not_false, Bool.not_true, Bool.and_self, Bool.and_true, Bool.true_and, Bool.or_true, Bool.true_or, qv_true]); rfl); (· intro hG; (try simp only [Bool.and_eq_true, Bool.or_eq_false_iff, Bool.not_eq_true', Bool.not_eq_false', Bool.not_not] at hG); (try simp only [hG, Bool.or_false, Bool.false_or, Bool.not_false, Bool.not_true, Bool.and_self, Bool.and_true, Bool.true_and, Bool.or_true, Bool.true_or, qv_true]); intro hA; (try simp only [hA, Bool.not_false, Bool.not_true, Bool.and_self, Bool.and_true, Bool.true_and, qv_true]); rfl); intro D hD; (simp only [Act.put, List.setIfInBounds_toArray, List.set_cons_zero, List.set_cons_succ]))
         | (go_big_quiet_want; (apply quietC_run); (· intro w' hw'; (have hk' := hw'; simp only [KeptC, List.forall_mem_cons] at hk'; go_split_ands); go_simp; first | done | rfl); (simp only [Act.put, List.setIfInBounds_toArray, List.set_cons_zero, List.set_cons_succ]; go_big_quiet_on))
         | (go_big_quiet_want; (apply quietC_call); (· intro w' hw'; go_simp; first | done | exact ⟨rfl, rfl⟩ | rfl); (· intro w' hw'; first | ((with_reducible refine (CN.out _).mono ?_); rintro e w2 ⟨rfl, hb⟩; exact ⟨rfl, hw'.below hb⟩) | ((with_reducible refine (CF.out _).mono ?_); rintro e w2 ⟨rfl, hb⟩; exact ⟨rfl, hw'.below hb⟩)); (simp only [Act.put, List.setIfInBounds_toArray, List.set_cons_zero, List.set_cons_succ]; go_big_quiet_on))
         | (apply both_run (by first | exact wanted_on rfl rfl rfl rfl | exact wanted_pos rfl rfl rfl | exact wanted_neg rfl rfl rfl | exact wanted_pos2 rfl rfl rfl | exact wanted_neg2 rfl rfl rfl); (· intro hG w' hw'; (have hk' := hw'; simp only [KeptC, List.forall_mem_cons] at hk'; go_split_ands); (try simp only [Bool.and_eq_true, Bool.or_eq_false_iff, Bool.not_eq_true', Bool.not_eq_false', Bool.not_not] at hG); (try simp only [hG, Bool.or_false, Bool.false_or, Bool.not_false, Bool.not_true, Bool.and_self, Bool.and_true, Bool.true_and, Bool.or_true, Bool.true_or, qv_true]); go_simp; first | done | rfl); (simp only [Act.put, List.setIfInBounds_toArray, List.set_cons_zero, List.set_cons_succ]))
         | (apply both_call (by first | exact wanted_on rfl rfl rfl rfl | exact wanted_pos rfl rfl rfl | exact wanted_neg rfl rfl rfl | exact wanted_pos2 rfl rfl rfl | exact wanted_neg2 rfl rfl rfl); (· intro hG w' hw'; (try simp only [Bool.and_eq_true, Bool.or_eq_false_iff, Bool.not_eq_true', Bool.not_eq_false', Bool.not_not] at hG); (try simp only [hG, Bool.or_false, Bool.false_or, Bool.not_false, Bool.not_true, Bool.and_self, Bool.and_true, Bool.true_and, Bool.or_true, Bool.true_or, qv_true]); go_simp; first | done | exact ⟨rfl, rfl⟩ | rfl); (· intro hG w' hw'; first | ((with_reducible refine (CN.out _).mono ?_); rintro e w2 ⟨rfl, hb⟩; exact ⟨rfl, hw'.below hb⟩) | ((with_reducible refine (CF.out _).mono ?_); rintro e w2 ⟨rfl, hb⟩; exact ⟨rfl, hw'.below hb⟩)); (simp only [Act.put, List.setIfInBounds_toArray, List.set_cons_zero, List.set_cons_succ])))
        refine wpQuiet_nil ?_
        intro w9 hk9
        (have hk' := hk9; simp only [KeptC, List.forall_mem_cons] at hk'; go_split_ands); have hkB9 := hk9.1
        have hR : ((!B0 || !B1) || B3) = D := by subst_vars; simp
        have hR2 : D = false → B0 = true ∧ B1 = true ∧ B3 = false := by intro h; subst h; simp at hR; exact ⟨hR.1.1, hR.1.2, hR.2⟩
        have hR3 : D = true → B0 = true → B1 = true → B3 = false → False := by intro h a b c; subst h a b c; simp at hR
        have HR3 := Lib.hid hR3
        have HR2 := Lib.hid hR2
        clear hR hR2 hR3
        cases D with
        | true =>
         go_wp2
         go_ret
         exact FitX.no (fun h => HR3.out (by first | rfl | trivial) (HN0.out.symm.trans (h.b1 _ _ HX.out).nm) (HF1.out.symm.trans (h.b1 _ _ HX.out).fit) (HN3.out.symm.trans (h.b1 _ _ HX.out).nz)) (Qb1 hkB9)
        | false =>
         have HQ : Hid (LnFull id peer x) := Lib.hid ⟨HN0.out.trans (HR2.out (by first | rfl | trivial)).1, HF1.out.trans (HR2.out (by first | rfl | trivial)).2.1, HN3.out.trans (HR2.out (by first | rfl | trivial)).2.2⟩
         go_wp2
         go_roundw
         case rel => exact ⟨0 + 1, by omega, by go_num, Lib.hid (before_next HA.out HX.out HQ.out), Lib.hid (fun t h => by omega), (Qk1 hkB9)⟩
         case measure => simp [intOf]; omega
       | succ k =>
        obtain ⟨ad2, y, hA2, hab2, hy, g4⟩ := HR.out.at (j := k) (by omega)
        obtain rfl : ad = ad2 := Option.some.inj hA2
        obtain ⟨Q, hQ⟩ : ∃ Q, ad.add (k * 4) = Q := ⟨_, rfl⟩
        rw [hQ] at g4 hab2
        obtain ⟨e0, e1, e2, e3⟩ := (ln4_of g4).below hab2 kb0
        have hQw : Q.block < wr.heap.size := by omega
        have HY := Lib.hid hy
        have hwk : IntKind.i64.wrap (k : Int) = k := by rw [IntKind.wrap_i64]; have := HLN.out; omega
        have hkn : k < ln := by omega
        obtain ⟨L, hL⟩ : ∃ L, Op.bytesLess y.name.toList x.name.toList = L := ⟨_, rfl⟩
        have HL := Lib.hid hL
        clear hy g4 hA2 e1 e2 e3
        go_wp2_with (fail)
        refine wp_region_quietC_lit (KeptC w [(⟨w.heap.size, 0, none⟩, .int .i64 peer), (⟨w.heap.size, 3, none⟩, .slice (some ad) ln lc), (⟨wr.heap.size, 0, none⟩, .string x.name), (⟨wr.heap.size, 1, none⟩, .int .i64 x.ver), (⟨wr.heap.size, 2, none⟩, .int .i64 x.wr), (⟨wr.heap.size, 3, none⟩, .int .i64 x.flow), (Q, .string y.name)] []) (by kernel_rfl) (by kernel_rfl) ?_ ?_
        · refine KeptC.drewn ?_
          exact Qk1 kb0
        try simp only [List.append_eq, List.cons_append, List.nil_append]
        repeat (first
         | go_big_quiet_skip
         | (refine BigFrame.wpQuiet_skip (wanted_off rfl rfl rfl rfl) ?_; (simp only [Act.put, List.setIfInBounds_toArray, List.set_cons_zero, List.set_cons_succ]))
         | (apply pick_or0 rfl rfl rfl; (· intro hA; (try simp only [hA, Bool.not_false, Bool.not_true, Bool.and_self, Bool.and_true, Bool.true_and, qv_true]); rfl); intro D hD; (simp only [Act.put, List.setIfInBounds_toArray, List.set_cons_zero, List.set_cons_succ]))
         | (apply pick_orG rfl (by first | exact wanted_on rfl rfl rfl rfl | exact wanted_pos rfl rfl rfl | exact wanted_neg rfl rfl rfl | exact wanted_pos2 rfl rfl rfl | exact wanted_neg2 rfl rfl rfl); (· intro hG; (try simp only [Bool.and_eq_true, Bool.or_eq_false_iff, Bool.not_eq_true', Bool.not_eq_false', Bool.not_not] at hG); (try simp only [hG, Bool.or_false, Bool.false_or, Bool.not_false, Bool.not_true, Bool.and_self, Bool.and_true, Bool.true_and, Bool.or_true, Bool.true_or, qv_true]); rfl); (· intro hG; (try simp only [Bool.and_eq_true, Bool.or_eq_false_iff, Bool.not_eq_true', Bool.not_eq_false', Bool.not_not] at hG); (try simp only [hG, Bool.or_false, Bool.false_or, Bool.not_false, Bool.not_true, Bool.and_self, Bool.and_true, Bool.true_and, Bool.or_true, Bool.true_or, qv_true]); intro hA; (try simp only [hA, Bool.not_false, Bool.not_true, Bool.and_self, Bool.and_true, Bool.true_and, qv_true]); rfl); intro D hD; (simp only [Act.put, List.setIfInBounds_toArray, List.set_cons_zero, List.set_cons_succ]))
         | (apply pick_and0 rfl rfl rfl; (· intro hA; (try simp only [hA, Bool.not_false, Bool.not_true, Bool.and_self, Bool.and_true, Bool.true_and, qv_true]); rfl); intro D hD; (simp only [Act.put, List.setIfInBounds_toArray, List.set_cons_zero, List.set_cons_succ]))
         | (apply pick_andG rfl (by first | exact wanted_on rfl rfl rfl rfl | exact wanted_pos rfl rfl rfl | exact wanted_neg rfl rfl rfl | exact wanted_pos2 rfl rfl rfl | exact wanted_neg2 rfl rfl rfl); (· intro hG; (try simp only [Bool.and_eq_true, Bool.or_eq_false_iff, Bool.not_eq_true', Bool.not_eq_false', Bool.not_not] at hG); (try simp only [hG, Bool.or_false, Bool.false_or, Bool.not_false, Bool.not_true, Bool.and_self, Bool.and_true, Bool.true_and, Bool.or_true, Bool.true_or, qv_true]); rfl); (· intro hG; (try simp only [Bool.and_eq_true, Bool.or_eq_false_iff, Bool.not_eq_true', Bool.not_eq_false', Bool.not_not] at hG); (try simp only [hG, Bool.or_false, Bool.false_or, Bool.not_false, Bool.not_true, Bool.and_self, Bool.and_true, Bool.true_and, Bool.or_true, Bool.true_or, qv_true]); intro hA; (try simp only [hA, Bool.not_false, Bool.not_true, Bool.and_self, Bool.and_true, Bool.true_and, qv_true]); rfl); intro D hD; (simp only [Act.put, List.setIfInBounds_toArray, List.set_cons_zero, List.set_cons_succ]))
         | (go_big_quiet_want; (apply quietC_run); (· intro w' hw'; (have hk' := hw'; simp only [KeptC, List.forall_mem_cons] at hk'; go_split_ands); go_simp; first | done | rfl); (simp only [Act.put, List.setIfInBounds_toArray, List.set_cons_zero, List.set_cons_succ]; go_big_quiet_on))
         | (go_big_quiet_want; (apply quietC_call); (· intro w' hw'; go_simp; first | done | exact ⟨rfl, rfl⟩ | rfl); (· intro w' hw'; first | ((with_reducible refine (CN.out _).mono ?_); rintro e w2 ⟨rfl, hb⟩; exact ⟨rfl, hw'.below hb⟩) | ((with_reducible refine (CF.out _).mono ?_); rintro e w2 ⟨rfl, hb⟩; exact ⟨rfl, hw'.below hb⟩)); (simp only [Act.put, List.setIfInBounds_toArray, List.set_cons_zero, List.set_cons_succ]; go_big_quiet_on))
         | (apply both_run (by first | exact wanted_on rfl rfl rfl rfl | exact wanted_pos rfl rfl rfl | exact wanted_neg rfl rfl rfl | exact wanted_pos2 rfl rfl rfl | exact wanted_neg2 rfl rfl rfl); (· intro hG w' hw'; (have hk' := hw'; simp only [KeptC, List.forall_mem_cons] at hk'; go_split_ands); (try simp only [Bool.and_eq_true, Bool.or_eq_false_iff, Bool.not_eq_true', Bool.not_eq_false', Bool.not_not] at hG); (try simp only [hG, Bool.or_false, Bool.false_or, Bool.not_false, Bool.not_true, Bool.and_self, Bool.and_true, Bool.true_and, Bool.or_true, Bool.true_or, qv_true]); go_simp; first | done | rfl); (simp only [Act.put, List.setIfInBounds_toArray, List.set_cons_zero, List.set_cons_succ]))
         | (apply both_call (by first | exact wanted_on rfl rfl rfl rfl | exact wanted_pos rfl rfl rfl | exact wanted_neg rfl rfl rfl | exact wanted_pos2 rfl rfl rfl | exact wanted_neg2 rfl rfl rfl); (· intro hG w' hw'; (try simp only [Bool.and_eq_true, Bool.or_eq_false_iff, Bool.not_eq_true', Bool.not_eq_false', Bool.not_not] at hG); (try simp only [hG, Bool.or_false, Bool.false_or, Bool.not_false, Bool.not_true, Bool.and_self, Bool.and_true, Bool.true_and, Bool.or_true, Bool.true_or, qv_true]); go_simp; first | done | exact ⟨rfl, rfl⟩ | rfl); (· intro hG w' hw'; first | ((with_reducible refine (CN.out _).mono ?_); rintro e w2 ⟨rfl, hb⟩; exact ⟨rfl, hw'.below hb⟩) | ((with_reducible refine (CF.out _).mono ?_); rintro e w2 ⟨rfl, hb⟩; exact ⟨rfl, hw'.below hb⟩)); (simp only [Act.put, List.setIfInBounds_toArray, List.set_cons_zero, List.set_cons_succ])))
        refine wpQuiet_nil ?_
        intro w9 hk9
        (have hk' := hk9; simp only [KeptC, List.forall_mem_cons] at hk'; go_split_ands); have hkB9 := hk9.1
        have hR : (((!B0 || !L) || !B1) || B3) = D := by subst_vars; simp
        have hR2 : D = false → B0 = true ∧ B1 = true ∧ B3 = false ∧ L = true := by intro h; subst h; simp at hR; exact ⟨hR.1.1.1, hR.1.2, hR.2, hR.1.1.2⟩
        have hR3 : D = true → B0 = true → B1 = true → B3 = false → L = true → False := by intro h a b c d; subst h a b c d; simp at hR
        have HR3 := Lib.hid hR3
        have HR2 := Lib.hid hR2
        clear hR hR2 hR3
        cases D with
        | true =>
         go_wp2
         go_ret
         exact FitX.no (fun h => HR3.out (by first | rfl | trivial) (HN0.out.symm.trans (h.b1 _ _ HX.out).nm) (HF1.out.symm.trans (h.b1 _ _ HX.out).fit) (HN3.out.symm.trans (h.b1 _ _ HX.out).nz) (HL.out.symm.trans (h.b2 _ _ _ HY.out HX.out))) (Qb1 hkB9)
        | false =>
         have HQ : Hid (LnFull id peer x) := Lib.hid ⟨HN0.out.trans (HR2.out (by first | rfl | trivial)).1, HF1.out.trans (HR2.out (by first | rfl | trivial)).2.1, HN3.out.trans (HR2.out (by first | rfl | trivial)).2.2.1⟩
         have HQ2 : Hid (∀ t : Nat, t + 1 < k + 1 + 1 → adjLn lines t) := Lib.hid (fun t h => by
          rcases Nat.lt_or_eq_of_le (Nat.lt_succ_iff.1 h) with h1 | h1
          · exact HP.out t h1
          · obtain rfl : t = k := by omega
            intro a b ha hb
            rw [HY.out] at ha; rw [HX.out] at hb
            obtain rfl := Option.some.inj ha
            obtain rfl := Option.some.inj hb
            exact HL.out.trans (HR2.out (by first | rfl | trivial)).2.2.2)
         go_wp2
         go_roundw
         case rel => exact ⟨k + 1 + 1, by omega, by go_num, Lib.hid (before_next HA.out HX.out HQ.out), HQ2, (Qk1 hkB9)⟩
         case measure => simp [intOf]; omega
 · have HM0 : Hid True := Lib.hid trivial
   go_wp2
   clear hB12 q2 g3 g4 g5 g6 g7 g8 g9 CI CP hln
   go_loopw [5] (fun i w' => ∃ (k : Nat), k ≤ ln ∧ i = .int .i64 k ∧ Hid (∀ (t : Nat) y, t < k → lines[t]? = some y → LnFull id peer y) ∧ Hid (∀ t : Nat, t + 1 < k → adjLn lines t) ∧ KeptC w [(⟨w.heap.size, 0, none⟩, .int .i64 peer), (⟨w.heap.size, 3, none⟩, .slice la ln lc)] [] w') (fun i _ => ln - (intOf i).toNat)
   case atStart => exact ⟨0, Nat.zero_le _, rfl, Lib.hid before_zero, Lib.hid (fun t h => by omega), Qk⟩
   case round =>
    obtain ⟨k, hk, rfl, HA, HP, hK⟩ := hrel
    simp only [KeptC, List.forall_mem_cons] at hK; obtain ⟨kb0, ⟨kc0_0, kc0_1, _⟩, _⟩ := hK
    by_cases hlt : k < ln
    rotate_left
    · obtain rfl : k = ln := by omega
      have HN : Hid (HfFull id ⟨peer, boot, life, la, k, lc, true, miss, lines⟩) := Lib.hid ⟨HB0.out, HB1.out, HF.out, fun h => (by cases h), fun t x hx => HA.out t x (by have h1 : lines.length = _ := HR.out.1; have h2 : t < lines.length := (List.getElem?_eq_some_iff.1 hx).1; omega) hx, fun t a b ha hb => HP.out t (by have h1 : lines.length = _ := HR.out.1; have h2 : t + 1 < lines.length := (List.getElem?_eq_some_iff.1 hb).1; omega) a b ha hb⟩
      go_wp2
      go_ret
      exact FitX.yes HN.out kb0
    · obtain ⟨ad, x, rfl, hab, hx, h4⟩ := HR.out.at hlt
      obtain ⟨P, hP⟩ : ∃ P, ad.add (k * 4) = P := ⟨_, rfl⟩
      rw [hP] at h4 hab
      obtain ⟨c0, c1, c2, c3⟩ := (ln4_of h4).below hab kb0
      have hs0 := kb0.size
      have hzw : w.heap.size < wr.heap.size := cell_lt kc0_0
      have hPw : P.block < wr.heap.size := by omega
      have HX := Lib.hid hx
      clear h4 hx
      have CN := Lib.hid (fun W => wname_any x.name W)
      obtain ⟨B0, hB0⟩ : ∃ B, nameB x.name.data.toList = B := ⟨_, rfl⟩
      rw [hB0] at CN
      have CF := Lib.hid (fun W => Rg.rfit_any x.ver x.wr x.flow id peer W)
      obtain ⟨B1, hB1⟩ : ∃ B, Rg.fitB x.ver x.wr x.flow id peer = B := ⟨_, rfl⟩
      rw [hB1] at CF
      have HF1 := Lib.hid hB1
      have HN0 := Lib.hid hB0
      obtain ⟨B3, hB3⟩ : ∃ B, regzB x.ver x.wr x.flow = B := ⟨_, rfl⟩
      have hEq := regzB_run x.ver x.wr x.flow
      rw [hB3] at hEq
      have HN3 := Lib.hid hB3
      clear hB0 hB1 hB3
      cases k with
      | zero =>
       go_wp2_with (fail)
       refine wp_region_quietC_lit (KeptC w [(⟨w.heap.size, 0, none⟩, .int .i64 peer), (⟨w.heap.size, 3, none⟩, .slice (some ad) ln lc), (⟨wr.heap.size, 0, none⟩, .string x.name), (⟨wr.heap.size, 1, none⟩, .int .i64 x.ver), (⟨wr.heap.size, 2, none⟩, .int .i64 x.wr), (⟨wr.heap.size, 3, none⟩, .int .i64 x.flow)] []) (by kernel_rfl) (by kernel_rfl) ?_ ?_
       · refine KeptC.drewn ?_
         exact Qk1 kb0
       try simp only [List.append_eq, List.cons_append, List.nil_append]
       repeat (first
        | go_big_quiet_skip
        | (refine BigFrame.wpQuiet_skip (wanted_off rfl rfl rfl rfl) ?_; (simp only [Act.put, List.setIfInBounds_toArray, List.set_cons_zero, List.set_cons_succ]))
        | (apply pick_or0 rfl rfl rfl; (· intro hA; (try simp only [hA, Bool.not_false, Bool.not_true, Bool.and_self, Bool.and_true, Bool.true_and, qv_true]); rfl); intro D hD; (simp only [Act.put, List.setIfInBounds_toArray, List.set_cons_zero, List.set_cons_succ]))
        | (apply pick_orG rfl (by first | exact wanted_on rfl rfl rfl rfl | exact wanted_pos rfl rfl rfl | exact wanted_neg rfl rfl rfl | exact wanted_pos2 rfl rfl rfl | exact wanted_neg2 rfl rfl rfl); (· intro hG; (try simp only [Bool.and_eq_true, Bool.or_eq_false_iff, Bool.not_eq_true', Bool.not_eq_false', Bool.not_not] at hG); (try simp only [hG, Bool.or_false, Bool.false_or, Bool.not_false, Bool.not_true, Bool.and_self, Bool.and_true, Bool.true_and, Bool.or_true, Bool.true_or, qv_true]); rfl); (· intro hG; (try simp only [Bool.and_eq_true, Bool.or_eq_false_iff, Bool.not_eq_true', Bool.not_eq_false', Bool.not_not] at hG); (try simp only [hG, Bool.or_false, Bool.false_or, Bool.not_false, Bool.not_true, Bool.and_self, Bool.and_true, Bool.true_and, Bool.or_true, Bool.true_or, qv_true]); intro hA; (try simp only [hA, Bool.not_false, Bool.not_true, Bool.and_self, Bool.and_true, Bool.true_and, qv_true]); rfl); intro D hD; (simp only [Act.put, List.setIfInBounds_toArray, List.set_cons_zero, List.set_cons_succ]))
        | (apply pick_and0 rfl rfl rfl; (· intro hA; (try simp only [hA, Bool.not_false, Bool.not_true, Bool.and_self, Bool.and_true, Bool.true_and, qv_true]); rfl); intro D hD; (simp only [Act.put, List.setIfInBounds_toArray, List.set_cons_zero, List.set_cons_succ]))
        | (apply pick_andG rfl (by first | exact wanted_on rfl rfl rfl rfl | exact wanted_pos rfl rfl rfl | exact wanted_neg rfl rfl rfl | exact wanted_pos2 rfl rfl rfl | exact wanted_neg2 rfl rfl rfl); (· intro hG; (try simp only [Bool.and_eq_true, Bool.or_eq_false_iff, Bool.not_eq_true', Bool.not_eq_false', Bool.not_not] at hG); (try simp only [hG, Bool.or_false, Bool.false_or, Bool.not_false, Bool.not_true, Bool.and_self, Bool.and_true, Bool.true_and, Bool.or_true, Bool.true_or, qv_true]); rfl); (· intro hG; (try simp only [Bool.and_eq_true, Bool.or_eq_false_iff, Bool.not_eq_true', Bool.not_eq_false', Bool.not_not] at hG); (try simp only [hG, Bool.or_false, Bool.false_or, Bool.not_false, Bool.not_true, Bool.and_self, Bool.and_true, Bool.true_and, Bool.or_true, Bool.true_or, qv_true]); intro hA; (try simp only [hA, Bool.not_false, Bool.not_true, Bool.and_self, Bool.and_true, Bool.true_and, qv_true]); rfl); intro D hD; (simp only [Act.put, List.setIfInBounds_toArray, List.set_cons_zero, List.set_cons_succ]))
        | (go_big_quiet_want; (apply quietC_run); (· intro w' hw'; (have hk' := hw'; simp only [KeptC, List.forall_mem_cons] at hk'; go_split_ands); go_simp; first | done | rfl); (simp only [Act.put, List.setIfInBounds_toArray, List.set_cons_zero, List.set_cons_succ]; go_big_quiet_on))
        | (go_big_quiet_want; (apply quietC_call); (· intro w' hw'; go_simp; first | done | exact ⟨rfl, rfl⟩ | rfl); (· intro w' hw'; first | ((with_reducible refine (CN.out _).mono ?_); rintro e w2 ⟨rfl, hb⟩; exact ⟨rfl, hw'.below hb⟩) | ((with_reducible refine (CF.out _).mono ?_); rintro e w2 ⟨rfl, hb⟩; exact ⟨rfl, hw'.below hb⟩)); (simp only [Act.put, List.setIfInBounds_toArray, List.set_cons_zero, List.set_cons_succ]; go_big_quiet_on))
        | (apply both_run (by first | exact wanted_on rfl rfl rfl rfl | exact wanted_pos rfl rfl rfl | exact wanted_neg rfl rfl rfl | exact wanted_pos2 rfl rfl rfl | exact wanted_neg2 rfl rfl rfl); (· intro hG w' hw'; (have hk' := hw'; simp only [KeptC, List.forall_mem_cons] at hk'; go_split_ands); (try simp only [Bool.and_eq_true, Bool.or_eq_false_iff, Bool.not_eq_true', Bool.not_eq_false', Bool.not_not] at hG); (try simp only [hG, Bool.or_false, Bool.false_or, Bool.not_false, Bool.not_true, Bool.and_self, Bool.and_true, Bool.true_and, Bool.or_true, Bool.true_or, qv_true]); go_simp; first | done | rfl); (simp only [Act.put, List.setIfInBounds_toArray, List.set_cons_zero, List.set_cons_succ]))
        | (apply both_call (by first | exact wanted_on rfl rfl rfl rfl | exact wanted_pos rfl rfl rfl | exact wanted_neg rfl rfl rfl | exact wanted_pos2 rfl rfl rfl | exact wanted_neg2 rfl rfl rfl); (· intro hG w' hw'; (try simp only [Bool.and_eq_true, Bool.or_eq_false_iff, Bool.not_eq_true', Bool.not_eq_false', Bool.not_not] at hG); (try simp only [hG, Bool.or_false, Bool.false_or, Bool.not_false, Bool.not_true, Bool.and_self, Bool.and_true, Bool.true_and, Bool.or_true, Bool.true_or, qv_true]); go_simp; first | done | exact ⟨rfl, rfl⟩ | rfl); (· intro hG w' hw'; first | ((with_reducible refine (CN.out _).mono ?_); rintro e w2 ⟨rfl, hb⟩; exact ⟨rfl, hw'.below hb⟩) | ((with_reducible refine (CF.out _).mono ?_); rintro e w2 ⟨rfl, hb⟩; exact ⟨rfl, hw'.below hb⟩)); (simp only [Act.put, List.setIfInBounds_toArray, List.set_cons_zero, List.set_cons_succ])))
       refine wpQuiet_nil ?_
       intro w9 hk9
       (have hk' := hk9; simp only [KeptC, List.forall_mem_cons] at hk'; go_split_ands); have hkB9 := hk9.1
       have hR : ((!B0 || !B1) || B3) = D := by subst_vars; simp
       have hR2 : D = false → B0 = true ∧ B1 = true ∧ B3 = false := by intro h; subst h; simp at hR; exact ⟨hR.1.1, hR.1.2, hR.2⟩
       have hR3 : D = true → B0 = true → B1 = true → B3 = false → False := by intro h a b c; subst h a b c; simp at hR
       have HR3 := Lib.hid hR3
       have HR2 := Lib.hid hR2
       clear hR hR2 hR3
       cases D with
       | true =>
        go_wp2
        go_ret
        exact FitX.no (fun h => HR3.out (by first | rfl | trivial) (HN0.out.symm.trans (h.b1 _ _ HX.out).nm) (HF1.out.symm.trans (h.b1 _ _ HX.out).fit) (HN3.out.symm.trans (h.b1 _ _ HX.out).nz)) (Qb1 hkB9)
       | false =>
        have HQ : Hid (LnFull id peer x) := Lib.hid ⟨HN0.out.trans (HR2.out (by first | rfl | trivial)).1, HF1.out.trans (HR2.out (by first | rfl | trivial)).2.1, HN3.out.trans (HR2.out (by first | rfl | trivial)).2.2⟩
        go_wp2
        go_roundw
        case rel => exact ⟨0 + 1, by omega, by go_num, Lib.hid (before_next HA.out HX.out HQ.out), Lib.hid (fun t h => by omega), (Qk1 hkB9)⟩
        case measure => simp [intOf]; omega
      | succ k =>
       obtain ⟨ad2, y, hA2, hab2, hy, g4⟩ := HR.out.at (j := k) (by omega)
       obtain rfl : ad = ad2 := Option.some.inj hA2
       obtain ⟨Q, hQ⟩ : ∃ Q, ad.add (k * 4) = Q := ⟨_, rfl⟩
       rw [hQ] at g4 hab2
       obtain ⟨e0, e1, e2, e3⟩ := (ln4_of g4).below hab2 kb0
       have hQw : Q.block < wr.heap.size := by omega
       have HY := Lib.hid hy
       have hwk : IntKind.i64.wrap (k : Int) = k := by rw [IntKind.wrap_i64]; have := HLN.out; omega
       have hkn : k < ln := by omega
       obtain ⟨L, hL⟩ : ∃ L, Op.bytesLess y.name.toList x.name.toList = L := ⟨_, rfl⟩
       have HL := Lib.hid hL
       clear hy g4 hA2 e1 e2 e3
       go_wp2_with (fail)
       refine wp_region_quietC_lit (KeptC w [(⟨w.heap.size, 0, none⟩, .int .i64 peer), (⟨w.heap.size, 3, none⟩, .slice (some ad) ln lc), (⟨wr.heap.size, 0, none⟩, .string x.name), (⟨wr.heap.size, 1, none⟩, .int .i64 x.ver), (⟨wr.heap.size, 2, none⟩, .int .i64 x.wr), (⟨wr.heap.size, 3, none⟩, .int .i64 x.flow), (Q, .string y.name)] []) (by kernel_rfl) (by kernel_rfl) ?_ ?_
       · refine KeptC.drewn ?_
         exact Qk1 kb0
       try simp only [List.append_eq, List.cons_append, List.nil_append]
       repeat (first
        | go_big_quiet_skip
        | (refine BigFrame.wpQuiet_skip (wanted_off rfl rfl rfl rfl) ?_; (simp only [Act.put, List.setIfInBounds_toArray, List.set_cons_zero, List.set_cons_succ]))
        | (apply pick_or0 rfl rfl rfl; (· intro hA; (try simp only [hA, Bool.not_false, Bool.not_true, Bool.and_self, Bool.and_true, Bool.true_and, qv_true]); rfl); intro D hD; (simp only [Act.put, List.setIfInBounds_toArray, List.set_cons_zero, List.set_cons_succ]))
        | (apply pick_orG rfl (by first | exact wanted_on rfl rfl rfl rfl | exact wanted_pos rfl rfl rfl | exact wanted_neg rfl rfl rfl | exact wanted_pos2 rfl rfl rfl | exact wanted_neg2 rfl rfl rfl); (· intro hG; (try simp only [Bool.and_eq_true, Bool.or_eq_false_iff, Bool.not_eq_true', Bool.not_eq_false', Bool.not_not] at hG); (try simp only [hG, Bool.or_false, Bool.false_or, Bool.not_false, Bool.not_true, Bool.and_self, Bool.and_true, Bool.true_and, Bool.or_true, Bool.true_or, qv_true]); rfl); (· intro hG; (try simp only [Bool.and_eq_true, Bool.or_eq_false_iff, Bool.not_eq_true', Bool.not_eq_false', Bool.not_not] at hG); (try simp only [hG, Bool.or_false, Bool.false_or, Bool.not_false, Bool.not_true, Bool.and_self, Bool.and_true, Bool.true_and, Bool.or_true, Bool.true_or, qv_true]); intro hA; (try simp only [hA, Bool.not_false, Bool.not_true, Bool.and_self, Bool.and_true, Bool.true_and, qv_true]); rfl); intro D hD; (simp only [Act.put, List.setIfInBounds_toArray, List.set_cons_zero, List.set_cons_succ]))
        | (apply pick_and0 rfl rfl rfl; (· intro hA; (try simp only [hA, Bool.not_false, Bool.not_true, Bool.and_self, Bool.and_true, Bool.true_and, qv_true]); rfl); intro D hD; (simp only [Act.put, List.setIfInBounds_toArray, List.set_cons_zero, List.set_cons_succ]))
        | (apply pick_andG rfl (by first | exact wanted_on rfl rfl rfl rfl | exact wanted_pos rfl rfl rfl | exact wanted_neg rfl rfl rfl | exact wanted_pos2 rfl rfl rfl | exact wanted_neg2 rfl rfl rfl); (· intro hG; (try simp only [Bool.and_eq_true, Bool.or_eq_false_iff, Bool.not_eq_true', Bool.not_eq_false', Bool.not_not] at hG); (try simp only [hG, Bool.or_false, Bool.false_or, Bool.not_false, Bool.not_true, Bool.and_self, Bool.and_true, Bool.true_and, Bool.or_true, Bool.true_or, qv_true]); rfl); (· intro hG; (try simp only [Bool.and_eq_true, Bool.or_eq_false_iff, Bool.not_eq_true', Bool.not_eq_false', Bool.not_not] at hG); (try simp only [hG, Bool.or_false, Bool.false_or, Bool.not_false, Bool.not_true, Bool.and_self, Bool.and_true, Bool.true_and, Bool.or_true, Bool.true_or, qv_true]); intro hA; (try simp only [hA, Bool.not_false, Bool.not_true, Bool.and_self, Bool.and_true, Bool.true_and, qv_true]); rfl); intro D hD; (simp only [Act.put, List.setIfInBounds_toArray, List.set_cons_zero, List.set_cons_succ]))
        | (go_big_quiet_want; (apply quietC_run); (· intro w' hw'; (have hk' := hw'; simp only [KeptC, List.forall_mem_cons] at hk'; go_split_ands); go_simp; first | done | rfl); (simp only [Act.put, List.setIfInBounds_toArray, List.set_cons_zero, List.set_cons_succ]; go_big_quiet_on))
        | (go_big_quiet_want; (apply quietC_call); (· intro w' hw'; go_simp; first | done | exact ⟨rfl, rfl⟩ | rfl); (· intro w' hw'; first | ((with_reducible refine (CN.out _).mono ?_); rintro e w2 ⟨rfl, hb⟩; exact ⟨rfl, hw'.below hb⟩) | ((with_reducible refine (CF.out _).mono ?_); rintro e w2 ⟨rfl, hb⟩; exact ⟨rfl, hw'.below hb⟩)); (simp only [Act.put, List.setIfInBounds_toArray, List.set_cons_zero, List.set_cons_succ]; go_big_quiet_on))
        | (apply both_run (by first | exact wanted_on rfl rfl rfl rfl | exact wanted_pos rfl rfl rfl | exact wanted_neg rfl rfl rfl | exact wanted_pos2 rfl rfl rfl | exact wanted_neg2 rfl rfl rfl); (· intro hG w' hw'; (have hk' := hw'; simp only [KeptC, List.forall_mem_cons] at hk'; go_split_ands); (try simp only [Bool.and_eq_true, Bool.or_eq_false_iff, Bool.not_eq_true', Bool.not_eq_false', Bool.not_not] at hG); (try simp only [hG, Bool.or_false, Bool.false_or, Bool.not_false, Bool.not_true, Bool.and_self, Bool.and_true, Bool.true_and, Bool.or_true, Bool.true_or, qv_true]); go_simp; first | done | rfl); (simp only [Act.put, List.setIfInBounds_toArray, List.set_cons_zero, List.set_cons_succ]))
        | (apply both_call (by first | exact wanted_on rfl rfl rfl rfl | exact wanted_pos rfl rfl rfl | exact wanted_neg rfl rfl rfl | exact wanted_pos2 rfl rfl rfl | exact wanted_neg2 rfl rfl rfl); (· intro hG w' hw'; (try simp only [Bool.and_eq_true, Bool.or_eq_false_iff, Bool.not_eq_true', Bool.not_eq_false', Bool.not_not] at hG); (try simp only [hG, Bool.or_false, Bool.false_or, Bool.not_false, Bool.not_true, Bool.and_self, Bool.and_true, Bool.true_and, Bool.or_true, Bool.true_or, qv_true]); go_simp; first | done | exact ⟨rfl, rfl⟩ | rfl); (· intro hG w' hw'; first | ((with_reducible refine (CN.out _).mono ?_); rintro e w2 ⟨rfl, hb⟩; exact ⟨rfl, hw'.below hb⟩) | ((with_reducible refine (CF.out _).mono ?_); rintro e w2 ⟨rfl, hb⟩; exact ⟨rfl, hw'.below hb⟩)); (simp only [Act.put, List.setIfInBounds_toArray, List.set_cons_zero, List.set_cons_succ])))
       refine wpQuiet_nil ?_
       intro w9 hk9
       (have hk' := hk9; simp only [KeptC, List.forall_mem_cons] at hk'; go_split_ands); have hkB9 := hk9.1
       have hR : (((!B0 || !L) || !B1) || B3) = D := by subst_vars; simp
       have hR2 : D = false → B0 = true ∧ B1 = true ∧ B3 = false ∧ L = true := by intro h; subst h; simp at hR; exact ⟨hR.1.1.1, hR.1.2, hR.2, hR.1.1.2⟩
       have hR3 : D = true → B0 = true → B1 = true → B3 = false → L = true → False := by intro h a b c d; subst h a b c d; simp at hR
       have HR3 := Lib.hid hR3
       have HR2 := Lib.hid hR2
       clear hR hR2 hR3
       cases D with
       | true =>
        go_wp2
        go_ret
        exact FitX.no (fun h => HR3.out (by first | rfl | trivial) (HN0.out.symm.trans (h.b1 _ _ HX.out).nm) (HF1.out.symm.trans (h.b1 _ _ HX.out).fit) (HN3.out.symm.trans (h.b1 _ _ HX.out).nz) (HL.out.symm.trans (h.b2 _ _ _ HY.out HX.out))) (Qb1 hkB9)
       | false =>
        have HQ : Hid (LnFull id peer x) := Lib.hid ⟨HN0.out.trans (HR2.out (by first | rfl | trivial)).1, HF1.out.trans (HR2.out (by first | rfl | trivial)).2.1, HN3.out.trans (HR2.out (by first | rfl | trivial)).2.2.1⟩
        have HQ2 : Hid (∀ t : Nat, t + 1 < k + 1 + 1 → adjLn lines t) := Lib.hid (fun t h => by
         rcases Nat.lt_or_eq_of_le (Nat.lt_succ_iff.1 h) with h1 | h1
         · exact HP.out t h1
         · obtain rfl : t = k := by omega
           intro a b ha hb
           rw [HY.out] at ha; rw [HX.out] at hb
           obtain rfl := Option.some.inj ha
           obtain rfl := Option.some.inj hb
           exact HL.out.trans (HR2.out (by first | rfl | trivial)).2.2.2)
        go_wp2
        go_roundw
        case rel => exact ⟨k + 1 + 1, by omega, by go_num, Lib.hid (before_next HA.out HX.out HQ.out), HQ2, (Qk1 hkB9)⟩
        case measure => simp [intOf]; omega
open Classical in
theorem hfx_any (id : Int) (y : Hf) (w : World) (hr : RowsE encLn 4 w w.heap.size y.la y.ln y.lines) (hnm : ∀ l ∈ y.lines, l.name.size ≤ maxLen) :
    Calls Tryz.prog 110 #[.int .i64 id, HfV y] w fun e w' => e = .returned (.bool (decide (HfFull id y))) ∧ Below w.heap.size w w' := by
 refine (hffull_any id y w hr hnm).mono ?_
 rintro e w' ⟨b, rfl, hb, hB⟩
 refine ⟨?_, hB⟩
 congr 2
 cases b
 · exact (decide_eq_false (fun h => by cases hb.2 h)).symm
 · exact (decide_eq_true (hb.1 rfl)).symm
end Go.Proofs.YtkfodkbgmpbmfaaGreat
