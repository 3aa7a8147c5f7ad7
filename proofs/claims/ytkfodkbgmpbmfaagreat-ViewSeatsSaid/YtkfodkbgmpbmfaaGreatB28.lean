/- Chapter 22, parts on the way: Ws -/
import Derived.Test.YtkfodkbgmpbmfaaGreatB01
import Derived.Test.YtkfodkbgmpbmfaaGreatB27
set_option linter.unusedVariables false
set_option linter.unusedSimpArgs false
namespace Go.Proofs.YtkfodkbgmpbmfaaGreat
open Go.RowKit Go.Shelf
set_option linter.unusedVariables false
set_option linter.unusedSimpArgs false
set_option maxRecDepth 100000
theorem extz_eq (x : Et) : ∃ B : Bool, ∀ W, (binOp .eql 94 (EtV x) (.agg #[.bool false, .int .i64 0, .int .i64 0, .int .i64 0])).run Tryz.prog W = .ok (.bool B) W := by
 obtain ⟨h, a, b, c⟩ := x
 cases h
 · by_cases h1 : a = 0
   · by_cases h2 : b = 0
     · by_cases h3 : c = 0
       · subst h1 h2 h3; exact ⟨true, fun W => by go_simp⟩
       · have q : (c == 0) = false := by simpa using h3
         subst h1 h2; exact ⟨false, fun W => by go_simp⟩
     · have q : (b == 0) = false := by simpa using h2
       subst h1; exact ⟨false, fun W => by go_simp⟩
   · have q : (a == 0) = false := by simpa using h1
     exact ⟨false, fun W => by go_simp⟩
 · exact ⟨false, fun W => by go_simp⟩
theorem regz_ne (a b c : Int) : ∃ B : Bool, ∀ W, (binOp .neq 88 (.agg #[.int .i64 a, .int .i64 b, .int .i64 c]) (.agg #[.int .i64 0, .int .i64 0, .int .i64 0])).run Tryz.prog W = .ok (.bool B) W := by
 by_cases h1 : a = 0
 · by_cases h2 : b = 0
   · by_cases h3 : c = 0
     · subst h1 h2 h3; exact ⟨false, fun W => by go_simp⟩
     · have q : (c == 0) = false := by simpa using h3
       subst h1 h2; exact ⟨true, fun W => by go_simp⟩
   · have q : (b == 0) = false := by simpa using h2
     subst h1; exact ⟨true, fun W => by go_simp⟩
 · have q : (a == 0) = false := by simpa using h1
   exact ⟨true, fun W => by go_simp⟩
theorem wext_some (x : Et) : ∃ B : Bool, ∀ W, Calls Tryz.prog 182 #[EtV x] W fun e w' => e = .returned (.bool B) ∧ Below W.heap.size W w' := by
 obtain ⟨B0, h0⟩ := extz_eq x
 obtain ⟨h, v, o, a⟩ := x
 have c1 : ∀ w : World, _ := fun w => wflow_any v w
 have c2 : ∀ w : World, _ := fun w => wnode_any o w
 have c3 : ∀ w : World, _ := fun w => within_any a 0 63 w
 generalize withB v (-2147483647) 2147483647 = b1 at c1
 generalize (decide (0 ≤ o) && decide (o < 16)) = b2 at c2
 generalize withB a 0 63 = b3 at c3
 have C1 := Lib.hid c1; have C2 := Lib.hid c2; have C3 := Lib.hid c3
 clear c1 c2 c3
 try simp only [] at h0
 refine ⟨if h then b1 && (b2 && b3) else B0, fun W => ?_⟩
 go_enter Tryz.func182, Tryz.ntmps182
 cases h with
 | false =>
  go_wp2
  go_ret
  exact ⟨rfl, Qb⟩
 | true =>
  go_wp2_with (fail)
  refine (C1.out _).mono ?_; rintro e w1 ⟨rfl, rfl⟩
  cases b1 with
  | false =>
   go_wp2
   go_ret
   exact ⟨rfl, Qb⟩
  | true =>
   go_wp2_with (fail)
   refine (C2.out _).mono ?_; rintro e w2 ⟨rfl, rfl⟩
   cases b2 with
   | false =>
    go_wp2
    go_ret
    exact ⟨rfl, Qb⟩
   | true =>
    go_wp2_with (fail)
    refine (C3.out _).mono ?_; rintro e w3 ⟨rfl, rfl⟩
    go_wp2
    go_ret
    exact ⟨rfl, Qb⟩
set_option maxHeartbeats 8000000 in
theorem witem_a (x : It) (hk : x.kd = 4) (ha : x.al = true) : ∃ B : Bool, ∀ W, Calls Tryz.prog 154 #[ItV x] W fun e w' => e = .returned (.bool B) ∧ Below W.heap.size W w' := by
 obtain ⟨z, hz⟩ := regz_ne x.ver x.wr x.flow
 obtain ⟨z1, hz1⟩ := extz_eq ⟨x.h1, x.v1, x.o1, x.a1⟩
 obtain ⟨z2, hz2⟩ := extz_eq ⟨x.h2, x.v2, x.o2, x.a2⟩
 obtain ⟨e1, hx1⟩ := wext_some ⟨x.h1, x.v1, x.o1, x.a1⟩
 obtain ⟨e2, hx2⟩ := wext_some ⟨x.h2, x.v2, x.o2, x.a2⟩
 obtain ⟨nm, ep, who, al, kd, sc, ver, wr, flow, hr, rest, h1, v1, o1, a1, h2, v2, o2, a2⟩ := x
 try simp only [] at hz hz1 hz2 hx1 hx2 hk ha ⊢
 have cN : ∀ w : World, _ := fun w => wname_any nm w
 have cE : ∀ w : World, _ := fun w => within_any ep 1 1099511627776 w
 have cW : ∀ w : World, _ := fun w => wnode_any who w
 have cS : ∀ w : World, _ := fun w => within_any sc 1 1048576 w
 have cV : ∀ w : World, _ := fun w => within_any ver 1 1099511627776 w
 have cR : ∀ w : World, _ := fun w => wnode_any wr w
 have cF : ∀ w : World, _ := fun w => wflow_any flow w
 have cT : ∀ w : World, _ := fun w => wflow_any rest w
 generalize nameB nm.data.toList = bN at cN
 generalize withB ep 1 1099511627776 = bE at cE
 generalize (decide (0 ≤ who) && decide (who < 16)) = bW at cW
 generalize withB sc 1 1048576 = bS at cS
 generalize withB ver 1 1099511627776 = bV at cV
 generalize (decide (0 ≤ wr) && decide (wr < 16)) = bR at cR
 generalize withB flow (-2147483647) 2147483647 = bF at cF
 generalize withB rest (-2147483647) 2147483647 = bT at cT
 obtain ⟨k4, hk4⟩ : ∃ k, (sc != 1) = k := ⟨_, rfl⟩
 obtain ⟨k5, hk5⟩ : ∃ k, (rest != 0) = k := ⟨_, rfl⟩
 have CN := Lib.hid cN; have CE := Lib.hid cE; have CW := Lib.hid cW; have CS := Lib.hid cS; have CV := Lib.hid cV; have CR := Lib.hid cR; have CF := Lib.hid cF; have CT := Lib.hid cT; have X1 := Lib.hid hx1; have X2 := Lib.hid hx2
 clear cN cE cW cS cV cR cF cT hx1 hx2
 subst ha
 subst hk
 refine ⟨bN && (bE && (bW && (bS && (!k4 && ((!z && (!hr && !k5)) && (e1 && e2)))))), fun W => ?_⟩
 go_enter Tryz.func154, Tryz.ntmps154
 go_wp2_with (fail)
 refine (CN.out _).mono ?_; rintro e wn ⟨rfl, hbn⟩
 have hkn : KeptC W [(⟨W.heap.size, 0, none⟩, .string nm), (⟨W.heap.size, 1, none⟩, .int .i64 ep), (⟨W.heap.size, 2, none⟩, .int .i64 who), (⟨W.heap.size, 3, none⟩, .bool true), (⟨W.heap.size, 4, none⟩, .int .i64 4), (⟨W.heap.size, 5, none⟩, .int .i64 sc), (⟨W.heap.size, 6, none⟩, .int .i64 ver), (⟨W.heap.size, 7, none⟩, .int .i64 wr), (⟨W.heap.size, 8, none⟩, .int .i64 flow), (⟨W.heap.size, 9, none⟩, .bool hr), (⟨W.heap.size, 10, none⟩, .int .i64 rest), (⟨W.heap.size, 11, none⟩, .bool h1), (⟨W.heap.size, 12, none⟩, .int .i64 v1), (⟨W.heap.size, 13, none⟩, .int .i64 o1), (⟨W.heap.size, 14, none⟩, .int .i64 a1), (⟨W.heap.size, 15, none⟩, .bool h2), (⟨W.heap.size, 16, none⟩, .int .i64 v2), (⟨W.heap.size, 17, none⟩, .int .i64 o2), (⟨W.heap.size, 18, none⟩, .int .i64 a2), (⟨W.heap.size + 1, 0, none⟩, .string nm), (⟨W.heap.size + 1, 1, none⟩, .int .i64 ep), (⟨W.heap.size + 1, 2, none⟩, .int .i64 who), (⟨W.heap.size + 1, 3, none⟩, .bool true), (⟨W.heap.size + 1, 4, none⟩, .int .i64 4), (⟨W.heap.size + 1, 5, none⟩, .int .i64 sc)] [] wn := (by refine KeptC.below ?_ hbn; exact Qk); simp only [KeptC, List.forall_mem_cons] at hkn; obtain ⟨kbn, ⟨kcn_0, kcn_1, kcn_2, kcn_3, kcn_4, kcn_5, kcn_6, kcn_7, kcn_8, kcn_9, kcn_10, kcn_11, kcn_12, kcn_13, kcn_14, kcn_15, kcn_16, kcn_17, kcn_18, kcn_19, kcn_20, kcn_21, kcn_22, kcn_23, kcn_24, _⟩, _⟩ := hkn
 have hwn : W.heap.size + 1 < wn.heap.size := cell_lt kcn_19
 have hwm : W.heap.size < wn.heap.size := cell_lt kcn_0
 clear hbn
 cases bN with
 | false =>
  go_wp2
  go_ret
  exact ⟨rfl, (Qb1 kbn)⟩
 | true =>
  go_wp2_with (fail)
  refine (CE.out _).mono ?_; rintro e w1 ⟨rfl, rfl⟩
  cases bE with
  | false =>
   go_wp2
   go_ret
   exact ⟨rfl, (Qb1 kbn)⟩
  | true =>
   go_wp2_with (fail)
   refine (CW.out _).mono ?_; rintro e w2 ⟨rfl, rfl⟩
   cases bW with
   | false =>
    go_wp2
    go_ret
    exact ⟨rfl, (Qb1 kbn)⟩
   | true =>
    go_wp2_with (fail)
    refine (CS.out _).mono ?_; rintro e w3 ⟨rfl, rfl⟩
    cases bS with
    | false =>
     go_wp2
     go_ret
     exact ⟨rfl, (Qb1 kbn)⟩
    | true =>
     cases k4 with
     | false =>
      cases z with
      | false =>
       cases hr with
       | false =>
        cases k5 with
        | false =>
         go_wp2_with (fail)
         refine (X1.out _).mono ?_; rintro e w8 ⟨rfl, hb8⟩
         have hk8 : KeptC W [(⟨W.heap.size, 15, none⟩, .bool h2), (⟨W.heap.size, 16, none⟩, .int .i64 v2), (⟨W.heap.size, 17, none⟩, .int .i64 o2), (⟨W.heap.size, 18, none⟩, .int .i64 a2)] [] w8 := (by refine KeptC.below ?_ hb8; exact Qk1 kbn); simp only [KeptC, List.forall_mem_cons] at hk8; obtain ⟨kb8, ⟨kc8_0, kc8_1, kc8_2, kc8_3, _⟩, _⟩ := hk8
         have hs8 := kb8.size
         cases e1 with
         | false =>
          go_wp2
          go_ret
          exact ⟨rfl, (Qb1 kb8)⟩
         | true =>
          go_wp2_with (fail)
          refine (X2.out _).mono ?_; rintro e w9 ⟨rfl, hb9⟩
          go_wp2
          go_ret
          exact ⟨rfl, (Qb3 hb9 kb8 kbn)⟩
        | true =>
         go_wp2
         go_ret
         exact ⟨rfl, (Qb1 kbn)⟩
       | true =>
        go_wp2
        go_ret
        exact ⟨rfl, (Qb1 kbn)⟩
      | true =>
       go_wp2
       go_ret
       exact ⟨rfl, (Qb1 kbn)⟩
     | true =>
      go_wp2
      go_ret
      exact ⟨rfl, (Qb1 kbn)⟩
set_option maxHeartbeats 8000000 in
theorem witem_b (x : It) (hk : x.kd = 4) (ha : x.al = false) : ∃ B : Bool, ∀ W, Calls Tryz.prog 154 #[ItV x] W fun e w' => e = .returned (.bool B) ∧ Below W.heap.size W w' := by
 obtain ⟨z, hz⟩ := regz_ne x.ver x.wr x.flow
 obtain ⟨z1, hz1⟩ := extz_eq ⟨x.h1, x.v1, x.o1, x.a1⟩
 obtain ⟨z2, hz2⟩ := extz_eq ⟨x.h2, x.v2, x.o2, x.a2⟩
 obtain ⟨e1, hx1⟩ := wext_some ⟨x.h1, x.v1, x.o1, x.a1⟩
 obtain ⟨e2, hx2⟩ := wext_some ⟨x.h2, x.v2, x.o2, x.a2⟩
 obtain ⟨nm, ep, who, al, kd, sc, ver, wr, flow, hr, rest, h1, v1, o1, a1, h2, v2, o2, a2⟩ := x
 try simp only [] at hz hz1 hz2 hx1 hx2 hk ha ⊢
 have cN : ∀ w : World, _ := fun w => wname_any nm w
 have cE : ∀ w : World, _ := fun w => within_any ep 1 1099511627776 w
 have cW : ∀ w : World, _ := fun w => wnode_any who w
 have cS : ∀ w : World, _ := fun w => within_any sc 1 1048576 w
 have cV : ∀ w : World, _ := fun w => within_any ver 1 1099511627776 w
 have cR : ∀ w : World, _ := fun w => wnode_any wr w
 have cF : ∀ w : World, _ := fun w => wflow_any flow w
 have cT : ∀ w : World, _ := fun w => wflow_any rest w
 generalize nameB nm.data.toList = bN at cN
 generalize withB ep 1 1099511627776 = bE at cE
 generalize (decide (0 ≤ who) && decide (who < 16)) = bW at cW
 generalize withB sc 1 1048576 = bS at cS
 generalize withB ver 1 1099511627776 = bV at cV
 generalize (decide (0 ≤ wr) && decide (wr < 16)) = bR at cR
 generalize withB flow (-2147483647) 2147483647 = bF at cF
 generalize withB rest (-2147483647) 2147483647 = bT at cT
 obtain ⟨k4, hk4⟩ : ∃ k, (sc != 1) = k := ⟨_, rfl⟩
 obtain ⟨k5, hk5⟩ : ∃ k, (rest != 0) = k := ⟨_, rfl⟩
 have CN := Lib.hid cN; have CE := Lib.hid cE; have CW := Lib.hid cW; have CS := Lib.hid cS; have CV := Lib.hid cV; have CR := Lib.hid cR; have CF := Lib.hid cF; have CT := Lib.hid cT; have X1 := Lib.hid hx1; have X2 := Lib.hid hx2
 clear cN cE cW cS cV cR cF cT hx1 hx2
 subst ha
 subst hk
 refine ⟨bN && (bE && (bW && (bS && (!k4 && ((!z && (!hr && !k5)) && (z1 && z2)))))), fun W => ?_⟩
 go_enter Tryz.func154, Tryz.ntmps154
 go_wp2_with (fail)
 refine (CN.out _).mono ?_; rintro e wn ⟨rfl, hbn⟩
 have hkn : KeptC W [(⟨W.heap.size, 0, none⟩, .string nm), (⟨W.heap.size, 1, none⟩, .int .i64 ep), (⟨W.heap.size, 2, none⟩, .int .i64 who), (⟨W.heap.size, 3, none⟩, .bool false), (⟨W.heap.size, 4, none⟩, .int .i64 4), (⟨W.heap.size, 5, none⟩, .int .i64 sc), (⟨W.heap.size, 6, none⟩, .int .i64 ver), (⟨W.heap.size, 7, none⟩, .int .i64 wr), (⟨W.heap.size, 8, none⟩, .int .i64 flow), (⟨W.heap.size, 9, none⟩, .bool hr), (⟨W.heap.size, 10, none⟩, .int .i64 rest), (⟨W.heap.size, 11, none⟩, .bool h1), (⟨W.heap.size, 12, none⟩, .int .i64 v1), (⟨W.heap.size, 13, none⟩, .int .i64 o1), (⟨W.heap.size, 14, none⟩, .int .i64 a1), (⟨W.heap.size, 15, none⟩, .bool h2), (⟨W.heap.size, 16, none⟩, .int .i64 v2), (⟨W.heap.size, 17, none⟩, .int .i64 o2), (⟨W.heap.size, 18, none⟩, .int .i64 a2), (⟨W.heap.size + 1, 0, none⟩, .string nm), (⟨W.heap.size + 1, 1, none⟩, .int .i64 ep), (⟨W.heap.size + 1, 2, none⟩, .int .i64 who), (⟨W.heap.size + 1, 3, none⟩, .bool false), (⟨W.heap.size + 1, 4, none⟩, .int .i64 4), (⟨W.heap.size + 1, 5, none⟩, .int .i64 sc)] [] wn := (by refine KeptC.below ?_ hbn; exact Qk); simp only [KeptC, List.forall_mem_cons] at hkn; obtain ⟨kbn, ⟨kcn_0, kcn_1, kcn_2, kcn_3, kcn_4, kcn_5, kcn_6, kcn_7, kcn_8, kcn_9, kcn_10, kcn_11, kcn_12, kcn_13, kcn_14, kcn_15, kcn_16, kcn_17, kcn_18, kcn_19, kcn_20, kcn_21, kcn_22, kcn_23, kcn_24, _⟩, _⟩ := hkn
 have hwn : W.heap.size + 1 < wn.heap.size := cell_lt kcn_19
 have hwm : W.heap.size < wn.heap.size := cell_lt kcn_0
 clear hbn
 cases bN with
 | false =>
  go_wp2
  go_ret
  exact ⟨rfl, (Qb1 kbn)⟩
 | true =>
  go_wp2_with (fail)
  refine (CE.out _).mono ?_; rintro e w1 ⟨rfl, rfl⟩
  cases bE with
  | false =>
   go_wp2
   go_ret
   exact ⟨rfl, (Qb1 kbn)⟩
  | true =>
   go_wp2_with (fail)
   refine (CW.out _).mono ?_; rintro e w2 ⟨rfl, rfl⟩
   cases bW with
   | false =>
    go_wp2
    go_ret
    exact ⟨rfl, (Qb1 kbn)⟩
   | true =>
    go_wp2_with (fail)
    refine (CS.out _).mono ?_; rintro e w3 ⟨rfl, rfl⟩
    cases bS with
    | false =>
     go_wp2
     go_ret
     exact ⟨rfl, (Qb1 kbn)⟩
    | true =>
     cases k4 with
     | false =>
      cases z with
      | false =>
       cases hr with
       | false =>
        cases k5 with
        | false =>
         cases z1 with
         | false =>
          go_wp2
          go_ret
          exact ⟨rfl, (Qb1 kbn)⟩
         | true =>
          go_wp2
          go_ret
          exact ⟨rfl, (Qb1 kbn)⟩
        | true =>
         go_wp2
         go_ret
         exact ⟨rfl, (Qb1 kbn)⟩
       | true =>
        go_wp2
        go_ret
        exact ⟨rfl, (Qb1 kbn)⟩
      | true =>
       go_wp2
       go_ret
       exact ⟨rfl, (Qb1 kbn)⟩
     | true =>
      go_wp2
      go_ret
      exact ⟨rfl, (Qb1 kbn)⟩
set_option maxHeartbeats 8000000 in
theorem witem_c (x : It) (hk : x.kd ≠ 4) (ha : x.al = true) : ∃ B : Bool, ∀ W, Calls Tryz.prog 154 #[ItV x] W fun e w' => e = .returned (.bool B) ∧ Below W.heap.size W w' := by
 obtain ⟨z, hz⟩ := regz_ne x.ver x.wr x.flow
 obtain ⟨z1, hz1⟩ := extz_eq ⟨x.h1, x.v1, x.o1, x.a1⟩
 obtain ⟨z2, hz2⟩ := extz_eq ⟨x.h2, x.v2, x.o2, x.a2⟩
 obtain ⟨e1, hx1⟩ := wext_some ⟨x.h1, x.v1, x.o1, x.a1⟩
 obtain ⟨e2, hx2⟩ := wext_some ⟨x.h2, x.v2, x.o2, x.a2⟩
 obtain ⟨nm, ep, who, al, kd, sc, ver, wr, flow, hr, rest, h1, v1, o1, a1, h2, v2, o2, a2⟩ := x
 try simp only [] at hz hz1 hz2 hx1 hx2 hk ha ⊢
 have cN : ∀ w : World, _ := fun w => wname_any nm w
 have cE : ∀ w : World, _ := fun w => within_any ep 1 1099511627776 w
 have cW : ∀ w : World, _ := fun w => wnode_any who w
 have cS : ∀ w : World, _ := fun w => within_any sc 1 1048576 w
 have cV : ∀ w : World, _ := fun w => within_any ver 1 1099511627776 w
 have cR : ∀ w : World, _ := fun w => wnode_any wr w
 have cF : ∀ w : World, _ := fun w => wflow_any flow w
 have cT : ∀ w : World, _ := fun w => wflow_any rest w
 generalize nameB nm.data.toList = bN at cN
 generalize withB ep 1 1099511627776 = bE at cE
 generalize (decide (0 ≤ who) && decide (who < 16)) = bW at cW
 generalize withB sc 1 1048576 = bS at cS
 generalize withB ver 1 1099511627776 = bV at cV
 generalize (decide (0 ≤ wr) && decide (wr < 16)) = bR at cR
 generalize withB flow (-2147483647) 2147483647 = bF at cF
 generalize withB rest (-2147483647) 2147483647 = bT at cT
 obtain ⟨k4, hk4⟩ : ∃ k, (sc != 1) = k := ⟨_, rfl⟩
 obtain ⟨k5, hk5⟩ : ∃ k, (rest != 0) = k := ⟨_, rfl⟩
 have CN := Lib.hid cN; have CE := Lib.hid cE; have CW := Lib.hid cW; have CS := Lib.hid cS; have CV := Lib.hid cV; have CR := Lib.hid cR; have CF := Lib.hid cF; have CT := Lib.hid cT; have X1 := Lib.hid hx1; have X2 := Lib.hid hx2
 clear cN cE cW cS cV cR cF cT hx1 hx2
 subst ha
 have q1 : (kd == 4) = false := by simpa using hk
 have q2 : (kd != 4) = true := by simpa using hk
 obtain ⟨k1, hk1⟩ : ∃ k, decide (kd < 1) = k := ⟨_, rfl⟩
 obtain ⟨k2, hk2⟩ : ∃ k, decide (4 < kd) = k := ⟨_, rfl⟩
 clear hk
 refine ⟨bN && (bE && (bW && (!k1 && (!k2 && (bS && (((!z || (bV && (bR && bF))) && (bT && (hr || !k5))) && (z1 && z2))))))), fun W => ?_⟩
 go_enter Tryz.func154, Tryz.ntmps154
 go_wp2_with (fail)
 refine (CN.out _).mono ?_; rintro e wn ⟨rfl, hbn⟩
 have hkn : KeptC W [(⟨W.heap.size, 0, none⟩, .string nm), (⟨W.heap.size, 1, none⟩, .int .i64 ep), (⟨W.heap.size, 2, none⟩, .int .i64 who), (⟨W.heap.size, 3, none⟩, .bool true), (⟨W.heap.size, 4, none⟩, .int .i64 kd), (⟨W.heap.size, 5, none⟩, .int .i64 sc), (⟨W.heap.size, 6, none⟩, .int .i64 ver), (⟨W.heap.size, 7, none⟩, .int .i64 wr), (⟨W.heap.size, 8, none⟩, .int .i64 flow), (⟨W.heap.size, 9, none⟩, .bool hr), (⟨W.heap.size, 10, none⟩, .int .i64 rest), (⟨W.heap.size, 11, none⟩, .bool h1), (⟨W.heap.size, 12, none⟩, .int .i64 v1), (⟨W.heap.size, 13, none⟩, .int .i64 o1), (⟨W.heap.size, 14, none⟩, .int .i64 a1), (⟨W.heap.size, 15, none⟩, .bool h2), (⟨W.heap.size, 16, none⟩, .int .i64 v2), (⟨W.heap.size, 17, none⟩, .int .i64 o2), (⟨W.heap.size, 18, none⟩, .int .i64 a2), (⟨W.heap.size + 1, 0, none⟩, .string nm), (⟨W.heap.size + 1, 1, none⟩, .int .i64 ep), (⟨W.heap.size + 1, 2, none⟩, .int .i64 who), (⟨W.heap.size + 1, 3, none⟩, .bool true), (⟨W.heap.size + 1, 4, none⟩, .int .i64 kd), (⟨W.heap.size + 1, 5, none⟩, .int .i64 sc)] [] wn := (by refine KeptC.below ?_ hbn; exact Qk); simp only [KeptC, List.forall_mem_cons] at hkn; obtain ⟨kbn, ⟨kcn_0, kcn_1, kcn_2, kcn_3, kcn_4, kcn_5, kcn_6, kcn_7, kcn_8, kcn_9, kcn_10, kcn_11, kcn_12, kcn_13, kcn_14, kcn_15, kcn_16, kcn_17, kcn_18, kcn_19, kcn_20, kcn_21, kcn_22, kcn_23, kcn_24, _⟩, _⟩ := hkn
 have hwn : W.heap.size + 1 < wn.heap.size := cell_lt kcn_19
 have hwm : W.heap.size < wn.heap.size := cell_lt kcn_0
 clear hbn
 cases bN with
 | false =>
  go_wp2
  go_ret
  exact ⟨rfl, (Qb1 kbn)⟩
 | true =>
  go_wp2_with (fail)
  refine (CE.out _).mono ?_; rintro e w1 ⟨rfl, rfl⟩
  cases bE with
  | false =>
   go_wp2
   go_ret
   exact ⟨rfl, (Qb1 kbn)⟩
  | true =>
   go_wp2_with (fail)
   refine (CW.out _).mono ?_; rintro e w2 ⟨rfl, rfl⟩
   cases bW with
   | false =>
    go_wp2
    go_ret
    exact ⟨rfl, (Qb1 kbn)⟩
   | true =>
    cases k1 with
    | false =>
     cases k2 with
     | false =>
      go_wp2_with (fail)
      refine (CS.out _).mono ?_; rintro e w3 ⟨rfl, rfl⟩
      cases bS with
      | false =>
       go_wp2
       go_ret
       exact ⟨rfl, (Qb1 kbn)⟩
      | true =>
       cases z with
       | false =>
        go_wp2_with (fail)
        refine (CT.out _).mono ?_; rintro e w7 ⟨rfl, rfl⟩
        cases bT with
        | false =>
         go_wp2
         go_ret
         exact ⟨rfl, (Qb1 kbn)⟩
        | true =>
         cases hr with
         | false =>
          cases k5 with
          | false =>
           cases z1 with
           | false =>
            go_wp2
            go_ret
            exact ⟨rfl, (Qb1 kbn)⟩
           | true =>
            go_wp2
            go_ret
            exact ⟨rfl, (Qb1 kbn)⟩
          | true =>
           go_wp2
           go_ret
           exact ⟨rfl, (Qb1 kbn)⟩
         | true =>
          cases z1 with
          | false =>
           go_wp2
           go_ret
           exact ⟨rfl, (Qb1 kbn)⟩
          | true =>
           go_wp2
           go_ret
           exact ⟨rfl, (Qb1 kbn)⟩
       | true =>
        go_wp2_with (fail)
        refine (CV.out _).mono ?_; rintro e w4 ⟨rfl, rfl⟩
        cases bV with
        | false =>
         go_wp2
         go_ret
         exact ⟨rfl, (Qb1 kbn)⟩
        | true =>
         go_wp2_with (fail)
         refine (CR.out _).mono ?_; rintro e w5 ⟨rfl, rfl⟩
         cases bR with
         | false =>
          go_wp2
          go_ret
          exact ⟨rfl, (Qb1 kbn)⟩
         | true =>
          go_wp2_with (fail)
          refine (CF.out _).mono ?_; rintro e w6 ⟨rfl, rfl⟩
          cases bF with
          | false =>
           go_wp2
           go_ret
           exact ⟨rfl, (Qb1 kbn)⟩
          | true =>
           go_wp2_with (fail)
           refine (CT.out _).mono ?_; rintro e w7 ⟨rfl, rfl⟩
           cases bT with
           | false =>
            go_wp2
            go_ret
            exact ⟨rfl, (Qb1 kbn)⟩
           | true =>
            cases hr with
            | false =>
             cases k5 with
             | false =>
              cases z1 with
              | false =>
               go_wp2
               go_ret
               exact ⟨rfl, (Qb1 kbn)⟩
              | true =>
               go_wp2
               go_ret
               exact ⟨rfl, (Qb1 kbn)⟩
             | true =>
              go_wp2
              go_ret
              exact ⟨rfl, (Qb1 kbn)⟩
            | true =>
             cases z1 with
             | false =>
              go_wp2
              go_ret
              exact ⟨rfl, (Qb1 kbn)⟩
             | true =>
              go_wp2
              go_ret
              exact ⟨rfl, (Qb1 kbn)⟩
     | true =>
      go_wp2
      go_ret
      exact ⟨rfl, (Qb1 kbn)⟩
    | true =>
     go_wp2
     go_ret
     exact ⟨rfl, (Qb1 kbn)⟩
set_option maxHeartbeats 8000000 in
theorem witem_d (x : It) (hk : x.kd ≠ 4) (ha : x.al = false) : ∃ B : Bool, ∀ W, Calls Tryz.prog 154 #[ItV x] W fun e w' => e = .returned (.bool B) ∧ Below W.heap.size W w' := by
 obtain ⟨z, hz⟩ := regz_ne x.ver x.wr x.flow
 obtain ⟨z1, hz1⟩ := extz_eq ⟨x.h1, x.v1, x.o1, x.a1⟩
 obtain ⟨z2, hz2⟩ := extz_eq ⟨x.h2, x.v2, x.o2, x.a2⟩
 obtain ⟨e1, hx1⟩ := wext_some ⟨x.h1, x.v1, x.o1, x.a1⟩
 obtain ⟨e2, hx2⟩ := wext_some ⟨x.h2, x.v2, x.o2, x.a2⟩
 obtain ⟨nm, ep, who, al, kd, sc, ver, wr, flow, hr, rest, h1, v1, o1, a1, h2, v2, o2, a2⟩ := x
 try simp only [] at hz hz1 hz2 hx1 hx2 hk ha ⊢
 have cN : ∀ w : World, _ := fun w => wname_any nm w
 have cE : ∀ w : World, _ := fun w => within_any ep 1 1099511627776 w
 have cW : ∀ w : World, _ := fun w => wnode_any who w
 have cS : ∀ w : World, _ := fun w => within_any sc 1 1048576 w
 have cV : ∀ w : World, _ := fun w => within_any ver 1 1099511627776 w
 have cR : ∀ w : World, _ := fun w => wnode_any wr w
 have cF : ∀ w : World, _ := fun w => wflow_any flow w
 have cT : ∀ w : World, _ := fun w => wflow_any rest w
 generalize nameB nm.data.toList = bN at cN
 generalize withB ep 1 1099511627776 = bE at cE
 generalize (decide (0 ≤ who) && decide (who < 16)) = bW at cW
 generalize withB sc 1 1048576 = bS at cS
 generalize withB ver 1 1099511627776 = bV at cV
 generalize (decide (0 ≤ wr) && decide (wr < 16)) = bR at cR
 generalize withB flow (-2147483647) 2147483647 = bF at cF
 generalize withB rest (-2147483647) 2147483647 = bT at cT
 obtain ⟨k4, hk4⟩ : ∃ k, (sc != 1) = k := ⟨_, rfl⟩
 obtain ⟨k5, hk5⟩ : ∃ k, (rest != 0) = k := ⟨_, rfl⟩
 have CN := Lib.hid cN; have CE := Lib.hid cE; have CW := Lib.hid cW; have CS := Lib.hid cS; have CV := Lib.hid cV; have CR := Lib.hid cR; have CF := Lib.hid cF; have CT := Lib.hid cT; have X1 := Lib.hid hx1; have X2 := Lib.hid hx2
 clear cN cE cW cS cV cR cF cT hx1 hx2
 subst ha
 have q1 : (kd == 4) = false := by simpa using hk
 have q2 : (kd != 4) = true := by simpa using hk
 obtain ⟨k1, hk1⟩ : ∃ k, decide (kd < 1) = k := ⟨_, rfl⟩
 obtain ⟨k2, hk2⟩ : ∃ k, decide (4 < kd) = k := ⟨_, rfl⟩
 clear hk
 refine ⟨bN && (bE && (bW && (!k1 && (!k2 && (bS && ((!z && (!hr && !k5)) && (z1 && z2))))))), fun W => ?_⟩
 go_enter Tryz.func154, Tryz.ntmps154
 go_wp2_with (fail)
 refine (CN.out _).mono ?_; rintro e wn ⟨rfl, hbn⟩
 have hkn : KeptC W [(⟨W.heap.size, 0, none⟩, .string nm), (⟨W.heap.size, 1, none⟩, .int .i64 ep), (⟨W.heap.size, 2, none⟩, .int .i64 who), (⟨W.heap.size, 3, none⟩, .bool false), (⟨W.heap.size, 4, none⟩, .int .i64 kd), (⟨W.heap.size, 5, none⟩, .int .i64 sc), (⟨W.heap.size, 6, none⟩, .int .i64 ver), (⟨W.heap.size, 7, none⟩, .int .i64 wr), (⟨W.heap.size, 8, none⟩, .int .i64 flow), (⟨W.heap.size, 9, none⟩, .bool hr), (⟨W.heap.size, 10, none⟩, .int .i64 rest), (⟨W.heap.size, 11, none⟩, .bool h1), (⟨W.heap.size, 12, none⟩, .int .i64 v1), (⟨W.heap.size, 13, none⟩, .int .i64 o1), (⟨W.heap.size, 14, none⟩, .int .i64 a1), (⟨W.heap.size, 15, none⟩, .bool h2), (⟨W.heap.size, 16, none⟩, .int .i64 v2), (⟨W.heap.size, 17, none⟩, .int .i64 o2), (⟨W.heap.size, 18, none⟩, .int .i64 a2), (⟨W.heap.size + 1, 0, none⟩, .string nm), (⟨W.heap.size + 1, 1, none⟩, .int .i64 ep), (⟨W.heap.size + 1, 2, none⟩, .int .i64 who), (⟨W.heap.size + 1, 3, none⟩, .bool false), (⟨W.heap.size + 1, 4, none⟩, .int .i64 kd), (⟨W.heap.size + 1, 5, none⟩, .int .i64 sc)] [] wn := (by refine KeptC.below ?_ hbn; exact Qk); simp only [KeptC, List.forall_mem_cons] at hkn; obtain ⟨kbn, ⟨kcn_0, kcn_1, kcn_2, kcn_3, kcn_4, kcn_5, kcn_6, kcn_7, kcn_8, kcn_9, kcn_10, kcn_11, kcn_12, kcn_13, kcn_14, kcn_15, kcn_16, kcn_17, kcn_18, kcn_19, kcn_20, kcn_21, kcn_22, kcn_23, kcn_24, _⟩, _⟩ := hkn
 have hwn : W.heap.size + 1 < wn.heap.size := cell_lt kcn_19
 have hwm : W.heap.size < wn.heap.size := cell_lt kcn_0
 clear hbn
 cases bN with
 | false =>
  go_wp2
  go_ret
  exact ⟨rfl, (Qb1 kbn)⟩
 | true =>
  go_wp2_with (fail)
  refine (CE.out _).mono ?_; rintro e w1 ⟨rfl, rfl⟩
  cases bE with
  | false =>
   go_wp2
   go_ret
   exact ⟨rfl, (Qb1 kbn)⟩
  | true =>
   go_wp2_with (fail)
   refine (CW.out _).mono ?_; rintro e w2 ⟨rfl, rfl⟩
   cases bW with
   | false =>
    go_wp2
    go_ret
    exact ⟨rfl, (Qb1 kbn)⟩
   | true =>
    cases k1 with
    | false =>
     cases k2 with
     | false =>
      go_wp2_with (fail)
      refine (CS.out _).mono ?_; rintro e w3 ⟨rfl, rfl⟩
      cases bS with
      | false =>
       go_wp2
       go_ret
       exact ⟨rfl, (Qb1 kbn)⟩
      | true =>
       cases z with
       | false =>
        cases hr with
        | false =>
         cases k5 with
         | false =>
          cases z1 with
          | false =>
           go_wp2
           go_ret
           exact ⟨rfl, (Qb1 kbn)⟩
          | true =>
           go_wp2
           go_ret
           exact ⟨rfl, (Qb1 kbn)⟩
         | true =>
          go_wp2
          go_ret
          exact ⟨rfl, (Qb1 kbn)⟩
        | true =>
         go_wp2
         go_ret
         exact ⟨rfl, (Qb1 kbn)⟩
       | true =>
        go_wp2
        go_ret
        exact ⟨rfl, (Qb1 kbn)⟩
     | true =>
      go_wp2
      go_ret
      exact ⟨rfl, (Qb1 kbn)⟩
    | true =>
     go_wp2
     go_ret
     exact ⟨rfl, (Qb1 kbn)⟩
theorem witem_some (x : It) : ∃ B : Bool, ∀ W, Calls Tryz.prog 154 #[ItV x] W fun e w' => e = .returned (.bool B) ∧ Below W.heap.size W w' := by
 by_cases hk : x.kd = 4
 · cases ha : x.al
   · exact witem_b x hk ha
   · exact witem_a x hk ha
 · cases ha : x.al
   · exact witem_d x hk ha
   · exact witem_c x hk ha
end Go.Proofs.YtkfodkbgmpbmfaaGreat
