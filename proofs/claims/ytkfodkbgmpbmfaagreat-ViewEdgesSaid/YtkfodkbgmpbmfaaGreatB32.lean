/- Chapter 22, parts on the way: Wy -/
import Derived.Test.YtkfodkbgmpbmfaaGreatB01
import Derived.Test.YtkfodkbgmpbmfaaGreatB10
import Derived.Test.YtkfodkbgmpbmfaaGreatB13
import Derived.Test.YtkfodkbgmpbmfaaGreatB23
import Derived.Test.YtkfodkbgmpbmfaaGreatB25
import Derived.Test.YtkfodkbgmpbmfaaGreatB31
set_option linter.unusedVariables false
set_option linter.unusedSimpArgs false
namespace Go.Proofs.YtkfodkbgmpbmfaaGreat
open Go.RowKit Go.Shelf
set_option linter.unusedVariables false
set_option linter.unusedSimpArgs false
set_option maxRecDepth 100000
set_option maxHeartbeats 16000000 in
theorem nfit_any (y : Nd) (w : World) (hy : NdAt w w.heap.size y) (h1 : y.wn ≤ 70368744177664) (h2 : y.sn ≤ 70368744177664) (h3 : y.hn ≤ 70368744177664) (h4 : y.cn * 136 ≤ 140737488351232) :
    Calls Tryz.prog 41 #[NdV y] w (FitPost (HfsOk y.id y.halves ∧ SnsOk y.seen ∧ stsB y.id y.chans = true) w) := by
 have CT := Lib.hid (fun W (hb : Below w.heap.size w W) => tfit_any y.id y.wa y.wn y.wc y.want y.turn W ((hy.1.below hb).more hb.size) h1)
 have CS := Lib.hid (fun W (hb : Below w.heap.size w W) => snfit_any y.id y.sa y.sn y.sc y.seen W ((hy.2.1.below hb).more hb.size) h2)
 have CH := Lib.hid (fun W (hb : Below w.heap.size w W) => hfsfit_any y.id y.ha y.hn y.hc y.halves W ((hy.2.2.1.below hb).more hb.size) h3)
 have cc4 := (fun W (hb : Below w.heap.size w W) => srfit_any y.id y.ca y.cn y.cc y.chans W ((hy.2.2.2.below hb).more hb.size) h4)
 have CG := Lib.hid (fun p W (hb : Below w.heap.size w W) => rget_any y.sa y.sn y.sc y.seen p W ((hy.2.1.below hb).more hb.size) h2)
 have CA := Lib.hid (fun p W (hb : Below w.heap.size w W) => thas_any y.wa y.wn y.wc y.want p W ((hy.1.below hb).more hb.size) h1)
 have CF := Lib.hid (fun nm W (hb : Below w.heap.size w W) => srfind_any y.ca y.cn y.cc y.chans nm W ((hy.2.2.2.below hb).more hb.size) h4)
 have HH := Lib.hid hy.2.2.1
 have HM3 := Lib.hid h3
 clear hy h1 h2 h3 h4
 obtain ⟨id, boot, ticks, wa, wn, wc, turn, sa, sn, sc, ha, hn, hc, ca, cn, cc, want, seen, halves, chans⟩ := y
 simp only [] at CT CS CH cc4 CG CA CF HH HM3 ⊢
 obtain ⟨b4, hb4'⟩ : ∃ b, stsB id chans = b := ⟨_, rfl⟩
 rw [hb4'] at cc4
 have HB4 := Lib.hid hb4'
 have CC := Lib.hid cc4
 clear cc4 hb4'
 obtain ⟨k1, hk1⟩ : ∃ k, decide (id < 0) = k := ⟨_, rfl⟩
 obtain ⟨k2, hk2⟩ : ∃ k, decide (16 ≤ id) = k := ⟨_, rfl⟩
 obtain ⟨k3, hk3⟩ : ∃ k, decide (boot < 1) = k := ⟨_, rfl⟩
 obtain ⟨k4, hk4⟩ : ∃ k, decide (1099511627776 < boot) = k := ⟨_, rfl⟩
 obtain ⟨k5, hk5⟩ : ∃ k, decide (ticks < 0) = k := ⟨_, rfl⟩
 obtain ⟨k6, hk6⟩ : ∃ k, decide (1099511627776 < ticks) = k := ⟨_, rfl⟩
 go_enter Tryz.func41, Tryz.ntmps41
 cases k1 with
 | false =>
  cases k2 with
  | false =>
   cases k3 with
   | false =>
    cases k4 with
    | false =>
     cases k5 with
     | false =>
      cases k6 with
      | false =>
       go_wp2_with (fail)
       refine (CT.out _ Qb).mono ?_; rintro e w1 ⟨b1, rfl, -, hb1⟩
       have hk1 : KeptC w [(⟨w.heap.size, 0, none⟩, .int .i64 id), (⟨w.heap.size, 1, none⟩, .int .i64 boot), (⟨w.heap.size, 2, none⟩, .int .i64 ticks), (⟨w.heap.size, 3, none⟩, .slice wa wn wc), (⟨w.heap.size, 4, none⟩, .int .i64 turn), (⟨w.heap.size, 5, none⟩, .slice sa sn sc), (⟨w.heap.size, 6, none⟩, .slice ha hn hc), (⟨w.heap.size, 7, none⟩, .slice ca cn cc)] [] w1 := by
        refine KeptC.below ?_ hb1
        exact Qk
       simp only [KeptC, List.forall_mem_cons] at hk1; obtain ⟨kb1, ⟨kc1_0, kc1_1, kc1_2, kc1_3, kc1_4, kc1_5, kc1_6, kc1_7, _⟩, _⟩ := hk1
       have hz1 : w.heap.size < w1.heap.size := cell_lt kc1_0
       clear hb1
       cases b1 with
       | false =>
        go_wp2
        go_ret
        exact FitPost.no (Qb1 kb1)
       | true =>
        go_wp2_with (fail)
        refine (CS.out _ (Qb1 kb1)).mono ?_; rintro e w2 ⟨b2, rfl, f2, hb2⟩
        have hk2 : KeptC w [(⟨w.heap.size, 0, none⟩, .int .i64 id), (⟨w.heap.size, 1, none⟩, .int .i64 boot), (⟨w.heap.size, 2, none⟩, .int .i64 ticks), (⟨w.heap.size, 3, none⟩, .slice wa wn wc), (⟨w.heap.size, 4, none⟩, .int .i64 turn), (⟨w.heap.size, 5, none⟩, .slice sa sn sc), (⟨w.heap.size, 6, none⟩, .slice ha hn hc), (⟨w.heap.size, 7, none⟩, .slice ca cn cc)] [] w2 := by
         refine KeptC.below ?_ hb2
         exact Qk1 kb1
        simp only [KeptC, List.forall_mem_cons] at hk2; obtain ⟨kb2, ⟨kc2_0, kc2_1, kc2_2, kc2_3, kc2_4, kc2_5, kc2_6, kc2_7, _⟩, _⟩ := hk2
        have hz2 : w.heap.size < w2.heap.size := cell_lt kc2_0
        clear hb2 hz1 kc1_0 kc1_1 kc1_2 kc1_3 kc1_4 kc1_5 kc1_6 kc1_7
        have HF2 := Lib.hid f2
        clear f2
        cases b2 with
        | false =>
         go_wp2
         go_ret
         exact FitPost.no (Qb1 kb2)
        | true =>
         go_wp2_with (fail)
         refine (CH.out _ (Qb1 kb2)).mono ?_; rintro e w3 ⟨b3, rfl, f3, hb3⟩
         have hk3 : KeptC w [(⟨w.heap.size, 0, none⟩, .int .i64 id), (⟨w.heap.size, 1, none⟩, .int .i64 boot), (⟨w.heap.size, 2, none⟩, .int .i64 ticks), (⟨w.heap.size, 3, none⟩, .slice wa wn wc), (⟨w.heap.size, 4, none⟩, .int .i64 turn), (⟨w.heap.size, 5, none⟩, .slice sa sn sc), (⟨w.heap.size, 6, none⟩, .slice ha hn hc), (⟨w.heap.size, 7, none⟩, .slice ca cn cc)] [] w3 := by
          refine KeptC.below ?_ hb3
          exact Qk1 kb2
         simp only [KeptC, List.forall_mem_cons] at hk3; obtain ⟨kb3, ⟨kc3_0, kc3_1, kc3_2, kc3_3, kc3_4, kc3_5, kc3_6, kc3_7, _⟩, _⟩ := hk3
         have hz3 : w.heap.size < w3.heap.size := cell_lt kc3_0
         clear hb3 hz2 kc2_0 kc2_1 kc2_2 kc2_3 kc2_4 kc2_5 kc2_6 kc2_7
         have HF3 := Lib.hid f3
         clear f3
         cases b3 with
         | false =>
          go_wp2
          go_ret
          exact FitPost.no (Qb1 kb3)
         | true =>
          go_wp2_with (fail)
          refine (CC.out _ (Qb1 kb3)).mono ?_; rintro e w4 ⟨rfl, hb4⟩
          have hk4 : KeptC w [(⟨w.heap.size, 0, none⟩, .int .i64 id), (⟨w.heap.size, 1, none⟩, .int .i64 boot), (⟨w.heap.size, 2, none⟩, .int .i64 ticks), (⟨w.heap.size, 3, none⟩, .slice wa wn wc), (⟨w.heap.size, 4, none⟩, .int .i64 turn), (⟨w.heap.size, 5, none⟩, .slice sa sn sc), (⟨w.heap.size, 6, none⟩, .slice ha hn hc), (⟨w.heap.size, 7, none⟩, .slice ca cn cc)] [] w4 := by
           refine KeptC.below ?_ hb4
           exact Qk1 kb3
          simp only [KeptC, List.forall_mem_cons] at hk4; obtain ⟨kb4, ⟨kc4_0, kc4_1, kc4_2, kc4_3, kc4_4, kc4_5, kc4_6, kc4_7, _⟩, _⟩ := hk4
          have hz4 : w.heap.size < w4.heap.size := cell_lt kc4_0
          clear hb4 hz3 kc3_0 kc3_1 kc3_2 kc3_3 kc3_4 kc3_5 kc3_6 kc3_7
          cases b4 with
          | false =>
           go_wp2
           go_ret
           exact FitPost.no (Qb1 kb4)
          | true =>
           have HF : Hid (HfsOk id halves ∧ SnsOk seen ∧ stsB id chans = true) := Lib.hid ⟨HF3.out (by first | rfl | trivial), HF2.out (by first | rfl | trivial), HB4.out⟩
           go_wp2
           clear hk1 hk2 hk3 hk4 hk5 hk6 HF2 HF3 HB4 CT CS CH CC
           go_loopw [3] (fun i w' => ∃ (k : Nat), k ≤ hn ∧ i = .int .i64 k ∧ KeptC w [(⟨w.heap.size, 0, none⟩, .int .i64 id), (⟨w.heap.size, 1, none⟩, .int .i64 boot), (⟨w.heap.size, 2, none⟩, .int .i64 ticks), (⟨w.heap.size, 3, none⟩, .slice wa wn wc), (⟨w.heap.size, 4, none⟩, .int .i64 turn), (⟨w.heap.size, 5, none⟩, .slice sa sn sc), (⟨w.heap.size, 6, none⟩, .slice ha hn hc), (⟨w.heap.size, 7, none⟩, .slice ca cn cc)] [] w') (fun i _ => hn - (intOf i).toNat)
           case atStart => exact ⟨0, Nat.zero_le _, rfl, (Qk1 kb4)⟩
           case round =>
            obtain ⟨k, hk, rfl, hK⟩ := hrel
            clear kb4 hz4 kc4_0 kc4_1 kc4_2 kc4_3 kc4_4 kc4_5 kc4_6 kc4_7
            simp only [KeptC, List.forall_mem_cons] at hK; obtain ⟨kb0, ⟨kc0_0, kc0_1, kc0_2, kc0_3, kc0_4, kc0_5, kc0_6, kc0_7, _⟩, _⟩ := hK
            have hs0 := kb0.size
            have hzw : w.heap.size < wr.heap.size := cell_lt kc0_0
            by_cases hlt : k < hn
            rotate_left
            · obtain rfl : k = hn := by omega
              go_wp2
              go_ret
              exact FitPost.yes HF.out kb0
            · obtain ⟨ad, x, rfl, hab, hx, h4⟩ := HH.out.1.at hlt
              obtain ⟨P, hP⟩ : ∃ P, ad.add (k * 6) = P := ⟨_, rfl⟩
              rw [hP] at h4 hab
              obtain ⟨c0, c1, c2, c3, c4, c5⟩ := (hf6_of h4).below hab kb0
              have hPw : P.block < wr.heap.size := by omega
              have hlx := HH.out.2 x (List.mem_of_getElem? hx)
              have HLX := Lib.hid hlx.1
              have HL8 : Hid (x.ln ≤ 8) := Lib.hid (by have h := (HF.out.1.2 x (List.mem_of_getElem? hx)).2.1; have := hlx.1.1; omega)
              have HKR := Lib.hid kb0
              clear h4 hx hlx
              obtain ⟨peer, hboot, life, la, ln, lc, pend, miss, lines⟩ := x
              simp only [] at c0 c1 c2 c3 c4 c5 HLX HL8
              obtain ⟨w1, h⟩ : ∃ w1, w1 = wr := ⟨_, rfl⟩
              subst h
              go_wp2_with (fail)
              refine (CG.out peer _ (Qb1 kb0)).mono ?_; rintro e w5 ⟨rfl, hb5⟩
              have hk5 : KeptC w [(⟨w.heap.size, 0, none⟩, .int .i64 id), (⟨w.heap.size, 1, none⟩, .int .i64 boot), (⟨w.heap.size, 2, none⟩, .int .i64 ticks), (⟨w.heap.size, 3, none⟩, .slice wa wn wc), (⟨w.heap.size, 4, none⟩, .int .i64 turn), (⟨w.heap.size, 5, none⟩, .slice sa sn sc), (⟨w.heap.size, 6, none⟩, .slice (some ad) hn hc), (⟨w.heap.size, 7, none⟩, .slice ca cn cc), (⟨w1.heap.size, 0, none⟩, .int .i64 peer), (⟨w1.heap.size, 1, none⟩, .int .i64 hboot), (⟨w1.heap.size, 2, none⟩, .int .i64 life), (⟨w1.heap.size, 3, none⟩, .slice la ln lc)] [] w5 := by
               refine KeptC.below ?_ hb5
               exact Qk1 kb0
              simp only [KeptC, List.forall_mem_cons] at hk5; obtain ⟨kb5, ⟨kc5_0, kc5_1, kc5_2, kc5_3, kc5_4, kc5_5, kc5_6, kc5_7, kc5_8, kc5_9, kc5_10, kc5_11, _⟩, _⟩ := hk5
              have hz5 : w.heap.size < w5.heap.size := cell_lt kc5_0
              have hz5b : w1.heap.size < w5.heap.size := cell_lt kc5_8
              have HB5 : Hid (Below w1.heap.size w1 w5) := Lib.hid ((Qb : Below w1.heap.size w1 _).trans (hb5.mono (by simp)))
              clear hb5 kb0 hzw hs0 hPw hab kc0_0 kc0_1 kc0_2 kc0_3 kc0_4 kc0_5 kc0_6 kc0_7 c0 c1 c2 c3 c4 c5
              generalize getSn seen peer = s
              obtain ⟨speer, sboot, slife, smine⟩ := s
              obtain ⟨b6, hb6'⟩ : ∃ b, decide (0 ≤ placeI want peer) = b := ⟨_, rfl⟩
              have ca := CA.out peer
              rw [hb6'] at ca
              have CA2 := Lib.hid ca
              clear ca hb6'
              obtain ⟨b7, hb7'⟩ : ∃ b, (decide (sboot < hboot) || (decide (hboot = sboot) && decide (slife < life))) = b := ⟨_, rfl⟩
              have cl : ∀ W : World, _ := fun W => later_any hboot life sboot slife W
              rw [hb7'] at cl
              have CL := Lib.hid cl
              clear cl hb7'
              go_wp2_with (fail)
              refine (CA2.out _ (Qb1 kb5)).mono ?_; rintro e w6 ⟨rfl, rfl⟩
              cases b6 with
              | false =>
               go_wp2
               go_ret
               exact FitPost.no (Qb1 kb5)
              | true =>
              go_wp2_with (fail)
              refine (CL.out _).mono ?_; rintro e w6 ⟨rfl, rfl⟩
              cases b7 with
              | true =>
               go_wp2
               go_ret
               exact FitPost.no (Qb1 kb5)
              | false =>
              go_wp2
              go_loopw [6] (fun i w' => ∃ (j : Nat), j ≤ ln ∧ i = .int .i64 j ∧ KeptC w [(⟨w.heap.size, 0, none⟩, .int .i64 id), (⟨w.heap.size, 1, none⟩, .int .i64 boot), (⟨w.heap.size, 2, none⟩, .int .i64 ticks), (⟨w.heap.size, 3, none⟩, .slice wa wn wc), (⟨w.heap.size, 4, none⟩, .int .i64 turn), (⟨w.heap.size, 5, none⟩, .slice sa sn sc), (⟨w.heap.size, 6, none⟩, .slice (some ad) hn hc), (⟨w.heap.size, 7, none⟩, .slice ca cn cc), (⟨w1.heap.size, 0, none⟩, .int .i64 peer), (⟨w1.heap.size, 1, none⟩, .int .i64 hboot), (⟨w1.heap.size, 2, none⟩, .int .i64 life), (⟨w1.heap.size, 3, none⟩, .slice la ln lc)] [] w' ∧ Hid (Below w1.heap.size w1 w')) (fun i _ => ln - (intOf i).toNat)
              case atStart => exact ⟨0, Nat.zero_le _, rfl, (Qk1 kb5), Lib.hid (Qb1 HB5.out)⟩
              case round =>
               obtain ⟨j, hj, rfl, hK, HB7⟩ := hrel
               clear kc5_0 kc5_1 kc5_2 kc5_3 kc5_4 kc5_5 kc5_6 kc5_7 kc5_8 kc5_9 kc5_10 kc5_11 kb5 hz5 hz5b
               simp only [KeptC, List.forall_mem_cons] at hK; obtain ⟨kb7, ⟨kc7_0, kc7_1, kc7_2, kc7_3, kc7_4, kc7_5, kc7_6, kc7_7, kc7_8, kc7_9, kc7_10, kc7_11, _⟩, _⟩ := hK
               have hs7 := kb7.size
               have hz7 : w.heap.size < wr.heap.size := cell_lt kc7_0
               have hz7b : w1.heap.size < wr.heap.size := cell_lt kc7_8
               by_cases hlj : j < ln
               rotate_left
               · obtain rfl : j = ln := by omega
                 have hwk : IntKind.i64.wrap ((k : Int) + 1) = (k : Int) + 1 := by rw [IntKind.wrap_i64]; have := HM3.out; omega
                 go_wp2
                 go_roundw
                 case rel => exact ⟨k + 1, by omega, by go_num, (Qk1 kb7)⟩
                 case measure => simp [intOf]; omega
               · obtain ⟨adl, l, rfl, habl, hxl, h4⟩ := HLX.out.at hlj
                 obtain ⟨Q, hQ⟩ : ∃ Q, adl.add (j * 4) = Q := ⟨_, rfl⟩
                 rw [hQ] at h4 habl
                 have e0 := ((ln4_of h4).below habl kb7).1
                 have hQw : Q.block < wr.heap.size := by omega
                 have cf := CF.out l.name
                 clear h4 hxl
                 generalize (findS chans l.name).getD St0 = z at cf
                 generalize (findS chans l.name).isSome = ok at cf
                 obtain ⟨⟨zs, ze, zm, za, zk, zc⟩, zh, zi, ⟨zp, zv, zo, zg⟩, ⟨zq, zu, zr, zt⟩⟩ := z
                 simp only [] at cf
                 have CF2 := Lib.hid cf
                 have KB7 := Lib.hid kb7
                 clear cf
                 go_wp2_with (fail)
                 have kS : ∀ a b : World, (Below w.heap.size w a ∧ a.cell? ⟨w.heap.size, 7, none⟩ = some (.slice ca cn cc) ∧ a.cell? ⟨w1.heap.size, 3, none⟩ = some (.slice (some adl) ln lc) ∧ a.cell? Q = some (.string l.name)) → Below a.heap.size a b → (Below w.heap.size w b ∧ b.cell? ⟨w.heap.size, 7, none⟩ = some (.slice ca cn cc) ∧ b.cell? ⟨w1.heap.size, 3, none⟩ = some (.slice (some adl) ln lc) ∧ b.cell? Q = some (.string l.name)) := by
                  rintro a b ⟨k0, k1, k2, k3⟩ hb
                  exact ⟨k0.trans (hb.mono k0.size), (hb.cell (p := ⟨w.heap.size, 7, none⟩) (cell_lt k1)).trans k1, (hb.cell (p := ⟨w1.heap.size, 3, none⟩) (cell_lt k2)).trans k2, (hb.cell (cell_lt k3)).trans k3⟩
                 have KS := Lib.hid kS
                 have kF : ∀ (a : World) (g o : Nat) (v : Value), (Below w.heap.size w a ∧ a.cell? ⟨w.heap.size, 7, none⟩ = some (.slice ca cn cc) ∧ a.cell? ⟨w1.heap.size, 3, none⟩ = some (.slice (some adl) ln lc) ∧ a.cell? Q = some (.string l.name)) → wr.heap.size ≤ g → (Below w.heap.size w (a.setCell ⟨g, o, none⟩ v) ∧ (a.setCell ⟨g, o, none⟩ v).cell? ⟨w.heap.size, 7, none⟩ = some (.slice ca cn cc) ∧ (a.setCell ⟨g, o, none⟩ v).cell? ⟨w1.heap.size, 3, none⟩ = some (.slice (some adl) ln lc) ∧ (a.setCell ⟨g, o, none⟩ v).cell? Q = some (.string l.name)) := by
                  rintro a g o v ⟨k0, k1, k2, k3⟩ hg
                  exact ⟨k0.setCell (p := ⟨g, o, none⟩) (by simp only []; omega) v, (World.cell?_setCell_far _ _ _ _ (by simp only []; omega)).trans k1, (World.cell?_setCell_far _ _ _ _ (by simp only []; omega)).trans k2, (World.cell?_setCell_far _ _ _ _ (by simp only []; omega)).trans k3⟩
                 have KF := Lib.hid kF
                 have kG : ∀ (a : World) (g : Nat) (v0 v1 v2 v3 v4 v5 v6 v7 v8 v9 v10 v11 v12 v13 v14 v15 : Value), (Below w.heap.size w a ∧ a.cell? ⟨w.heap.size, 7, none⟩ = some (.slice ca cn cc) ∧ a.cell? ⟨w1.heap.size, 3, none⟩ = some (.slice (some adl) ln lc) ∧ a.cell? Q = some (.string l.name)) → wr.heap.size ≤ g → (Below w.heap.size w ((((((((((((((((a.setCell ⟨g, 0, none⟩ v0).setCell ⟨g, 1, none⟩ v1).setCell ⟨g, 2, none⟩ v2).setCell ⟨g, 3, none⟩ v3).setCell ⟨g, 4, none⟩ v4).setCell ⟨g, 5, none⟩ v5).setCell ⟨g, 6, none⟩ v6).setCell ⟨g, 7, none⟩ v7).setCell ⟨g, 8, none⟩ v8).setCell ⟨g, 9, none⟩ v9).setCell ⟨g, 10, none⟩ v10).setCell ⟨g, 11, none⟩ v11).setCell ⟨g, 12, none⟩ v12).setCell ⟨g, 13, none⟩ v13).setCell ⟨g, 14, none⟩ v14).setCell ⟨g, 15, none⟩ v15) ∧ ((((((((((((((((a.setCell ⟨g, 0, none⟩ v0).setCell ⟨g, 1, none⟩ v1).setCell ⟨g, 2, none⟩ v2).setCell ⟨g, 3, none⟩ v3).setCell ⟨g, 4, none⟩ v4).setCell ⟨g, 5, none⟩ v5).setCell ⟨g, 6, none⟩ v6).setCell ⟨g, 7, none⟩ v7).setCell ⟨g, 8, none⟩ v8).setCell ⟨g, 9, none⟩ v9).setCell ⟨g, 10, none⟩ v10).setCell ⟨g, 11, none⟩ v11).setCell ⟨g, 12, none⟩ v12).setCell ⟨g, 13, none⟩ v13).setCell ⟨g, 14, none⟩ v14).setCell ⟨g, 15, none⟩ v15).cell? ⟨w.heap.size, 7, none⟩ = some (.slice ca cn cc) ∧ ((((((((((((((((a.setCell ⟨g, 0, none⟩ v0).setCell ⟨g, 1, none⟩ v1).setCell ⟨g, 2, none⟩ v2).setCell ⟨g, 3, none⟩ v3).setCell ⟨g, 4, none⟩ v4).setCell ⟨g, 5, none⟩ v5).setCell ⟨g, 6, none⟩ v6).setCell ⟨g, 7, none⟩ v7).setCell ⟨g, 8, none⟩ v8).setCell ⟨g, 9, none⟩ v9).setCell ⟨g, 10, none⟩ v10).setCell ⟨g, 11, none⟩ v11).setCell ⟨g, 12, none⟩ v12).setCell ⟨g, 13, none⟩ v13).setCell ⟨g, 14, none⟩ v14).setCell ⟨g, 15, none⟩ v15).cell? ⟨w1.heap.size, 3, none⟩ = some (.slice (some adl) ln lc) ∧ ((((((((((((((((a.setCell ⟨g, 0, none⟩ v0).setCell ⟨g, 1, none⟩ v1).setCell ⟨g, 2, none⟩ v2).setCell ⟨g, 3, none⟩ v3).setCell ⟨g, 4, none⟩ v4).setCell ⟨g, 5, none⟩ v5).setCell ⟨g, 6, none⟩ v6).setCell ⟨g, 7, none⟩ v7).setCell ⟨g, 8, none⟩ v8).setCell ⟨g, 9, none⟩ v9).setCell ⟨g, 10, none⟩ v10).setCell ⟨g, 11, none⟩ v11).setCell ⟨g, 12, none⟩ v12).setCell ⟨g, 13, none⟩ v13).setCell ⟨g, 14, none⟩ v14).setCell ⟨g, 15, none⟩ v15).cell? Q = some (.string l.name)) := by
                  intro a g v0 v1 v2 v3 v4 v5 v6 v7 v8 v9 v10 v11 v12 v13 v14 v15 h hg
                  exact kF _ g 15 v15 (kF _ g 14 v14 (kF _ g 13 v13 (kF _ g 12 v12 (kF _ g 11 v11 (kF _ g 10 v10 (kF _ g 9 v9 (kF _ g 8 v8 (kF _ g 7 v7 (kF _ g 6 v6 (kF _ g 5 v5 (kF _ g 4 v4 (kF _ g 3 v3 (kF _ g 2 v2 (kF _ g 1 v1 (kF _ g 0 v0 (h) hg) hg) hg) hg) hg) hg) hg) hg) hg) hg) hg) hg) hg) hg) hg) hg
                 have KG := Lib.hid kG
                 have HI : Hid (Below w.heap.size w wr ∧ wr.cell? ⟨w.heap.size, 7, none⟩ = some (.slice ca cn cc) ∧ wr.cell? ⟨w1.heap.size, 3, none⟩ = some (.slice (some adl) ln lc) ∧ wr.cell? Q = some (.string l.name)) := Lib.hid ⟨kb7, kc7_7, kc7_11, e0⟩
                 clear kS kF kG
                 go_region_held3 (fun w' => Below w.heap.size w w' ∧ w'.cell? ⟨w.heap.size, 7, none⟩ = some (.slice ca cn cc) ∧ w'.cell? ⟨w1.heap.size, 3, none⟩ = some (.slice (some adl) ln lc) ∧ w'.cell? Q = some (.string l.name)) (repeat (first | with_reducible assumption | with_reducible exact HI.out | (with_reducible refine KG.out _ _ _ _ _ _ _ _ _ _ _ _ _ _ _ _ _ _ ?_ (by first | assumption | (simp; omega) | omega)) | (with_reducible refine KS.out _ _ ?_ ((Below.refl _ _).alloc (Nat.le_refl _) _)) | (with_reducible refine KS.out _ _ ?_ (Below.drew (Below.refl _ _))) | (with_reducible refine KS.out _ _ ?_ (by with_reducible assumption)))) (first | ((with_reducible refine (CF2.out _ (And.left (by assumption : Below w.heap.size w _ ∧ _))).mono ?_); rintro e w8 ⟨rfl, hb8⟩; have hS8 : Below w.heap.size w w8 ∧ w8.cell? ⟨w.heap.size, 7, none⟩ = some (.slice ca cn cc) ∧ w8.cell? ⟨w1.heap.size, 3, none⟩ = some (.slice (some adl) ln lc) ∧ w8.cell? Q = some (.string l.name) := KS.out _ _ (by with_reducible assumption) hb8; have hk8 : KeptC w [(⟨w.heap.size, 0, none⟩, .int .i64 id), (⟨w.heap.size, 1, none⟩, .int .i64 boot), (⟨w.heap.size, 2, none⟩, .int .i64 ticks), (⟨w.heap.size, 3, none⟩, .slice wa wn wc), (⟨w.heap.size, 4, none⟩, .int .i64 turn), (⟨w.heap.size, 5, none⟩, .slice sa sn sc), (⟨w.heap.size, 6, none⟩, .slice (some ad) hn hc), (⟨w.heap.size, 7, none⟩, .slice ca cn cc), (⟨w1.heap.size, 0, none⟩, .int .i64 peer), (⟨w1.heap.size, 1, none⟩, .int .i64 hboot), (⟨w1.heap.size, 2, none⟩, .int .i64 life), (⟨w1.heap.size, 3, none⟩, .slice (some adl) ln lc)] [] w8 := (by refine KeptC.below ?_ hb8; exact Qk1 kb7); simp only [KeptC, List.forall_mem_cons] at hk8; obtain ⟨kb8, ⟨kc8_0, kc8_1, kc8_2, kc8_3, kc8_4, kc8_5, kc8_6, kc8_7, kc8_8, kc8_9, kc8_10, kc8_11, _⟩, _⟩ := hk8; have hz8 : w1.heap.size < w8.heap.size := cell_lt kc8_8; have hz8b : w.heap.size < w8.heap.size := cell_lt kc8_0; have hs8 : wr.heap.size ≤ w8.heap.size := (by have h := hb8.size; simp at h; omega); have HB8 : Hid (Below w1.heap.size w1 w8) := Lib.hid (HB7.out.trans ((Qb : Below w1.heap.size wr _).trans (hb8.mono (by first | (simp; done) | (simp; omega) | omega)))); (first | (have HZ : Hid (LocX stV w8 wr.heap.size St0) := Lib.hid ((LocX.fresh (enc := stV) wr.drew #[.string ⟨#[]⟩, .int .i64 0, .int .i64 0, .bool false, .int .i64 0, .int .i64 0, .bool false, .int .i64 0, .bool false, .int .i64 0, .int .i64 0, .int .i64 0, .bool false, .int .i64 0, .int .i64 0, .int .i64 0] 96 St0 rfl).below hb8 (by simp)); have v0 := (HZ.out.2 0 _ rfl).1; have y0 := (HZ.out.2 0 _ rfl).2; have v1 := (HZ.out.2 1 _ rfl).1; have y1 := (HZ.out.2 1 _ rfl).2; have v2 := (HZ.out.2 2 _ rfl).1; have y2 := (HZ.out.2 2 _ rfl).2; have v3 := (HZ.out.2 3 _ rfl).1; have y3 := (HZ.out.2 3 _ rfl).2; have v4 := (HZ.out.2 4 _ rfl).1; have y4 := (HZ.out.2 4 _ rfl).2; have v5 := (HZ.out.2 5 _ rfl).1; have y5 := (HZ.out.2 5 _ rfl).2; have v6 := (HZ.out.2 6 _ rfl).1; have y6 := (HZ.out.2 6 _ rfl).2; have v7 := (HZ.out.2 7 _ rfl).1; have y7 := (HZ.out.2 7 _ rfl).2; have v8 := (HZ.out.2 8 _ rfl).1; have y8 := (HZ.out.2 8 _ rfl).2; have v9 := (HZ.out.2 9 _ rfl).1; have y9 := (HZ.out.2 9 _ rfl).2; have v10 := (HZ.out.2 10 _ rfl).1; have y10 := (HZ.out.2 10 _ rfl).2; have v11 := (HZ.out.2 11 _ rfl).1; have y11 := (HZ.out.2 11 _ rfl).2; have v12 := (HZ.out.2 12 _ rfl).1; have y12 := (HZ.out.2 12 _ rfl).2; have v13 := (HZ.out.2 13 _ rfl).1; have y13 := (HZ.out.2 13 _ rfl).2; have v14 := (HZ.out.2 14 _ rfl).1; have y14 := (HZ.out.2 14 _ rfl).2; have v15 := (HZ.out.2 15 _ rfl).1; have y15 := (HZ.out.2 15 _ rfl).2; clear HZ) | skip)))
                 · refine lay_ret (fun W' => KeptC w [(⟨w.heap.size, 0, none⟩, .int .i64 id), (⟨w.heap.size, 1, none⟩, .int .i64 boot), (⟨w.heap.size, 2, none⟩, .int .i64 ticks), (⟨w.heap.size, 3, none⟩, .slice wa wn wc), (⟨w.heap.size, 4, none⟩, .int .i64 turn), (⟨w.heap.size, 5, none⟩, .slice sa sn sc), (⟨w.heap.size, 6, none⟩, .slice (some ad) hn hc), (⟨w.heap.size, 7, none⟩, .slice ca cn cc), (⟨w1.heap.size, 0, none⟩, .int .i64 peer), (⟨w1.heap.size, 1, none⟩, .int .i64 hboot), (⟨w1.heap.size, 2, none⟩, .int .i64 life), (⟨w1.heap.size, 3, none⟩, .slice (some adl) ln lc), (⟨w8.heap.size, 4, none⟩, .int .i64 zk)] [] W' ∧ Below w1.heap.size w1 W') ⟨(Qk1 kb8), (Qb1 HB8.out)⟩ ?_
                   clear kb8 hs8 hS8 hb8
                   rintro w9 ⟨hK9, hB9⟩
                   clear kc8_0 kc8_1 kc8_2 kc8_3 kc8_4 kc8_5 kc8_6 kc8_7 kc8_8 kc8_9 kc8_10 kc8_11 hz8 hz8b kc7_0 kc7_1 kc7_2 kc7_3 kc7_4 kc7_5 kc7_6 kc7_7 kc7_8 kc7_9 kc7_10 kc7_11 kb7 hz7 hz7b hs7 e0 hQw
                   have HB9 := Lib.hid hB9
                   clear hB9
                   simp only [KeptC, List.forall_mem_cons] at hK9; obtain ⟨kb9, ⟨kc9_0, kc9_1, kc9_2, kc9_3, kc9_4, kc9_5, kc9_6, kc9_7, kc9_8, kc9_9, kc9_10, kc9_11, kc9_12, _⟩, _⟩ := hK9
                   have hz9 : w1.heap.size < w9.heap.size := cell_lt kc9_8
                   have hz9b : w.heap.size < w9.heap.size := cell_lt kc9_0
                   cases ok with
                   | false =>
                    go_wp2
                    go_ret
                    exact FitPost.no (Qb1 kb9)
                   | true =>
                    go_wp2_with (fail)
                    refine (srflows_any zk _).mono ?_; rintro e w10 ⟨rfl, hb10⟩
                    have hk10 : KeptC w [(⟨w.heap.size, 0, none⟩, .int .i64 id), (⟨w.heap.size, 1, none⟩, .int .i64 boot), (⟨w.heap.size, 2, none⟩, .int .i64 ticks), (⟨w.heap.size, 3, none⟩, .slice wa wn wc), (⟨w.heap.size, 4, none⟩, .int .i64 turn), (⟨w.heap.size, 5, none⟩, .slice sa sn sc), (⟨w.heap.size, 6, none⟩, .slice (some ad) hn hc), (⟨w.heap.size, 7, none⟩, .slice ca cn cc), (⟨w1.heap.size, 0, none⟩, .int .i64 peer), (⟨w1.heap.size, 1, none⟩, .int .i64 hboot), (⟨w1.heap.size, 2, none⟩, .int .i64 life), (⟨w1.heap.size, 3, none⟩, .slice (some adl) ln lc)] [] w10 := by
                     refine KeptC.below ?_ hb10
                     exact Qk1 kb9
                    simp only [KeptC, List.forall_mem_cons] at hk10; obtain ⟨kb10, ⟨kc10_0, kc10_1, kc10_2, kc10_3, kc10_4, kc10_5, kc10_6, kc10_7, kc10_8, kc10_9, kc10_10, kc10_11, _⟩, _⟩ := hk10
                    have HB10 : Hid (Below w1.heap.size w1 w10) := Lib.hid (((Qb1 HB9.out) : Below w1.heap.size w1 _).trans (hb10.mono (by first | (simp; done) | (simp; omega) | omega)))
                    clear hb10
                    generalize (decide (1 ≤ zk) && decide (zk ≤ 3)) = fl
                    cases fl with
                    | false =>
                     go_wp2
                     go_ret
                     exact FitPost.no (Qb1 kb10)
                    | true =>
                     have hwj : IntKind.i64.wrap ((j : Int) + 1) = (j : Int) + 1 := by rw [IntKind.wrap_i64]; have := HL8.out; omega
                     go_wp2
                     go_roundw
                     case rel => exact ⟨j + 1, by omega, by go_num, (Qk1 kb10), HB10⟩
                     case measure => simp [intOf]; omega
                 · refine lay_ret (fun W' => KeptC w [(⟨w.heap.size, 0, none⟩, .int .i64 id), (⟨w.heap.size, 1, none⟩, .int .i64 boot), (⟨w.heap.size, 2, none⟩, .int .i64 ticks), (⟨w.heap.size, 3, none⟩, .slice wa wn wc), (⟨w.heap.size, 4, none⟩, .int .i64 turn), (⟨w.heap.size, 5, none⟩, .slice sa sn sc), (⟨w.heap.size, 6, none⟩, .slice (some ad) hn hc), (⟨w.heap.size, 7, none⟩, .slice ca cn cc), (⟨w1.heap.size, 0, none⟩, .int .i64 peer), (⟨w1.heap.size, 1, none⟩, .int .i64 hboot), (⟨w1.heap.size, 2, none⟩, .int .i64 life), (⟨w1.heap.size, 3, none⟩, .slice (some adl) ln lc), (⟨wr.heap.size, 4, none⟩, .int .i64 zk)] [] W' ∧ Below w1.heap.size w1 W') ⟨(Qk1 kb8), (Qb1 HB8.out)⟩ ?_
                   clear kb8 hs8 hS8 hb8
                   rintro w9 ⟨hK9, hB9⟩
                   clear kc8_0 kc8_1 kc8_2 kc8_3 kc8_4 kc8_5 kc8_6 kc8_7 kc8_8 kc8_9 kc8_10 kc8_11 hz8 hz8b kc7_0 kc7_1 kc7_2 kc7_3 kc7_4 kc7_5 kc7_6 kc7_7 kc7_8 kc7_9 kc7_10 kc7_11 kb7 hz7 hz7b hs7 e0 hQw
                   have HB9 := Lib.hid hB9
                   clear hB9
                   simp only [KeptC, List.forall_mem_cons] at hK9; obtain ⟨kb9, ⟨kc9_0, kc9_1, kc9_2, kc9_3, kc9_4, kc9_5, kc9_6, kc9_7, kc9_8, kc9_9, kc9_10, kc9_11, kc9_12, _⟩, _⟩ := hK9
                   have hz9 : w1.heap.size < w9.heap.size := cell_lt kc9_8
                   have hz9b : w.heap.size < w9.heap.size := cell_lt kc9_0
                   cases ok with
                   | false =>
                    go_wp2
                    go_ret
                    exact FitPost.no (Qb1 kb9)
                   | true =>
                    go_wp2_with (fail)
                    refine (srflows_any zk _).mono ?_; rintro e w10 ⟨rfl, hb10⟩
                    have hk10 : KeptC w [(⟨w.heap.size, 0, none⟩, .int .i64 id), (⟨w.heap.size, 1, none⟩, .int .i64 boot), (⟨w.heap.size, 2, none⟩, .int .i64 ticks), (⟨w.heap.size, 3, none⟩, .slice wa wn wc), (⟨w.heap.size, 4, none⟩, .int .i64 turn), (⟨w.heap.size, 5, none⟩, .slice sa sn sc), (⟨w.heap.size, 6, none⟩, .slice (some ad) hn hc), (⟨w.heap.size, 7, none⟩, .slice ca cn cc), (⟨w1.heap.size, 0, none⟩, .int .i64 peer), (⟨w1.heap.size, 1, none⟩, .int .i64 hboot), (⟨w1.heap.size, 2, none⟩, .int .i64 life), (⟨w1.heap.size, 3, none⟩, .slice (some adl) ln lc)] [] w10 := by
                     refine KeptC.below ?_ hb10
                     exact Qk1 kb9
                    simp only [KeptC, List.forall_mem_cons] at hk10; obtain ⟨kb10, ⟨kc10_0, kc10_1, kc10_2, kc10_3, kc10_4, kc10_5, kc10_6, kc10_7, kc10_8, kc10_9, kc10_10, kc10_11, _⟩, _⟩ := hk10
                    have HB10 : Hid (Below w1.heap.size w1 w10) := Lib.hid (((Qb1 HB9.out) : Below w1.heap.size w1 _).trans (hb10.mono (by first | (simp; done) | (simp; omega) | omega)))
                    clear hb10
                    generalize (decide (1 ≤ zk) && decide (zk ≤ 3)) = fl
                    cases fl with
                    | false =>
                     go_wp2
                     go_ret
                     exact FitPost.no (Qb1 kb10)
                    | true =>
                     have hwj : IntKind.i64.wrap ((j : Int) + 1) = (j : Int) + 1 := by rw [IntKind.wrap_i64]; have := HL8.out; omega
                     go_wp2
                     go_roundw
                     case rel => exact ⟨j + 1, by omega, by go_num, (Qk1 kb10), HB10⟩
                     case measure => simp [intOf]; omega
      | true =>
       go_wp2
       go_ret
       exact FitPost.no Qb
     | true =>
      go_wp2
      go_ret
      exact FitPost.no Qb
    | true =>
     go_wp2
     go_ret
     exact FitPost.no Qb
   | true =>
    go_wp2
    go_ret
    exact FitPost.no Qb
  | true =>
   go_wp2
   go_ret
   exact FitPost.no Qb
 | true =>
  go_wp2
  go_ret
  exact FitPost.no Qb
end Go.Proofs.YtkfodkbgmpbmfaaGreat
