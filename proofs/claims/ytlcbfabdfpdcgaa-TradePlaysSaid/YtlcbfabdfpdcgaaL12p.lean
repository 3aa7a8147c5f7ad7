/- Whatever the numbers and the register: eddylaw12's TradePlays returns true. No conditions. -/
import Derived.Test.YtlcbfabdfpdcgaaL12a
import Derived.Test.YtlcbfabdfpdcgaaTrdL
import Derived.Test.YtlcbfabdfpdcgaaRPlay
import Derived.Test.YtlcbfabdfpdcgaaReads
import Derived.Deep.Cut
namespace Go.Proofs.Ytlcbfabdfpdcgaa
open Go.ChangeShapes Go.WideShapes Go.ChangeAt Go.RowKit Go.Joins
set_option linter.unusedVariables false
theorem lay {P : Program} {c : Code} {Q : Exit → Act → World → Prop} {a : Act} {W : World} (C : World → Prop) (hC : C W) (h : ∀ W', C W' → c.wp P Q a W') : c.wp P Q a W := h W hC
set_option maxRecDepth 100000 in
set_option maxHeartbeats 8000000 in
theorem tradePlays_any (a b v wr f ra rb n : Int) (w : World) :
    Calls Try.prog 4 #[.int .i64 a, .int .i64 b, .agg #[.int .i64 v, .int .i64 wr, .int .i64 f], .int .i64 ra, .int .i64 rb, .int .i64 n] w fun e w' => e = .returned (.bool true) ∧ Below w.heap.size w w' := by
  have c1 := fun w => play_any a b v wr f ra rb n w
  have c2 := fun w => rplay_any a b v wr f ra rb n w
  have hz := playT_rest a b ⟨v, wr, f⟩ ra rb n
  have hmx := playT_len a b ⟨v, wr, f⟩ ra rb n
  generalize playT a b ⟨v, wr, f⟩ ra rb n = T at *
  obtain ⟨⟨x, y, z⟩, xs, e⟩ := T
  simp only [] at c1 c2 hz hmx
  have C1 := Lib.hid c1; have C2 := Lib.hid c2; have HZ := Lib.hid hz
  clear c1 c2 hz
  go_enter Try.func4, Try.ntmps4
  go_wp2_with (fail)
  refine (C1.out _).mono ?_; rintro e' w1 ⟨lv1, rfl, hr1, hb1⟩
  obtain ⟨hc1, hf1⟩ := bcell hb1; have hz1 := hb1.size; simp at hz1; have hz1_0 : w.heap.size < w1.heap.size := (by omega); have hz1_1 : w.heap.size < w1.heap.size + 1 := (by omega)
  have HR1 := Lib.hid hr1
  obtain ⟨A1, p1, rfl⟩ := row_slice hr1
  clear hr1
  go_wp2_with (fail)
  refine (C2.out _).mono ?_; rintro e' w2 ⟨lv2, rfl, hr2, hb2⟩
  obtain ⟨hc2, hf2⟩ := bcell hb2; have hz2 := hb2.size; simp at hz2; have hz2_0 : w1.heap.size < w2.heap.size := (by omega); have hz2_1 : w1.heap.size < w2.heap.size + 1 := (by omega)
  have HR2 := Lib.hid hr2
  obtain ⟨A2, p2, rfl⟩ := row_slice hr2
  clear hr2
  go_upto_region 5 with (fail)
  refine lay (fun w' => Below w.heap.size w w' ∧ Reads w' w'.heap.size 1 A1 xs.length (xs.map (Value.int .i64)) ∧ Reads w' w'.heap.size 1 A2 xs.length (xs.map (Value.int .i64))) ⟨(by repeat (first | with_reducible refine Below.setCell ?_ (by first | (simp; done) | (simp; omega) | omega) _ | with_reducible refine Below.alloc ?_ (by first | (simp; done) | (simp; omega) | omega) _ | with_reducible refine Below.drew ?_ | with_reducible exact Below.refl _ _ | with_reducible refine Below.trans ?_ (Below.mono hb1 (by first | (simp; done) | (simp; omega) | omega)) | with_reducible refine Below.trans ?_ (Below.mono hb2 (by first | (simp; done) | (simp; omega) | omega)))), Reads.of_own ((row_below (HR1.out.alloc _) hb2).alloc _), Reads.of_own (HR2.out.alloc _)⟩ ?_
  intro w3 ⟨hb3, hr3, hs3⟩
  have hlm : (xs.map (Value.int .i64)).length = xs.length := by simp
  have HB3 := Lib.hid hb3; have HR := Lib.hid hr3; have HS := Lib.hid hs3; have HL := Lib.hid hlm
  clear HR1 HR2 hb3 hr3 hs3 hb1 hb2 hc1 hc2 hf1 hf2 hz1 hz2 hz1_0 hz1_1 hz2_0 hz2_1 hlm
  obtain ⟨N, hN⟩ : ∃ N, xs.length = N := ⟨_, rfl⟩
  rw [hN] at HR HS hmx
  have HN := Lib.hid hN
  rw [hN]
  clear hN
  go_wp2
  go_loopw [19] (fun i w' => ∃ k : Nat, k ≤ N ∧ i = .int .i64 k ∧ KeptC w3 [] [] w') (fun i _ => N - (intOf i).toNat)
  case atStart => exact ⟨0, Nat.zero_le _, rfl, (by (repeat' (first | refine KeptC.cons ?_ ?_ | refine KeptC.consF ?_ ?_ ?_ | refine KeptC.mk0 ?_)); all_goals (first | with_reducible assumption | (go_simp; done) | (simp; omega) | exact (by repeat (first | with_reducible refine Below.setCell ?_ (by first | (simp; done) | (simp; omega) | omega) _ | with_reducible refine Below.alloc ?_ (by first | (simp; done) | (simp; omega) | omega) _ | with_reducible refine Below.drew ?_ | with_reducible exact Below.refl _ _))))⟩
  case round =>
    obtain ⟨k, hk, rfl, hK⟩ := hrel
    simp only [KeptC, List.forall_mem_cons] at hK; obtain ⟨kb0, _, _⟩ := hK
    by_cases hlt : k < N
    · obtain ⟨ad1, u1, rfl, hab1, hx1, hc1⟩ := (HR.out.below kb0).at_ hlt
      obtain ⟨ad2, u2, rfl, hab2, hx2, hc2⟩ := (HS.out.below kb0).at_ hlt
      obtain rfl : u1 = u2 := by rw [hx1] at hx2; exact Option.some.inj hx2
      rw [List.getElem?_map] at hx1
      obtain ⟨X, hX, rfl⟩ := Option.map_eq_some_iff.1 hx1
      have hks := kb0.size
      clear hx1 hx2
      by_cases h0 : k = 0
      · subst h0
        simp only [Addr.add_zero'] at hc1 hc2
        clear hX
        have hl1 := cell_lt hc1
        have hl2 := cell_lt hc2
        go_wp2_with (fail)
        refine wp_region_quietC_lit (KeptC w3 [(ad1, .int .i64 X), (ad2, .int .i64 X)] []) (by kernel_rfl) (by kernel_rfl) ?_ ?_
        · refine KeptC.drewn ?_
          repeat' (first | refine KeptC.cons ?_ ?_ | refine KeptC.consF ?_ ?_ ?_ | refine KeptC.mk0 ?_)
          all_goals (first | with_reducible assumption | (go_simp; done) | (simp; omega) | exact (by repeat (first | with_reducible refine Below.setCell ?_ (by first | (simp; done) | (simp; omega) | omega) _ | with_reducible refine Below.alloc ?_ (by first | (simp; done) | (simp; omega) | omega) _ | with_reducible refine Below.drew ?_ | with_reducible exact Below.refl _ _ | with_reducible refine Below.trans ?_ (Below.mono kb0 (by first | (simp; done) | (simp; omega) | omega)))))
        repeat (first
          | go_big_quiet_skip
          | (go_big_quiet_want; (apply quietC_run); (· intro w' hw'; (have hk' := hw'; simp only [KeptC, List.forall_mem_cons] at hk'; go_split_ands); go_simp; first | done | rfl); (simp only [Act.put, List.setIfInBounds_toArray, List.set_cons_zero, List.set_cons_succ]; go_big_quiet_on))
          | (go_big_quiet_want; (apply quietC_call); (· intro w' hw'; go_simp; first | done | exact ⟨rfl, rfl⟩ | rfl); (· intro w' hw'; first | fail); (simp only [Act.put, List.setIfInBounds_toArray, List.set_cons_zero, List.set_cons_succ]; go_big_quiet_on)))
        refine wpQuiet_nil ?_
        intro w1 hk1
        (have hk' := hk1; simp only [KeptC, List.forall_mem_cons] at hk'; go_split_ands); have hkB1 := hk1.1
        go_wp2
        go_roundw
        case rel => exact ⟨1, by omega, by go_num, (by (repeat' (first | refine KeptC.cons ?_ ?_ | refine KeptC.consF ?_ ?_ ?_ | refine KeptC.mk0 ?_)); all_goals (first | with_reducible assumption | (go_simp; done) | (simp; omega) | exact (by repeat (first | with_reducible refine Below.setCell ?_ (by first | (simp; done) | (simp; omega) | omega) _ | with_reducible refine Below.alloc ?_ (by first | (simp; done) | (simp; omega) | omega) _ | with_reducible refine Below.drew ?_ | with_reducible exact Below.refl _ _ | with_reducible refine Below.trans ?_ (Below.mono hkB1 (by first | (simp; done) | (simp; omega) | omega))))))⟩
        case measure => simp [intOf]; omega
      · obtain rfl : X = 0 := HZ.out k (by omega) X hX
        obtain ⟨q1, hq1⟩ : ∃ q, ad1.add k = q := ⟨_, rfl⟩
        obtain ⟨q2, hq2⟩ : ∃ q, ad2.add k = q := ⟨_, rfl⟩
        rw [hq1] at hc1
        rw [hq2] at hc2
        have hkp : 0 < k := by omega
        have hl1 := cell_lt hc1
        have hl2 := cell_lt hc2
        clear hX
        go_wp2_with (fail)
        refine wp_region_quietC_lit (KeptC w3 [(q1, .int .i64 0), (q2, .int .i64 0)] []) (by kernel_rfl) (by kernel_rfl) ?_ ?_
        · refine KeptC.drewn ?_
          repeat' (first | refine KeptC.cons ?_ ?_ | refine KeptC.consF ?_ ?_ ?_ | refine KeptC.mk0 ?_)
          all_goals (first | with_reducible assumption | (go_simp; done) | (simp; omega) | exact (by repeat (first | with_reducible refine Below.setCell ?_ (by first | (simp; done) | (simp; omega) | omega) _ | with_reducible refine Below.alloc ?_ (by first | (simp; done) | (simp; omega) | omega) _ | with_reducible refine Below.drew ?_ | with_reducible exact Below.refl _ _ | with_reducible refine Below.trans ?_ (Below.mono kb0 (by first | (simp; done) | (simp; omega) | omega)))))
        repeat (first
          | go_big_quiet_skip
          | (go_big_quiet_want; (apply quietC_run); (· intro w' hw'; (have hk' := hw'; simp only [KeptC, List.forall_mem_cons] at hk'; go_split_ands); go_simp; first | done | rfl); (simp only [Act.put, List.setIfInBounds_toArray, List.set_cons_zero, List.set_cons_succ]; go_big_quiet_on))
          | (go_big_quiet_want; (apply quietC_call); (· intro w' hw'; go_simp; first | done | exact ⟨rfl, rfl⟩ | rfl); (· intro w' hw'; first | fail); (simp only [Act.put, List.setIfInBounds_toArray, List.set_cons_zero, List.set_cons_succ]; go_big_quiet_on)))
        refine wpQuiet_nil ?_
        intro w1 hk1
        (have hk' := hk1; simp only [KeptC, List.forall_mem_cons] at hk'; go_split_ands); have hkB1 := hk1.1
        go_wp2
        go_roundw
        case rel => exact ⟨k + 1, by omega, by go_num, (by (repeat' (first | refine KeptC.cons ?_ ?_ | refine KeptC.consF ?_ ?_ ?_ | refine KeptC.mk0 ?_)); all_goals (first | with_reducible assumption | (go_simp; done) | (simp; omega) | exact (by repeat (first | with_reducible refine Below.setCell ?_ (by first | (simp; done) | (simp; omega) | omega) _ | with_reducible refine Below.alloc ?_ (by first | (simp; done) | (simp; omega) | omega) _ | with_reducible refine Below.drew ?_ | with_reducible exact Below.refl _ _ | with_reducible refine Below.trans ?_ (Below.mono hkB1 (by first | (simp; done) | (simp; omega) | omega))))))⟩
        case measure => simp [intOf]; omega
    · obtain rfl : k = N := by omega
      go_wp2_with (fail)
      refine (awake_any _).mono ?_; rintro e w5 ⟨rfl, hb5⟩; obtain ⟨hc5, hf5⟩ := bcell hb5; have hz5 := hb5.size; (try simp at hz5)
      go_wp2
      go_ret
      refine ⟨rfl, ?_⟩
      have hB := HB3.out
      exact (hB.trans (kb0.mono hB.size)).trans (hb5.mono (Nat.le_trans hB.size kb0.size))

theorem tradePlays_lifted (os : Os) (started : os.Started) (H : Type) (enc : TypeId × Value → H) :
    ReturnsInHanded {} Try.checked os 4 .any (Rows.tradePlaysSpec.pre6 enc Try.prog Try.f4 Rows.tradePlaysRow.domain false) (Rows.tradePlaysSpec.post enc Try.prog Try.f4 false true false false) := by
  refine returnsInHanded_of_change_sized (C := Try.checked) own started (by kernel_rfl) Try.func4
    (ChangeSpec.witness6 (enc := enc) (C := Try.checked) false ⟨#[], #[.int .i64 0, .int .i64 0, .agg #[.int .i64 0, .int .i64 0, .int .i64 0], .int .i64 0, .int .i64 0, .int .i64 0], []⟩ 8 (by kernel_rfl) (by kernel_rfl) (by kernel_rfl) (by kernel_rfl)) ?_
  intro W base args ds gs before hval hW _ hsz _
  have hW' := hW
  obtain ⟨p, q, hA, hV, rfl, hfz, hnd⟩ := hW
  obtain ⟨rfl, rfl⟩ := trodVars_none hV
  rw [Try.params4] at hA hval
  obtain ⟨v0, vs0, d0, ds0, p0, q0, hargs, rfl, rfl, h0, r0⟩ := trodAll_cons hA
  obtain ⟨v1, vs1, d1, ds1, p1, q1, rfl, rfl, rfl, h1, r1⟩ := trodAll_cons r0
  obtain ⟨v2, vs2, d2, ds2, p2, q2, rfl, rfl, rfl, h2, r2⟩ := trodAll_cons r1
  obtain ⟨v3, vs3, d3, ds3, p3, q3, rfl, rfl, rfl, h3, r3⟩ := trodAll_cons r2
  obtain ⟨v4, vs4, d4, ds4, p4, q4, rfl, rfl, rfl, h4, r4⟩ := trodAll_cons r3
  obtain ⟨v5, vs5, d5, ds5, p5, q5, rfl, rfl, rfl, h5, r5⟩ := trodAll_cons r4
  obtain ⟨rfl, rfl, rfl⟩ := trodAll_nil r5
  obtain rfl : args = #[v0, v1, v2, v3, v4, v5] := by cases args; simp_all
  obtain ⟨me, rfl, _, _, wa⟩ := open_int Try.underlying3 (hval 0 _ v0 rfl rfl) h0
  obtain ⟨peer, rfl, _, _, wb⟩ := open_int Try.underlying3 (hval 1 _ v1 rfl rfl) h1
  obtain ⟨v, wr, f, rfl, _, _, _⟩ := open_reg (hval 2 _ v2 rfl rfl) h2
  obtain ⟨rest, rfl, _, _, wam⟩ := open_int Try.underlying2 (hval 3 _ v3 rfl rfl) h3
  obtain ⟨told, rfl, _, _, wk⟩ := open_int Try.underlying2 (hval 4 _ v4 rfl rfl) h4
  obtain ⟨n, rfl, _, _, wn⟩ := open_int Try.underlying3 (hval 5 _ v5 rfl rfl) h5
  refine (tradePlays_any me peer v wr f rest told n W).mono fun e W' ⟨he, hg⟩ => ?_
  subst he
  exact ⟨_, rfl, law_post laidOut rfl (by kernel_rfl) rfl Try.underlying4 rfl hW' hg⟩

theorem tradePlays_holds : Rows.TradePlaysSaid :=
  OpenClaim.holds_of_wide 4 Try.f4 rfl rfl rfl rfl rfl rfl rfl ⟨rfl, rfl, rfl, rfl, rfl⟩ rfl rfl rfl rfl rfl (by kernel_rfl) Try.func4 (by kernel_rfl)
    (of_decide_eq_true (by kernel_rfl)) (by unfold Func.isWrapper; first | (rw [if_pos (by decide +kernel)]; kernel_rfl) | (rw [if_neg (by decide +kernel)]; exact ⟨rfl, rfl⟩))
    (fun os started H enc _ => tradePlays_lifted os started H enc)

end Go.Proofs.Ytlcbfabdfpdcgaa
