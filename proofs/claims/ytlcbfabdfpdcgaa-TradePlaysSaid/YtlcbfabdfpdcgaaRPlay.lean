/- eddyref12.Play: what the call computes, for every argument. -/
import Derived.Test.YtlcbfabdfpdcgaaPlay
import Derived.OwnWalk
namespace Go.Proofs.Ytlcbfabdfpdcgaa
open Go.RowKit
set_option maxRecDepth 100000 in
set_option maxHeartbeats 8000000 in
theorem rplay_any (a b v ww f ra rb n : Int) (w : World) :
    Calls Try.prog 12 #[.int .i64 a, .int .i64 b, .agg #[.int .i64 v, .int .i64 ww, .int .i64 f], .int .i64 ra, .int .i64 rb, .int .i64 n] w fun e w' =>
      ∃ lv, e = .returned (.tuple #[.agg #[.int .i64 (playT a b ⟨v, ww, f⟩ ra rb n).1.ver, .int .i64 (playT a b ⟨v, ww, f⟩ ra rb n).1.wr, .int .i64 (playT a b ⟨v, ww, f⟩ ra rb n).1.flow], lv, .int .i64 (playT a b ⟨v, ww, f⟩ ra rb n).2.2]) ∧
        w'.ownsRow w.heap.size 2 1 lv (playT a b ⟨v, ww, f⟩ ra rb n).2.1.length ((playT a b ⟨v, ww, f⟩ ra rb n).2.1.map (Value.int .i64)) ∧ Below w.heap.size w w' := by
  have c1 := fun w => rends_any v ww f a b ra rb w
  obtain ⟨⟨e0, e1, e2⟩, he⟩ : ∃ t, endsT v ww f a b ra rb = t := ⟨_, rfl⟩
  rw [he] at c1
  have hpl : playT a b ⟨v, ww, f⟩ ra rb n = if e2 = 0 then outP ⟨v, ww, f⟩ (a, ra) (b, rb) (turnsN n) else (⟨0, 0, 0⟩, [], e2) := by unfold playT; rw [he]
  have C1 := Lib.hid c1
  clear c1 he
  obtain ⟨i0, hi0, hy0, hy1, hy2⟩ := info_parts i64_inf
  by_cases h2 : e2 = 0
  · subst h2
    rw [if_pos rfl] at hpl
    rw [hpl]
    clear hpl
    obtain ⟨N, hN⟩ : ∃ N, turnsN n = N := ⟨_, rfl⟩
    go_enter Try.func12, Try.ntmps12
    go_wp2_with (fail)
    refine (C1.out _).mono ?_; rintro e w1 ⟨rfl, hb1⟩; obtain ⟨hc1, hf1⟩ := bcell hb1; have hz1 := hb1.size; (try simp at hz1); have hz1_0 : w.heap.size < w1.heap.size := (by omega); have hz1_0_1 : w.heap.size < w1.heap.size + 1 := (by omega); have hz1_0_2 : w.heap.size < w1.heap.size + 1 + 1 := (by omega); have hz1_0_3 : w.heap.size < w1.heap.size + 1 + 1 + 1 := (by omega); have hz1_1 : w.heap.size + 1 < w1.heap.size := (by omega); have hz1_1_1 : w.heap.size + 1 < w1.heap.size + 1 := (by omega); have hz1_1_2 : w.heap.size + 1 < w1.heap.size + 1 + 1 := (by omega); have hz1_1_3 : w.heap.size + 1 < w1.heap.size + 1 + 1 + 1 := (by omega)
    go_wp2
    have d0 : w1.cell? ⟨w.heap.size, 0, none⟩ = some (.int .i64 v) := (hb1.cell (p := ⟨w.heap.size, 0, none⟩) (by simp; try omega)).trans (by go_simp)
    have d1 : w1.cell? ⟨w.heap.size, 1, none⟩ = some (.int .i64 ww) := (hb1.cell (p := ⟨w.heap.size, 1, none⟩) (by simp; try omega)).trans (by go_simp)
    have d2 : w1.cell? ⟨w.heap.size, 2, none⟩ = some (.int .i64 f) := (hb1.cell (p := ⟨w.heap.size, 2, none⟩) (by simp; try omega)).trans (by go_simp)
    have hmk : KeptC w [(⟨w.heap.size, 0, none⟩, .int .i64 v), (⟨w.heap.size, 1, none⟩, .int .i64 ww), (⟨w.heap.size, 2, none⟩, .int .i64 f), (⟨w.heap.size + 1, 0, none⟩, .int .i64 0), (⟨w.heap.size + 1, 1, none⟩, .int .i64 0), (⟨w.heap.size + 1, 2, none⟩, .int .i64 0)] [⟨w.heap.size, 0, none⟩, ⟨w.heap.size, 1, none⟩, ⟨w.heap.size, 2, none⟩, ⟨w.heap.size + 1, 0, none⟩, ⟨w.heap.size + 1, 1, none⟩, ⟨w.heap.size + 1, 2, none⟩] w1 := (by (repeat' (first | refine KeptC.cons ?_ ?_ | refine KeptC.consF ?_ ?_ ?_ | refine KeptC.mk0 ?_)); all_goals (first | with_reducible assumption | (go_simp; done) | (simp; omega) | exact (by repeat (first | with_reducible refine Below.setCell ?_ (by first | (simp; done) | (simp; omega) | omega) _ | with_reducible refine Below.alloc ?_ (by first | (simp; done) | (simp; omega) | omega) _ | with_reducible refine Below.drew ?_ | with_reducible exact Below.refl _ _ | with_reducible refine Below.trans ?_ (Below.mono hb1 (by first | (simp; done) | (simp; omega) | omega))))))
    go_loopw [18, 19] (fun lv i w' => ∃ k : Nat, k ≤ N ∧ i = .int .i64 k ∧ okP ⟨v, ww, f⟩ (altE (a, ra) (b, rb) k) ∧ KeptC w [(⟨w.heap.size, 0, none⟩, .int .i64 (stOf ⟨v, ww, f⟩ (altE (a, ra) (b, rb) k)).1.ver), (⟨w.heap.size, 1, none⟩, .int .i64 (stOf ⟨v, ww, f⟩ (altE (a, ra) (b, rb) k)).1.wr), (⟨w.heap.size, 2, none⟩, .int .i64 (stOf ⟨v, ww, f⟩ (altE (a, ra) (b, rb) k)).1.flow), (⟨w.heap.size + 1, 0, none⟩, .int .i64 0), (⟨w.heap.size + 1, 1, none⟩, .int .i64 0), (⟨w.heap.size + 1, 2, none⟩, .int .i64 0)] [⟨w.heap.size, 0, none⟩, ⟨w.heap.size, 1, none⟩, ⟨w.heap.size, 2, none⟩, ⟨w.heap.size + 1, 0, none⟩, ⟨w.heap.size + 1, 1, none⟩, ⟨w.heap.size + 1, 2, none⟩] w' ∧ w'.ownsRow (w.heap.size + 1 + 1) 2 1 lv k ((stOf ⟨v, ww, f⟩ (altE (a, ra) (b, rb) k)).2.map (Value.int .i64))) (fun _ i _ => N - (intOf i).toNat)
    case atStart => exact ⟨0, Nat.zero_le _, rfl, okP_nil _, hmk, rfl, .inl ⟨rfl, rfl⟩⟩
    case round =>
      obtain ⟨k, hk, rfl, ho, hK1, hr⟩ := hrel
      clear hmk d0 d1 d2
      obtain ⟨A, cp, rfl⟩ := row_slice hr
      obtain ⟨⟨rv, rw', rf⟩, hrr⟩ : ∃ rr, (stOf ⟨v, ww, f⟩ (altE (a, ra) (b, rb) k)).1 = rr := ⟨_, rfl⟩
      obtain ⟨ls, hls⟩ : ∃ ls, (stOf ⟨v, ww, f⟩ (altE (a, ra) (b, rb) k)).2 = ls := ⟨_, rfl⟩
      have hll : ls.length = k := by rw [← hls]; exact stOf_len (altE_len _ _ _) ho
      have HO := Lib.hid ho; have HRR := Lib.hid hrr; have HLS := Lib.hid hls; have HLL := Lib.hid hll
      rw [hrr] at hK1
      rw [hls] at hr
      simp only [] at hK1
      have HR := Lib.hid hr
      clear hr ho hrr hls hll
      simp only [KeptC, List.forall_mem_cons] at hK1; obtain ⟨kb2, ⟨kc2_0, kc2_1, kc2_2, kc2_3, kc2_4, kc2_5, _⟩, ⟨kz2_0, kg2_0⟩, ⟨kz2_1, kg2_1⟩, ⟨kz2_2, kg2_2⟩, ⟨kz2_3, kg2_3⟩, ⟨kz2_4, kg2_4⟩, ⟨kz2_5, kg2_5⟩, _⟩ := hK1
      by_cases hlt : (k : Int) < min n 100
      · have hkN : k < N := by rw [← hN]; unfold turnsN; omega
        have hk100 : k < 100 := by omega
        have hq : (100 < n ∧ (k : Int) < 100) ∨ (¬ 100 < n ∧ (k : Int) < n) := by omega
        clear hlt
        obtain ⟨⟨⟨p1, p2⟩, q1, q2⟩, hp⟩ : ∃ p, pickE (a, ra) (b, rb) k = p := ⟨_, rfl⟩
        have c2 := fun w => rbal_any rv rw' rf q1 p1 q2 p2 w
        obtain ⟨⟨⟨sv, sw, sf⟩, am, er⟩, hbe⟩ : ∃ t, balT rv rw' rf q1 p1 q2 p2 = t := ⟨_, rfl⟩
        rw [hbe] at c2
        have C2 := Lib.hid c2; have HBE := Lib.hid hbe; have HP := Lib.hid hp
        clear c2 hbe
        have hpar : ((k : Int) % 2 = 0 ∧ p1 = a ∧ p2 = ra ∧ q1 = b ∧ q2 = rb) ∨ ((k : Int) % 2 = 1 ∧ p1 = b ∧ p2 = rb ∧ q1 = a ∧ q2 = ra) := by
          unfold pickE at hp
          rcases Nat.mod_two_eq_zero_or_one k with h | h
          · rw [if_pos h] at hp
            simp only [Prod.mk.injEq] at hp
            exact .inl ⟨by omega, hp.1.1.symm, hp.1.2.symm, hp.2.1.symm, hp.2.2.symm⟩
          · rw [if_neg (by omega)] at hp
            simp only [Prod.mk.injEq] at hp
            exact .inr ⟨by omega, hp.1.1.symm, hp.1.2.symm, hp.2.1.symm, hp.2.2.symm⟩
        clear hp
        rcases hpar with ⟨hm, rfl, rfl, rfl, rfl⟩ | ⟨hm, rfl, rfl, rfl, rfl⟩
        all_goals rcases hq with ⟨hq1, hq2⟩ | ⟨hq1, hq2⟩
        all_goals
          go_wp2_with (fail)
          refine (C2.out _).mono ?_; rintro e w3 ⟨rfl, hb3⟩; obtain ⟨hc3, hf3⟩ := bcell hb3; have hz3 := hb3.size; (try simp at hz3); have hz3_0 : w.heap.size < w3.heap.size := (by omega); have hz3_0_1 : w.heap.size < w3.heap.size + 1 := (by omega); have hz3_0_2 : w.heap.size < w3.heap.size + 1 + 1 := (by omega); have hz3_0_3 : w.heap.size < w3.heap.size + 1 + 1 + 1 := (by omega); have hz3_1 : w.heap.size + 1 < w3.heap.size := (by omega); have hz3_1_1 : w.heap.size + 1 < w3.heap.size + 1 := (by omega); have hz3_1_2 : w.heap.size + 1 < w3.heap.size + 1 + 1 := (by omega); have hz3_1_3 : w.heap.size + 1 < w3.heap.size + 1 + 1 + 1 := (by omega)
          have hr3 := Lib.hid (row_below HR.out hb3)
          have hkb3 := kb2.trans (hb3.mono kb2.size)
          clear HR
          have HN := Lib.hid hN
          clear hN
          by_cases her : er = 0
          · subst her
            have hr4 := ((((row_far (p := ⟨w.heap.size, 0, none⟩) hr3.out (.int .i64 sv) (by simp only []; omega)) |> fun h => row_far (p := ⟨w.heap.size, 1, none⟩) h (.int .i64 sw) (by simp only []; omega)) |> fun h => row_far (p := ⟨w.heap.size, 2, none⟩) h (.int .i64 sf) (by simp only []; omega)).alloc (Obj.cells #[.int .i64 sv, .int .i64 sw, .int .i64 sf] 23))
            have hon := cell_one_new ((((w3.setCell ⟨w.heap.size, 0, none⟩ (.int .i64 sv)).setCell ⟨w.heap.size, 1, none⟩ (.int .i64 sw)).setCell ⟨w.heap.size, 2, none⟩ (.int .i64 sf)).alloc (Obj.cells #[.int .i64 sv, .int .i64 sw, .int .i64 sf] 23)) (.int .i64 am) 2
            rw [show ((((w3.setCell ⟨w.heap.size, 0, none⟩ (.int .i64 sv)).setCell ⟨w.heap.size, 1, none⟩ (.int .i64 sw)).setCell ⟨w.heap.size, 2, none⟩ (.int .i64 sf)).alloc (Obj.cells #[.int .i64 sv, .int .i64 sw, .int .i64 sf] 23)).heap.size = w3.heap.size + 1 by simp] at hon
            have hXk : KeptC w [(⟨w.heap.size, 0, none⟩, .int .i64 sv), (⟨w.heap.size, 1, none⟩, .int .i64 sw), (⟨w.heap.size, 2, none⟩, .int .i64 sf), (⟨w.heap.size + 1, 0, none⟩, .int .i64 0), (⟨w.heap.size + 1, 1, none⟩, .int .i64 0), (⟨w.heap.size + 1, 2, none⟩, .int .i64 0)] [⟨w.heap.size, 0, none⟩, ⟨w.heap.size, 1, none⟩, ⟨w.heap.size, 2, none⟩, ⟨w.heap.size + 1, 0, none⟩, ⟨w.heap.size + 1, 1, none⟩, ⟨w.heap.size + 1, 2, none⟩] (((((w3.setCell ⟨w.heap.size, 0, none⟩ (.int .i64 sv)).setCell ⟨w.heap.size, 1, none⟩ (.int .i64 sw)).setCell ⟨w.heap.size, 2, none⟩ (.int .i64 sf)).alloc (Obj.cells #[.int .i64 sv, .int .i64 sw, .int .i64 sf] 23)).alloc (Obj.cells #[.int .i64 am] 2)) := (by (repeat' (first | refine KeptC.cons ?_ ?_ | refine KeptC.consF ?_ ?_ ?_ | refine KeptC.mk0 ?_)); all_goals (first | with_reducible assumption | (go_simp; done) | (simp; omega) | exact (by repeat (first | with_reducible refine Below.setCell ?_ (by first | (simp; done) | (simp; omega) | omega) _ | with_reducible refine Below.alloc ?_ (by first | (simp; done) | (simp; omega) | omega) _ | with_reducible refine Below.drew ?_ | with_reducible exact Below.refl _ _ | with_reducible refine Below.trans ?_ (Below.mono hkb3 (by first | (simp; done) | (simp; omega) | omega))))))
            have hXs : (((((w3.setCell ⟨w.heap.size, 0, none⟩ (.int .i64 sv)).setCell ⟨w.heap.size, 1, none⟩ (.int .i64 sw)).setCell ⟨w.heap.size, 2, none⟩ (.int .i64 sf)).alloc (Obj.cells #[.int .i64 sv, .int .i64 sw, .int .i64 sf] 23)).alloc (Obj.cells #[.int .i64 am] 2)).heap.size = w3.heap.size + 2 := by simp
            have HXK := Lib.hid hXk; have HXS := Lib.hid hXs; have HON := Lib.hid hon; have HR4 := Lib.hid hr4
            clear hXk hXs hon hr4
            have hpt : ∀ x ∈ ([(⟨w.heap.size, 0, none⟩, .int .i64 sv), (⟨w.heap.size, 1, none⟩, .int .i64 sw), (⟨w.heap.size, 2, none⟩, .int .i64 sf), (⟨w.heap.size + 1, 0, none⟩, .int .i64 0), (⟨w.heap.size + 1, 1, none⟩, .int .i64 0), (⟨w.heap.size + 1, 2, none⟩, .int .i64 0)] : List (Addr × Value)), x.1.block < w.heap.size + 1 + 1 := by
              intro x hx
              simp only [List.mem_cons, List.not_mem_nil, or_false] at hx
              rcases hx with rfl | rfl | rfl | rfl | rfl | rfl <;> simp <;> omega
            have hpf : ∀ x ∈ ([⟨w.heap.size, 0, none⟩, ⟨w.heap.size, 1, none⟩, ⟨w.heap.size, 2, none⟩, ⟨w.heap.size + 1, 0, none⟩, ⟨w.heap.size + 1, 1, none⟩, ⟨w.heap.size + 1, 2, none⟩] : List Addr), x.block < w.heap.size + 1 + 1 := by
              intro x hx
              simp only [List.mem_cons, List.not_mem_nil, or_false] at hx
              rcases hx with rfl | rfl | rfl | rfl | rfl | rfl <;> simp <;> omega
            have HPT := Lib.hid hpt; have HPF := Lib.hid hpf
            clear hpt hpf
            go_wp2_with (at_builtin; refine wpList_append_own _ rfl _ _ 31 rfl (w.heap.size + 1 + 1) 2 i0 (.int .i64 0) 1 8 Try.underlying31 hi0 hy0 hy1 hy2 rfl (by decide) _ _ _ rfl (HR4.out.alloc _) ⟨w3.heap.size + 1, 0, none⟩ 1 1 [.int .i64 am] rfl rfl HON.out (by simp [Value.oneCell']) (by simp only [maxLen]; omega) (by omega) (by rw [HXS.out]; omega) ?_; intro v' w6 hown' hgrow _; obtain ⟨g', cap', rfl⟩ := ownsRow_succ hown'; obtain ⟨hb6, hk6⟩ := row_grown (HR4.out.alloc _) hgrow (by rw [HXS.out]; omega); have hK6 := keptC_low HXK.out hb6 (by omega) HPT.out HPF.out; have hK7 := Lib.hid hK6; have hOwn := Lib.hid hown'; clear hown' hgrow hb6 hk6; (simp only [KeptC, List.forall_mem_cons] at hK6; obtain ⟨kb6, ⟨kc6_0, kc6_1, kc6_2, kc6_3, kc6_4, kc6_5, _⟩, ⟨kz6_0, kg6_0⟩, ⟨kz6_1, kg6_1⟩, ⟨kz6_2, kg6_2⟩, ⟨kz6_3, kg6_3⟩, ⟨kz6_4, kg6_4⟩, ⟨kz6_5, kg6_5⟩, _⟩ := hK6))
            go_roundw
            case rel =>
              have hok := okP_snoc (p := ((p1, p2), q1, q2)) (q := ⟨sv, sw, sf⟩) (am := am) HO.out (by rw [HRR.out]; exact HBE.out)
              rw [HLS.out, ← HP.out, ← altE_succ] at hok
              refine ⟨k + 1, by omega, rfl, hok.1, ?_, ?_⟩
              · rw [hok.2]; exact hK7.out
              · rw [hok.2, List.map_append]; exact hOwn.out
            case measure => simp only [intOf]; omega
          · go_wp2
            have e0 : ((((w3.alloc (Obj.cells #[.int .i64 sv, .int .i64 sw, .int .i64 sf] 23)).setCell ⟨w.heap.size + 1, 0, none⟩ (.int .i64 0)).setCell ⟨w.heap.size + 1, 1, none⟩ (.int .i64 0)).setCell ⟨w.heap.size + 1, 2, none⟩ (.int .i64 0)).cell? ⟨w.heap.size + 1, 0, none⟩ = some (.int .i64 0) := by go_simp
            have hres : outP _ _ _ N = (⟨0, 0, 0⟩, [], er) := outP_error (i := k + 1) (by omega) (by rw [altE_succ, HP.out]; exact errP_snoc (p := ((p1, p2), q1, q2)) HO.out her (by rw [HRR.out]; exact HBE.out))
            refine bodyPost_ret (v := .tuple #[.agg #[.int .i64 0, .int .i64 0, .int .i64 0], .slice none 0 0, .int .i64 er]) (by simp [results, Try.results12, go_sem, *]) rfl ?_
            rw [HN.out, hres]
            exact ⟨.slice none 0 0, rfl, ⟨rfl, .inl ⟨rfl, rfl⟩⟩, (by repeat (first | with_reducible refine Below.setCell ?_ (by first | (simp; done) | (simp; omega) | omega) _ | with_reducible refine Below.alloc ?_ (by first | (simp; done) | (simp; omega) | omega) _ | with_reducible refine Below.drew ?_ | with_reducible exact Below.refl _ _ | with_reducible refine Below.trans ?_ (Below.mono hkb3 (by first | (simp; done) | (simp; omega) | omega))))⟩
      · have hkN : k = N := by
          have h1 := hk
          rw [← hN] at h1 ⊢
          unfold turnsN at *
          omega
        have hq : (100 < n ∧ ¬ (k : Int) < 100) ∨ (¬ 100 < n ∧ ¬ (k : Int) < n) := by omega
        have HKN := Lib.hid hkN
        have HN := Lib.hid hN
        clear hkN hlt hN
        rcases hq with ⟨hq1, hq2⟩ | ⟨hq1, hq2⟩
        all_goals
          go_wp2
          have e0 : (((wr.setCell ⟨w.heap.size + 1, 0, none⟩ (.int .i64 rv)).setCell ⟨w.heap.size + 1, 1, none⟩ (.int .i64 rw')).setCell ⟨w.heap.size + 1, 2, none⟩ (.int .i64 rf)).cell? ⟨w.heap.size + 1, 0, none⟩ = some (.int .i64 rv) := by go_simp
          have e1 : (((wr.setCell ⟨w.heap.size + 1, 0, none⟩ (.int .i64 rv)).setCell ⟨w.heap.size + 1, 1, none⟩ (.int .i64 rw')).setCell ⟨w.heap.size + 1, 2, none⟩ (.int .i64 rf)).cell? ⟨w.heap.size + 1, 1, none⟩ = some (.int .i64 rw') := by go_simp
          have e2 : (((wr.setCell ⟨w.heap.size + 1, 0, none⟩ (.int .i64 rv)).setCell ⟨w.heap.size + 1, 1, none⟩ (.int .i64 rw')).setCell ⟨w.heap.size + 1, 2, none⟩ (.int .i64 rf)).cell? ⟨w.heap.size + 1, 2, none⟩ = some (.int .i64 rf) := by go_simp
          have hres : outP ⟨v, ww, f⟩ (a, ra) (b, rb) N = (⟨rv, rw', rf⟩, ls, 0) := by
            have ho2 := HO.out
            unfold okP at ho2
            have := outP_ok (N := k) ho2
            rw [HRR.out, HLS.out] at this
            rw [← HKN.out]
            exact this
          refine bodyPost_ret (v := .tuple #[.agg #[.int .i64 rv, .int .i64 rw', .int .i64 rf], .slice A k cp, .int .i64 0]) (by simp [results, Try.results12, go_sem, *]) rfl ?_
          rw [HN.out, hres]
          refine ⟨.slice A k cp, rfl, ?_, (by repeat (first | with_reducible refine Below.setCell ?_ (by first | (simp; done) | (simp; omega) | omega) _ | with_reducible refine Below.alloc ?_ (by first | (simp; done) | (simp; omega) | omega) _ | with_reducible refine Below.drew ?_ | with_reducible exact Below.refl _ _ | with_reducible refine Below.trans ?_ (Below.mono kb2 (by first | (simp; done) | (simp; omega) | omega))))⟩
          simp only []
          rw [HLL.out]
          exact row_less (row_far (p := ⟨w.heap.size + 1, 2, none⟩) (row_far (p := ⟨w.heap.size + 1, 1, none⟩) (row_far (p := ⟨w.heap.size + 1, 0, none⟩) HR.out _ (by simp only []; omega)) _ (by simp only []; omega)) _ (by simp only []; omega)) (by omega)
  · rw [if_neg h2] at hpl
    rw [hpl]
    clear hpl
    go_enter Try.func12, Try.ntmps12
    go_wp2_with (fail)
    refine (C1.out _).mono ?_; rintro e w1 ⟨rfl, hb1⟩; obtain ⟨hc1, hf1⟩ := bcell hb1; have hz1 := hb1.size; (try simp at hz1); have hz1_0 : w.heap.size < w1.heap.size := (by omega); have hz1_0_1 : w.heap.size < w1.heap.size + 1 := (by omega); have hz1_0_2 : w.heap.size < w1.heap.size + 1 + 1 := (by omega); have hz1_0_3 : w.heap.size < w1.heap.size + 1 + 1 + 1 := (by omega); have hz1_1 : w.heap.size + 1 < w1.heap.size := (by omega); have hz1_1_1 : w.heap.size + 1 < w1.heap.size + 1 := (by omega); have hz1_1_2 : w.heap.size + 1 < w1.heap.size + 1 + 1 := (by omega); have hz1_1_3 : w.heap.size + 1 < w1.heap.size + 1 + 1 + 1 := (by omega)
    go_wp2
    have e1 : (((w1.setCell ⟨w.heap.size + 1, 0, none⟩ (.int .i64 0)).setCell ⟨w.heap.size + 1, 1, none⟩ (.int .i64 0)).setCell ⟨w.heap.size + 1, 2, none⟩ (.int .i64 0)).cell? ⟨w.heap.size + 1, 0, none⟩ = some (.int .i64 0) := by go_simp
    refine bodyPost_ret (v := .tuple #[.agg #[.int .i64 0, .int .i64 0, .int .i64 0], .slice none 0 0, .int .i64 e2]) (by simp [results, Try.results12, go_sem, *]) rfl ⟨.slice none 0 0, rfl, ⟨rfl, .inl ⟨rfl, rfl⟩⟩, (by repeat (first | with_reducible refine Below.setCell ?_ (by first | (simp; done) | (simp; omega) | omega) _ | with_reducible refine Below.alloc ?_ (by first | (simp; done) | (simp; omega) | omega) _ | with_reducible refine Below.drew ?_ | with_reducible exact Below.refl _ _ | with_reducible refine Below.trans ?_ (Below.mono hb1 (by first | (simp; done) | (simp; omega) | omega))))⟩
end Go.Proofs.Ytlcbfabdfpdcgaa
