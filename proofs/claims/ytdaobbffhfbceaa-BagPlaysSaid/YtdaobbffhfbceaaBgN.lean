/- Same of the reference, on two states that read alike; the calls of a bag that is not there: what each call computes. -/
import Derived.Test.YtdaobbffhfbceaaBgW
namespace Go.Proofs.Ytdaobbffhfbceaa
open Go.RowKit Go.Shelf
set_option linter.unusedVariables false
set_option linter.unusedSimpArgs false
set_option maxRecDepth 100000
attribute [local go_sem] Oper.semAt_some
abbrev mAgg (nx : Int) (lv sv : Value) : Value := .agg #[.int .i64 nx, lv, sv]
set_option maxHeartbeats 4000000 in
theorem rsame_true (nx : Int) (A1 A2 : Option Addr) (c1 c2 n : Nat) (ls : List Dg) (B1 B2 : Option Addr) (d1 d2 m : Nat) (sv : List LK) (w : World) (h1 : RowsE encD 4 w w.heap.size A1 n ls) (h2 : RowsE encD 4 w w.heap.size A2 n ls) (g1 : RowsE encL 2 w w.heap.size B1 m sv) (g2 : RowsE encL 2 w w.heap.size B2 m sv) (hn : n ≤ 65536) (hm : m * 2 ≤ 70368744177664) :
    Calls Try.prog 17 #[mAgg nx (.slice A1 n c1) (.slice B1 m d1), mAgg nx (.slice A2 n c2) (.slice B2 m d2)] w fun e w' => e = .returned (.bool true) ∧ Below w.heap.size w w' := by
  have H1 := Lib.hid h1
  have H2 := Lib.hid h2
  have G1 := Lib.hid g1
  have G2 := Lib.hid g2
  clear h1 h2 g1 g2
  go_enter Try.func17, Try.ntmps17
  go_wp2
  go_loopw [5] (fun i w' => ∃ (k : Nat), k ≤ n ∧ i = .int .i64 k ∧ KeptC w [(⟨w.heap.size, 0, none⟩, .int .i64 nx), (⟨w.heap.size, 1, none⟩, .slice A1 n c1), (⟨w.heap.size, 2, none⟩, .slice B1 m d1), (⟨w.heap.size + 1, 0, none⟩, .int .i64 nx), (⟨w.heap.size + 1, 1, none⟩, .slice A2 n c2), (⟨w.heap.size + 1, 2, none⟩, .slice B2 m d2)] [] w') (fun i _ => n - (intOf i).toNat)
  case atStart => exact ⟨0, Nat.zero_le _, rfl, (by (repeat' (first | refine KeptC.cons ?_ ?_ | refine KeptC.consF ?_ ?_ ?_ | refine KeptC.mk0 ?_)); all_goals (first | with_reducible assumption | (go_simp; done) | (simp; omega) | exact (by repeat (first | with_reducible refine Below.setCell ?_ (by first | (simp; done) | (simp; omega) | omega) _ | with_reducible refine Below.alloc ?_ (by first | (simp; done) | (simp; omega) | omega) _ | with_reducible refine Below.drew ?_ | with_reducible refine below_drewN ?_ _ | with_reducible exact Below.refl _ _))))⟩
  case round =>
    obtain ⟨k, hk, rfl, hK⟩ := hrel
    have HK := Lib.hid hK
    simp only [KeptC, List.forall_mem_cons] at hK; obtain ⟨kb0, ⟨kc0_0, kc0_1, kc0_2, kc0_3, kc0_4, kc0_5, _⟩, _⟩ := hK
    have hs0 := kb0.size
    have hz0 : w.heap.size + 1 < wr.heap.size := cell_lt kc0_3
    by_cases hlt : k < n
    rotate_left
    · obtain rfl : k = n := by omega
      obtain ⟨wo, hwo⟩ : ∃ wo, wo = wr := ⟨_, rfl⟩
      subst hwo
      go_wp2
      go_loopw [6] (fun i w' => ∃ (q : Nat), q ≤ m ∧ i = .int .i64 q ∧ KeptC w [(⟨w.heap.size, 0, none⟩, .int .i64 nx), (⟨w.heap.size, 1, none⟩, .slice A1 k c1), (⟨w.heap.size, 2, none⟩, .slice B1 m d1), (⟨w.heap.size + 1, 0, none⟩, .int .i64 nx), (⟨w.heap.size + 1, 1, none⟩, .slice A2 k c2), (⟨w.heap.size + 1, 2, none⟩, .slice B2 m d2)] [] w') (fun i _ => m - (intOf i).toNat)
      case atStart => exact ⟨0, Nat.zero_le _, rfl, HK.out⟩
      case round =>
        obtain ⟨q, hq, rfl, hK⟩ := hrel
        clear kc0_0 kc0_1 kc0_2 kc0_3 kc0_4 kc0_5 kb0 hs0 hz0 HK
        simp only [KeptC, List.forall_mem_cons] at hK; obtain ⟨kb0, ⟨kc0_0, kc0_1, kc0_2, kc0_3, kc0_4, kc0_5, _⟩, _⟩ := hK
        have hs0 := kb0.size
        have hz0 : w.heap.size + 1 < wr.heap.size := cell_lt kc0_3
        by_cases hlt : q < m
        rotate_left
        · obtain rfl : q = m := by omega
          go_wp2
          go_ret
          exact ⟨rfl, kb0⟩
        · obtain ⟨a1, x, rfl, hb1, hx1, h1⟩ := G1.out.get hlt
          obtain ⟨a2, x2, rfl, hb2, hx2, h2⟩ := G2.out.get hlt
          obtain rfl : x = x2 := by rw [hx1] at hx2; exact Option.some.inj hx2
          obtain ⟨P1, hP1⟩ : ∃ P, a1.add (q * 2) = P := ⟨_, rfl⟩
          obtain ⟨P2, hP2⟩ : ∃ P, a2.add (q * 2) = P := ⟨_, rfl⟩
          have hp1 : P1.block < w.heap.size := by rw [← hP1, block_of_add]; exact hb1
          have hp2 : P2.block < w.heap.size := by rw [← hP2, block_of_add]; exact hb2
          rw [hP1] at h1
          rw [hP2] at h2
          have e1_0 : wr.cell? P1 = some (.int .i64 x.1) := (kb0.cell (p := P1) hp1).trans (by have := h1 0 _ rfl; rwa [add_z P1] at this)
          have e2_0 : wr.cell? P2 = some (.int .i64 x.1) := (kb0.cell (p := P2) hp2).trans (by have := h2 0 _ rfl; rwa [add_z P2] at this)
          have e1_1 : wr.cell? ⟨P1.block, P1.off + 1, none⟩ = some (.int .i64 x.2) := (kb0.cell (p := ⟨P1.block, P1.off + 1, none⟩) hp1).trans (by have := h1 1 _ rfl; rwa [add_next P1 0] at this)
          have e2_1 : wr.cell? ⟨P2.block, P2.off + 1, none⟩ = some (.int .i64 x.2) := (kb0.cell (p := ⟨P2.block, P2.off + 1, none⟩) hp2).trans (by have := h2 1 _ rfl; rwa [add_next P2 0] at this)
          clear h1 h2 hx1 hx2
          have he : ∀ W, (binOp .neq 64 (lAgg x) (lAgg x)).run Try.prog W = .ok (.bool false) W := fun W => by rw [neq_link x x W, lEq_self]; rfl
          go_wp2
          refine wp_region_quietC_lit (KeptC w [(⟨w.heap.size, 0, none⟩, .int .i64 nx), (⟨w.heap.size, 1, none⟩, .slice A1 k c1), (⟨w.heap.size, 2, none⟩, .slice (some a1) m d1), (⟨w.heap.size + 1, 0, none⟩, .int .i64 nx), (⟨w.heap.size + 1, 1, none⟩, .slice A2 k c2), (⟨w.heap.size + 1, 2, none⟩, .slice (some a2) m d2), (P1, .int .i64 x.1), (⟨P1.block, P1.off + 1, none⟩, .int .i64 x.2), (P2, .int .i64 x.1), (⟨P2.block, P2.off + 1, none⟩, .int .i64 x.2)] []) (by kernel_rfl) (by kernel_rfl) ?_ ?_
          · refine KeptC.drewn ?_
            repeat' (first | refine KeptC.cons ?_ ?_ | refine KeptC.consF ?_ ?_ ?_ | refine KeptC.mk0 ?_)
            all_goals (first | with_reducible assumption | (go_simp; done) | (simp; omega) | exact (by repeat (first | with_reducible refine Below.setCell ?_ (by first | (simp; done) | (simp; omega) | omega) _ | with_reducible refine Below.alloc ?_ (by first | (simp; done) | (simp; omega) | omega) _ | with_reducible refine Below.drew ?_ | with_reducible refine below_drewN ?_ _ | with_reducible exact Below.refl _ _ | with_reducible refine Below.trans ?_ (Below.mono kb0 (by first | (simp; done) | (simp; omega) | omega)))))
          repeat (first
            | go_big_quiet_skip
            | (go_big_quiet_want; (apply quietC_run); (· intro w' hw'; (have hk' := hw'; simp only [KeptC, List.forall_mem_cons] at hk'; go_split_ands); go_simp; first | done | rfl); (simp only [Act.put, List.setIfInBounds_toArray, List.set_cons_zero, List.set_cons_succ]; go_big_quiet_on))
            | (go_big_quiet_want; (apply quietC_call); (· intro w' hw'; go_simp; first | done | exact ⟨rfl, rfl⟩ | rfl); (· intro w' hw'; first | ((with_reducible refine (fail).mono ?_); rintro e w2 ⟨rfl, hb⟩; exact ⟨rfl, hw'.below hb⟩)); (simp only [Act.put, List.setIfInBounds_toArray, List.set_cons_zero, List.set_cons_succ]; go_big_quiet_on)))
          refine wpQuiet_nil ?_
          intro w9 hk9
          (have hk' := hk9; simp only [KeptC, List.forall_mem_cons] at hk'; go_split_ands); have hkB9 := hk9.1
          go_wp2
          go_roundw
          case rel => exact ⟨q + 1, by omega, by go_num, (by (repeat' (first | refine KeptC.cons ?_ ?_ | refine KeptC.consF ?_ ?_ ?_ | refine KeptC.mk0 ?_)); all_goals (first | with_reducible assumption | (go_simp; done) | (simp; omega) | exact (by repeat (first | with_reducible refine Below.setCell ?_ (by first | (simp; done) | (simp; omega) | omega) _ | with_reducible refine Below.alloc ?_ (by first | (simp; done) | (simp; omega) | omega) _ | with_reducible refine Below.drew ?_ | with_reducible refine below_drewN ?_ _ | with_reducible exact Below.refl _ _ | with_reducible refine Below.trans ?_ (Below.mono hkB9 (by first | (simp; done) | (simp; omega) | omega))))))⟩
          case measure => simp [intOf]; omega
    · obtain ⟨a1, x, rfl, hb1, hx1, h1⟩ := H1.out.get hlt
      obtain ⟨a2, x2, rfl, hb2, hx2, h2⟩ := H2.out.get hlt
      obtain rfl : x = x2 := by rw [hx1] at hx2; exact Option.some.inj hx2
      obtain ⟨P1, hP1⟩ : ∃ P, a1.add (k * 4) = P := ⟨_, rfl⟩
      obtain ⟨P2, hP2⟩ : ∃ P, a2.add (k * 4) = P := ⟨_, rfl⟩
      have hp1 : P1.block < w.heap.size := by rw [← hP1, block_of_add]; exact hb1
      have hp2 : P2.block < w.heap.size := by rw [← hP2, block_of_add]; exact hb2
      rw [hP1] at h1
      rw [hP2] at h2
      have e1_0 : wr.cell? P1 = some (.int .i64 x.num) := (kb0.cell (p := P1) hp1).trans (by have := h1 0 _ rfl; rwa [add_z P1] at this)
      have e2_0 : wr.cell? P2 = some (.int .i64 x.num) := (kb0.cell (p := P2) hp2).trans (by have := h2 0 _ rfl; rwa [add_z P2] at this)
      have e1_1 : wr.cell? ⟨P1.block, P1.off + 1, none⟩ = some (.int .i64 x.frm) := (kb0.cell (p := ⟨P1.block, P1.off + 1, none⟩) hp1).trans (by have := h1 1 _ rfl; rwa [add_next P1 0] at this)
      have e2_1 : wr.cell? ⟨P2.block, P2.off + 1, none⟩ = some (.int .i64 x.frm) := (kb0.cell (p := ⟨P2.block, P2.off + 1, none⟩) hp2).trans (by have := h2 1 _ rfl; rwa [add_next P2 0] at this)
      have e1_2 : wr.cell? ⟨P1.block, P1.off + 2, none⟩ = some (.int .i64 x.dst) := (kb0.cell (p := ⟨P1.block, P1.off + 2, none⟩) hp1).trans (by have := h1 2 _ rfl; rwa [add_next P1 1] at this)
      have e2_2 : wr.cell? ⟨P2.block, P2.off + 2, none⟩ = some (.int .i64 x.dst) := (kb0.cell (p := ⟨P2.block, P2.off + 2, none⟩) hp2).trans (by have := h2 2 _ rfl; rwa [add_next P2 1] at this)
      have e1_3 : wr.cell? ⟨P1.block, P1.off + 3, none⟩ = some (.string x.body) := (kb0.cell (p := ⟨P1.block, P1.off + 3, none⟩) hp1).trans (by have := h1 3 _ rfl; rwa [add_next P1 2] at this)
      have e2_3 : wr.cell? ⟨P2.block, P2.off + 3, none⟩ = some (.string x.body) := (kb0.cell (p := ⟨P2.block, P2.off + 3, none⟩) hp2).trans (by have := h2 3 _ rfl; rwa [add_next P2 2] at this)
      clear h1 h2 hx1 hx2
      have he : ∀ W, (binOp .neq 33 (dAgg x) (dAgg x)).run Try.prog W = .ok (.bool false) W := fun W => by rw [neq_dg x x W, dEq_self]; rfl
      go_wp2
      refine wp_region_quietC_lit (KeptC w [(⟨w.heap.size, 0, none⟩, .int .i64 nx), (⟨w.heap.size, 1, none⟩, .slice (some a1) n c1), (⟨w.heap.size, 2, none⟩, .slice B1 m d1), (⟨w.heap.size + 1, 0, none⟩, .int .i64 nx), (⟨w.heap.size + 1, 1, none⟩, .slice (some a2) n c2), (⟨w.heap.size + 1, 2, none⟩, .slice B2 m d2), (P1, .int .i64 x.num), (⟨P1.block, P1.off + 1, none⟩, .int .i64 x.frm), (⟨P1.block, P1.off + 2, none⟩, .int .i64 x.dst), (⟨P1.block, P1.off + 3, none⟩, .string x.body), (P2, .int .i64 x.num), (⟨P2.block, P2.off + 1, none⟩, .int .i64 x.frm), (⟨P2.block, P2.off + 2, none⟩, .int .i64 x.dst), (⟨P2.block, P2.off + 3, none⟩, .string x.body)] []) (by kernel_rfl) (by kernel_rfl) ?_ ?_
      · refine KeptC.drewn ?_
        repeat' (first | refine KeptC.cons ?_ ?_ | refine KeptC.consF ?_ ?_ ?_ | refine KeptC.mk0 ?_)
        all_goals (first | with_reducible assumption | (go_simp; done) | (simp; omega) | exact (by repeat (first | with_reducible refine Below.setCell ?_ (by first | (simp; done) | (simp; omega) | omega) _ | with_reducible refine Below.alloc ?_ (by first | (simp; done) | (simp; omega) | omega) _ | with_reducible refine Below.drew ?_ | with_reducible refine below_drewN ?_ _ | with_reducible exact Below.refl _ _ | with_reducible refine Below.trans ?_ (Below.mono kb0 (by first | (simp; done) | (simp; omega) | omega)))))
      repeat (first
        | go_big_quiet_skip
        | (go_big_quiet_want; (apply quietC_run); (· intro w' hw'; (have hk' := hw'; simp only [KeptC, List.forall_mem_cons] at hk'; go_split_ands); go_simp; first | done | rfl); (simp only [Act.put, List.setIfInBounds_toArray, List.set_cons_zero, List.set_cons_succ]; go_big_quiet_on))
        | (go_big_quiet_want; (apply quietC_call); (· intro w' hw'; go_simp; first | done | exact ⟨rfl, rfl⟩ | rfl); (· intro w' hw'; first | ((with_reducible refine (fail).mono ?_); rintro e w2 ⟨rfl, hb⟩; exact ⟨rfl, hw'.below hb⟩)); (simp only [Act.put, List.setIfInBounds_toArray, List.set_cons_zero, List.set_cons_succ]; go_big_quiet_on)))
      refine wpQuiet_nil ?_
      intro w9 hk9
      (have hk' := hk9; simp only [KeptC, List.forall_mem_cons] at hk'; go_split_ands); have hkB9 := hk9.1
      go_wp2
      go_roundw
      case rel => exact ⟨k + 1, by omega, by go_num, (by (repeat' (first | refine KeptC.cons ?_ ?_ | refine KeptC.consF ?_ ?_ ?_ | refine KeptC.mk0 ?_)); all_goals (first | with_reducible assumption | (go_simp; done) | (simp; omega) | exact (by repeat (first | with_reducible refine Below.setCell ?_ (by first | (simp; done) | (simp; omega) | omega) _ | with_reducible refine Below.alloc ?_ (by first | (simp; done) | (simp; omega) | omega) _ | with_reducible refine Below.drew ?_ | with_reducible refine below_drewN ?_ _ | with_reducible exact Below.refl _ _ | with_reducible refine Below.trans ?_ (Below.mono hkB9 (by first | (simp; done) | (simp; omega) | omega))))))⟩
      case measure => simp [intOf]; omega
set_option maxHeartbeats 4000000 in
theorem flying_off (k : Nat) (hk : 1 ≤ k) (B1 Bo Bw : Nat) (po : Option Addr) (w : World) (hBo : Bo < w.heap.size) (h1 : w.cell? ⟨B1, 0, none⟩ = some (.pointer po)) (hoff : ∀ W, Below w.heap.size w W → Calls Try.prog 23 #[.pointer po] W fun e w' => e = .returned (.bool false) ∧ W = w') :
    SeqS k Try.prog 44 #[.pointer (some ⟨B1, 0, none⟩)] encsF Bo Bw 0 (fun ys => ys = []) (fun _ => False) w := by
  intro l J Jx W hW hJr hJF hY h0
  have hB1 := cell_lt h1
  simp only [] at hB1
  have hws := hW.size
  have q1 := (hW.cell hB1).trans h1
  have ct := hoff W hW
  have CT := Lib.hid ct
  have H0 := Lib.hid h0
  refine callsIn_of_wp Try.func44 rfl trivial ?_ rfl
  simp only [Try.ntmps44, List.size_toArray, List.length_cons, List.length_nil, Nat.reduceAdd, Nat.reduceSub, Array.replicate_succ, Array.replicate_zero, List.push_toArray, List.append_toArray, List.nil_append, List.cons_append]
  clear hY hJr hJF h0 h1 hoff ct
  gi_wp2_with (fail)
  refine ⟨trivial, ?_⟩
  refine (callsIn_wide.2 CT.out).mono ?_; rintro e w1 ⟨rfl, rfl⟩
  gi_wp2
  refine bodyPost_ret (results_none rfl _ _ _) rfl ?_
  exact ⟨⟨_, rfl⟩, .inl ⟨[], rfl, H0.out⟩⟩
set_option maxHeartbeats 4000000 in
theorem find_off (po : Option Addr) (k : Int) (w : World) (hoff : ∀ W, Below w.heap.size w W → Calls Try.prog 23 #[.pointer po] W fun e w' => e = .returned (.bool false) ∧ W = w') :
    Calls Try.prog 25 #[.pointer po, .int .i64 k] w fun e w' => e = .returned (.tuple #[.int .i64 0, dAgg Dg0, .bool false]) ∧ Below w.heap.size w w' := by
  have HO := Lib.hid hoff
  clear hoff
  refine (callsIn_wide (n := 6)).1 ?_
  refine callsIn_of_wp_marks Try.func25 rfl trivial ?_ rfl
  simp only [Try.ntmps25, List.size_toArray, List.length_cons, List.length_nil, Nat.reduceAdd, Nat.reduceSub, Array.replicate_succ, Array.replicate_zero, List.push_toArray, List.append_toArray, List.nil_append, List.cons_append]
  refine wpIn_wide.2 ?_
  go_wp2_with (fail)
  refine (flying_any _ _).mono ?_; rintro x w2 ⟨rfl, rfl⟩
  go_wp2
  obtain ⟨W0, hW0⟩ : ∃ W0, W0 = (((((w.alloc (Obj.cells #[.int .i64 k] 2)).alloc (Obj.cells #[.int .i64 0] 3)).alloc (Obj.cells #[.int .i64 0, .int .i64 0, .int .i64 0, .string ⟨#[]⟩] 33)).alloc (Obj.cells #[.bool false] 4)).alloc (Obj.cells #[.pointer po] 23)) := ⟨_, rfl⟩
  have hz : W0.heap.size = w.heap.size + 5 := by rw [hW0]; simp
  have hb0 : Below w.heap.size w W0 := by rw [hW0]; exact (by repeat (first | with_reducible refine Below.setCell ?_ (by first | (simp; done) | (simp; omega) | omega) _ | with_reducible refine Below.alloc ?_ (by first | (simp; done) | (simp; omega) | omega) _ | with_reducible refine Below.drew ?_ | with_reducible refine below_drewN ?_ _ | with_reducible exact Below.refl _ _))
  have q0 : W0.cell? ⟨w.heap.size, 0, none⟩ = some (.int .i64 k) := by rw [hW0]; go_simp
  have p1 : W0.cell? ⟨w.heap.size + 1, 0, none⟩ = some (.int .i64 0) := by rw [hW0]; go_simp
  have f1 : W0.frozen? ⟨w.heap.size + 1, 0, none⟩ = false := by rw [hW0]; go_simp
  have p20 : W0.cell? ⟨w.heap.size + 2, 0, none⟩ = some (.int .i64 0) := by rw [hW0]; go_simp
  have f20 : W0.frozen? ⟨w.heap.size + 2, 0, none⟩ = false := by rw [hW0]; go_simp
  have p21 : W0.cell? ⟨w.heap.size + 2, 1, none⟩ = some (.int .i64 0) := by rw [hW0]; go_simp
  have f21 : W0.frozen? ⟨w.heap.size + 2, 1, none⟩ = false := by rw [hW0]; go_simp
  have p22 : W0.cell? ⟨w.heap.size + 2, 2, none⟩ = some (.int .i64 0) := by rw [hW0]; go_simp
  have f22 : W0.frozen? ⟨w.heap.size + 2, 2, none⟩ = false := by rw [hW0]; go_simp
  have p23 : W0.cell? ⟨w.heap.size + 2, 3, none⟩ = some (.string ⟨#[]⟩) := by rw [hW0]; go_simp
  have f23 : W0.frozen? ⟨w.heap.size + 2, 3, none⟩ = false := by rw [hW0]; go_simp
  have p3 : W0.cell? ⟨w.heap.size + 3, 0, none⟩ = some (.bool false) := by rw [hW0]; go_simp
  have f3 : W0.frozen? ⟨w.heap.size + 3, 0, none⟩ = false := by rw [hW0]; go_simp
  have q4 : W0.cell? ⟨w.heap.size + 4, 0, none⟩ = some (.pointer po) := by rw [hW0]; go_simp
  rw [← hW0]
  clear hW0
  have hrb : ∀ A, Below W0.heap.size W0 A → rowB w.heap.size A = none := fun A hA => by
    unfold rowB
    rw [(hA.cell (p := ⟨w.heap.size, 0, none⟩) (by show w.heap.size < _; omega)).trans q0]
    rfl
  refine (wpIn_wide (n := 6)).1 ?_
  refine wpIn_range_s (by omega) (gf := 44) (lb := #[.pointer (some ⟨w.heap.size + 4, 0, none⟩)]) rfl (enters_of Try.func44 (by kernel_rfl) rfl)
    (encs := encsF) (Bo := w.heap.size) (Bw := w.heap.size) (by omega) (flying_off 5 (by omega) (w.heap.size + 4) w.heap.size w.heap.size po W0 (by omega) q4 (fun W hW => HO.out W (hb0.trans (hW.mono hb0.size)))) (fun _ => rfl)
    (fun _ A => Below W0.heap.size W0 A) (fun _ _ => False) (fun _ A h => ⟨h.size, fun r hr => by rw [hrb A h] at hr; cases hr⟩) (fun _ A C h hf => h.trans ⟨hf.2.2.1, hf.2.2.2.1, hf.2.2.2.2, hf.1, fun b hb => hf.2.1 b (Nat.lt_of_lt_of_le hb h.size) (.inl hb)⟩)
    (fun _ _ _ _ _ h _ _ _ => h) (Below.refl _ _)
    (fun _ _ _ => True) (fun _ _ _ _ _ _ _ _ _ => trivial) ?assign ?body ?done ?stop
  all_goals clear hrb
  case assign =>
    intro l pre x W K hl hI hK
    unfold encsF
    obtain ⟨xi, xn, xf, xt, xb⟩ := x
    have hIs := hI.size
    gi_wp2
    exact hK _ _ ((KeepsOthers.alloc _ _).from _) (Kp.below ((Below.refl _ _).alloc (Nat.le_refl _) _) (by omega)) (hI.alloc hIs _) trivial
  case body =>
    intro l pre x a' W hl hlen hI hx
    exact absurd hlen (Nat.not_lt_zero _)
  case done =>
    intro D ys W hDw hS hIb hDd
    have hIs := hIb.size
    have e1 := (hIb.cell (p := ⟨w.heap.size + 1, 0, none⟩) (by show w.heap.size + 1 < _; omega)).trans p1
    have g1 := (hIb.frozen (p := ⟨w.heap.size + 1, 0, none⟩) (by show w.heap.size + 1 < _; omega)).trans f1
    have e20 := (hIb.cell (p := ⟨w.heap.size + 2, 0, none⟩) (by show w.heap.size + 2 < _; omega)).trans p20
    have g20 := (hIb.frozen (p := ⟨w.heap.size + 2, 0, none⟩) (by show w.heap.size + 2 < _; omega)).trans f20
    have e21 := (hIb.cell (p := ⟨w.heap.size + 2, 1, none⟩) (by show w.heap.size + 2 < _; omega)).trans p21
    have g21 := (hIb.frozen (p := ⟨w.heap.size + 2, 1, none⟩) (by show w.heap.size + 2 < _; omega)).trans f21
    have e22 := (hIb.cell (p := ⟨w.heap.size + 2, 2, none⟩) (by show w.heap.size + 2 < _; omega)).trans p22
    have g22 := (hIb.frozen (p := ⟨w.heap.size + 2, 2, none⟩) (by show w.heap.size + 2 < _; omega)).trans f22
    have e23 := (hIb.cell (p := ⟨w.heap.size + 2, 3, none⟩) (by show w.heap.size + 2 < _; omega)).trans p23
    have g23 := (hIb.frozen (p := ⟨w.heap.size + 2, 3, none⟩) (by show w.heap.size + 2 < _; omega)).trans f23
    have e3 := (hIb.cell (p := ⟨w.heap.size + 3, 0, none⟩) (by show w.heap.size + 3 < _; omega)).trans p3
    have g3 := (hIb.frozen (p := ⟨w.heap.size + 3, 0, none⟩) (by show w.heap.size + 3 < _; omega)).trans f3
    simp only [Exit.inBlock, Exit.then]
    go_wp2
    have hD2 : ∀ W', KeepsOthers W W' → W'.heap[D]? = some (.deferred (some [])) := fun W' h => h.same D _ hDd rfl
    have hI0 : Below w.heap.size w W := hb0.trans (hIb.mono (by omega))
    refine ⟨by simp, .inl ⟨_, _, rfl, run_takeDeferred (hD2 _ (by repeat (first | with_reducible refine ko_set ?_ _ _ | with_reducible refine ko_drew ?_ | with_reducible refine ko_alloc ?_ _ | with_reducible exact KeepsOthers.refl _))), ?_⟩⟩
    exact find_leave w _ D _ 0 Dg0 false _ rfl (by omega) (hD2 _ (by repeat (first | with_reducible refine ko_set ?_ _ _ | with_reducible refine ko_drew ?_ | with_reducible refine ko_alloc ?_ _ | with_reducible exact KeepsOthers.refl _))) (by repeat (first | with_reducible refine Below.setCell ?_ (by first | (simp; done) | (simp; omega) | omega) _ | with_reducible refine Below.alloc ?_ (by first | (simp; done) | (simp; omega) | omega) _ | with_reducible refine Below.drew ?_ | with_reducible refine below_drewN ?_ _ | with_reducible exact Below.refl _ _ | with_reducible refine Below.trans ?_ (Below.mono hI0 (by first | (simp; done) | (simp; omega) | omega)))) rfl rfl rfl (by go_simp) (by go_simp; rfl) (by go_simp; rfl) (by go_simp; rfl) (by go_simp; rfl) (by go_simp)
  case stop =>
    intro D pre W hDw hS hI hDd
    exact hI.elim
set_option maxHeartbeats 4000000 in
theorem between_off (po : Option Addr) (a b : Int) (w : World) (hoff : ∀ W, Below w.heap.size w W → Calls Try.prog 23 #[.pointer po] W fun e w' => e = .returned (.bool false) ∧ W = w') :
    Calls Try.prog 13 #[.pointer po, .int .i64 a, .int .i64 b] w fun e w' => e = .returned (.slice none 0 0) ∧ Below w.heap.size w w' := by
  have HO := Lib.hid hoff
  clear hoff
  refine (callsIn_wide (n := 6)).1 ?_
  refine callsIn_of_wp_marks Try.func13 rfl trivial ?_ rfl
  simp only [Try.ntmps13, List.size_toArray, List.length_cons, List.length_nil, Nat.reduceAdd, Nat.reduceSub, Array.replicate_succ, Array.replicate_zero, List.push_toArray, List.append_toArray, List.nil_append, List.cons_append]
  refine wpIn_wide.2 ?_
  go_wp2_with (fail)
  refine (flying_any _ _).mono ?_; rintro x w2 ⟨rfl, rfl⟩
  go_wp2
  obtain ⟨W0, hW0⟩ : ∃ W0, W0 = ((((w.alloc (Obj.cells #[.int .i64 a] 3)).alloc (Obj.cells #[.int .i64 b] 3)).alloc (Obj.cells #[.slice none 0 0] 37)).alloc (Obj.cells #[.pointer po] 23)) := ⟨_, rfl⟩
  have hz : W0.heap.size = w.heap.size + 4 := by rw [hW0]; simp
  have hb0 : Below w.heap.size w W0 := by rw [hW0]; exact (by repeat (first | with_reducible refine Below.setCell ?_ (by first | (simp; done) | (simp; omega) | omega) _ | with_reducible refine Below.alloc ?_ (by first | (simp; done) | (simp; omega) | omega) _ | with_reducible refine Below.drew ?_ | with_reducible refine below_drewN ?_ _ | with_reducible exact Below.refl _ _))
  have q0 : W0.cell? ⟨w.heap.size, 0, none⟩ = some (.int .i64 a) := by rw [hW0]; go_simp
  have q2 : W0.cell? ⟨w.heap.size + 2, 0, none⟩ = some (.slice none 0 0) := by rw [hW0]; go_simp
  have q3 : W0.cell? ⟨w.heap.size + 3, 0, none⟩ = some (.pointer po) := by rw [hW0]; go_simp
  rw [← hW0]
  clear hW0
  have hrb : ∀ A, Below W0.heap.size W0 A → rowB w.heap.size A = none := fun A hA => by
    unfold rowB
    rw [(hA.cell (p := ⟨w.heap.size, 0, none⟩) (by show w.heap.size < _; omega)).trans q0]
    rfl
  refine (wpIn_wide (n := 6)).1 ?_
  refine wpIn_range_s (by omega) (gf := 44) (lb := #[.pointer (some ⟨w.heap.size + 3, 0, none⟩)]) rfl (enters_of Try.func44 (by kernel_rfl) rfl)
    (encs := encsF) (Bo := w.heap.size) (Bw := w.heap.size) (by omega) (flying_off 5 (by omega) (w.heap.size + 3) w.heap.size w.heap.size po W0 (by omega) q3 (fun W hW => HO.out W (hb0.trans (hW.mono hb0.size)))) (fun _ => rfl)
    (fun _ A => Below W0.heap.size W0 A) (fun _ _ => False) (fun _ A h => ⟨h.size, fun r hr => by rw [hrb A h] at hr; cases hr⟩) (fun _ A C h hf => h.trans ⟨hf.2.2.1, hf.2.2.2.1, hf.2.2.2.2, hf.1, fun b hb => hf.2.1 b (Nat.lt_of_lt_of_le hb h.size) (.inl hb)⟩)
    (fun _ _ _ _ _ h _ _ _ => h) (Below.refl _ _)
    (fun _ _ _ => True) (fun _ _ _ _ _ _ _ _ _ => trivial) ?assign ?body ?done ?stop
  all_goals clear hrb
  case assign =>
    intro l pre x W K hl hI hK
    unfold encsF
    obtain ⟨xi, xn, xf, xt, xb⟩ := x
    have hIs := hI.size
    gi_wp2
    exact hK _ _ ((KeepsOthers.alloc _ _).from _) (Kp.below ((Below.refl _ _).alloc (Nat.le_refl _) _) (by omega)) (hI.alloc hIs _) trivial
  case body =>
    intro l pre x a' W hl hlen hI hx
    exact absurd hlen (Nat.not_lt_zero _)
  case done =>
    intro D ys W hDw hS hIb hDd
    have hIs := hIb.size
    have e2 := (hIb.cell (p := ⟨w.heap.size + 2, 0, none⟩) (by show w.heap.size + 2 < _; omega)).trans q2
    simp only [Exit.inBlock, Exit.then]
    go_wp2
    refine ⟨by simp, .inl ⟨_, _, rfl, run_takeDeferred hDd, ?_⟩⟩
    exact ⟨.slice none 0 0, by simp [results, Try.results13, go_sem, *], rfl, (hb0.trans (hIb.mono (by omega))).trans (below_putObj _ _ (by omega))⟩
  case stop =>
    intro D pre W hDw hS hI hDd
    exact hI.elim
set_option maxHeartbeats 4000000 in
theorem put_off (po : Option Addr) (a b : Int) (t : ByteArray) (w : World) (hoff : ∀ W, Below w.heap.size w W → Calls Try.prog 23 #[.pointer po] W fun e w' => e = .returned (.bool false) ∧ W = w') :
    Calls Try.prog 8 #[.pointer po, .int .i64 a, .int .i64 b, .string t] w fun e w' => e = .returned (.tuple #[.int .i64 0, .int .i64 30]) ∧ Below w.heap.size w w' := by
  have HO := Lib.hid hoff
  clear hoff
  go_enter Try.func8, Try.ntmps8
  go_wp2_with (fail)
  refine (HO.out _ (by repeat (first | with_reducible refine Below.setCell ?_ (by first | (simp; done) | (simp; omega) | omega) _ | with_reducible refine Below.alloc ?_ (by first | (simp; done) | (simp; omega) | omega) _ | with_reducible refine Below.drew ?_ | with_reducible refine below_drewN ?_ _ | with_reducible exact Below.refl _ _))).mono ?_; rintro e w1 ⟨rfl, rfl⟩
  go_wp2
  go_ret2
  exact ⟨rfl, (by repeat (first | with_reducible refine Below.setCell ?_ (by first | (simp; done) | (simp; omega) | omega) _ | with_reducible refine Below.alloc ?_ (by first | (simp; done) | (simp; omega) | omega) _ | with_reducible refine Below.drew ?_ | with_reducible refine below_drewN ?_ _ | with_reducible exact Below.refl _ _))⟩
set_option maxHeartbeats 4000000 in
theorem double_off (po : Option Addr) (k : Int) (w : World) (hoff : ∀ W, Below w.heap.size w W → Calls Try.prog 23 #[.pointer po] W fun e w' => e = .returned (.bool false) ∧ W = w') :
    Calls Try.prog 9 #[.pointer po, .int .i64 k] w fun e w' => e = .returned (.tuple #[.int .i64 0, .int .i64 30]) ∧ Below w.heap.size w w' := by
  have HO := Lib.hid hoff
  clear hoff
  go_enter Try.func9, Try.ntmps9
  go_wp2_with (fail)
  refine (HO.out _ (by repeat (first | with_reducible refine Below.setCell ?_ (by first | (simp; done) | (simp; omega) | omega) _ | with_reducible refine Below.alloc ?_ (by first | (simp; done) | (simp; omega) | omega) _ | with_reducible refine Below.drew ?_ | with_reducible refine below_drewN ?_ _ | with_reducible exact Below.refl _ _))).mono ?_; rintro e w1 ⟨rfl, rfl⟩
  go_wp2
  go_ret2
  exact ⟨rfl, (by repeat (first | with_reducible refine Below.setCell ?_ (by first | (simp; done) | (simp; omega) | omega) _ | with_reducible refine Below.alloc ?_ (by first | (simp; done) | (simp; omega) | omega) _ | with_reducible refine Below.drew ?_ | with_reducible refine below_drewN ?_ _ | with_reducible exact Below.refl _ _))⟩
set_option maxHeartbeats 4000000 in
theorem forget_off (po : Option Addr) (a : Int) (w : World) (hoff : ∀ W, Below w.heap.size w W → Calls Try.prog 23 #[.pointer po] W fun e w' => e = .returned (.bool false) ∧ W = w') :
    Calls Try.prog 15 #[.pointer po, .int .i64 a] w fun e w' => e = .returned (.int .i64 0) ∧ Below w.heap.size w w' := by
  have HO := Lib.hid hoff
  clear hoff
  go_enter Try.func15, Try.ntmps15
  go_wp2_with (fail)
  refine (HO.out _ (by repeat (first | with_reducible refine Below.setCell ?_ (by first | (simp; done) | (simp; omega) | omega) _ | with_reducible refine Below.alloc ?_ (by first | (simp; done) | (simp; omega) | omega) _ | with_reducible refine Below.drew ?_ | with_reducible refine below_drewN ?_ _ | with_reducible exact Below.refl _ _))).mono ?_; rintro e w1 ⟨rfl, rfl⟩
  go_wp2
  go_ret
  exact ⟨rfl, (by repeat (first | with_reducible refine Below.setCell ?_ (by first | (simp; done) | (simp; omega) | omega) _ | with_reducible refine Below.alloc ?_ (by first | (simp; done) | (simp; omega) | omega) _ | with_reducible refine Below.drew ?_ | with_reducible refine below_drewN ?_ _ | with_reducible exact Below.refl _ _))⟩
set_option maxHeartbeats 4000000 in
theorem len_off (po : Option Addr)  (w : World) (hoff : ∀ W, Below w.heap.size w W → Calls Try.prog 23 #[.pointer po] W fun e w' => e = .returned (.bool false) ∧ W = w') :
    Calls Try.prog 10 #[.pointer po] w fun e w' => e = .returned (.int .i64 0) ∧ Below w.heap.size w w' := by
  have HO := Lib.hid hoff
  clear hoff
  go_enter Try.func10, Try.ntmps10
  go_wp2_with (fail)
  refine (HO.out _ (by repeat (first | with_reducible refine Below.setCell ?_ (by first | (simp; done) | (simp; omega) | omega) _ | with_reducible refine Below.alloc ?_ (by first | (simp; done) | (simp; omega) | omega) _ | with_reducible refine Below.drew ?_ | with_reducible refine below_drewN ?_ _ | with_reducible exact Below.refl _ _))).mono ?_; rintro e w1 ⟨rfl, rfl⟩
  go_wp2
  go_ret
  exact ⟨rfl, (by repeat (first | with_reducible refine Below.setCell ?_ (by first | (simp; done) | (simp; omega) | omega) _ | with_reducible refine Below.alloc ?_ (by first | (simp; done) | (simp; omega) | omega) _ | with_reducible refine Below.drew ?_ | with_reducible refine below_drewN ?_ _ | with_reducible exact Below.refl _ _))⟩
set_option maxHeartbeats 4000000 in
theorem sever_off (po : Option Addr) (a b : Int) (w : World) (hoff : ∀ W, Below w.heap.size w W → Calls Try.prog 23 #[.pointer po] W fun e w' => e = .returned (.bool false) ∧ W = w') :
    Calls Try.prog 12 #[.pointer po, .int .i64 a, .int .i64 b] w fun e w' => e = .returned (.int .i64 0) ∧ Below w.heap.size w w' := by
  have HO := Lib.hid hoff
  clear hoff
  go_enter Try.func12, Try.ntmps12
  go_wp2_with (fail)
  refine (HO.out _ (by repeat (first | with_reducible refine Below.setCell ?_ (by first | (simp; done) | (simp; omega) | omega) _ | with_reducible refine Below.alloc ?_ (by first | (simp; done) | (simp; omega) | omega) _ | with_reducible refine Below.drew ?_ | with_reducible refine below_drewN ?_ _ | with_reducible exact Below.refl _ _))).mono ?_; rintro e w1 ⟨rfl, rfl⟩
  go_wp2
  go_ret
  exact ⟨rfl, (by repeat (first | with_reducible refine Below.setCell ?_ (by first | (simp; done) | (simp; omega) | omega) _ | with_reducible refine Below.alloc ?_ (by first | (simp; done) | (simp; omega) | omega) _ | with_reducible refine Below.drew ?_ | with_reducible refine below_drewN ?_ _ | with_reducible exact Below.refl _ _))⟩
set_option maxHeartbeats 4000000 in
theorem take_off (po : Option Addr) (k : Int) (w : World) (hoff : ∀ W, Below w.heap.size w W → Calls Try.prog 23 #[.pointer po] W fun e w' => e = .returned (.bool false) ∧ W = w') :
    Calls Try.prog 11 #[.pointer po, .int .i64 k] w fun e w' => e = .returned (.tuple #[dAgg Dg0, .int .i64 31]) ∧ Below w.heap.size w w' := by
  have cf := fun (W : World) (hb : Below w.heap.size w W) => find_off po k W (fun W' hW' => hoff W' (hb.trans (hW'.mono hb.size)))
  have CF := Lib.hid cf
  clear cf hoff
  go_enter Try.func11, Try.ntmps11
  go_wp2_with (fail)
  refine (CF.out _ (by repeat (first | with_reducible refine Below.setCell ?_ (by first | (simp; done) | (simp; omega) | omega) _ | with_reducible refine Below.alloc ?_ (by first | (simp; done) | (simp; omega) | omega) _ | with_reducible refine Below.drew ?_ | with_reducible refine below_drewN ?_ _ | with_reducible exact Below.refl _ _))).mono ?_; rintro e w1 ⟨rfl, hb1⟩
  obtain ⟨hc, hf⟩ := bcell hb1
  have hz : w.heap.size < w1.heap.size := by have := hb1.size; simp at this; omega
  go_wp2
  exact bodyPost_ret (v := .tuple #[dAgg Dg0, .int .i64 31]) (by simp [results, Try.results11, go_sem, hc, hz]; exact ⟨rfl, rfl, rfl, rfl⟩) rfl ⟨rfl, (by repeat (first | with_reducible refine Below.setCell ?_ (by first | (simp; done) | (simp; omega) | omega) _ | with_reducible refine Below.alloc ?_ (by first | (simp; done) | (simp; omega) | omega) _ | with_reducible refine Below.drew ?_ | with_reducible refine below_drewN ?_ _ | with_reducible exact Below.refl _ _ | with_reducible refine Below.trans ?_ (Below.mono hb1 (by first | (simp; done) | (simp; omega) | omega))))⟩
theorem mend_off (po : Option Addr) (a b : Int) (w : World) (hoff : ∀ W, Below w.heap.size w W → Calls Try.prog 23 #[.pointer po] W fun e w' => e = .returned (.bool false) ∧ W = w') :
    Calls Try.prog 14 #[.pointer po, .int .i64 a, .int .i64 b] w fun e w' => e = .returned (.bool false) ∧ Below w.heap.size w w' := by
  have ht := fun (W : World) (hb : Below w.heap.size w W) => (hoff W hb).mono (R' := fun e w' => e = .returned (.bool false) ∧ Below W.heap.size W w') (fun e w' h => ⟨h.1, h.2 ▸ Below.refl _ _⟩)
  have HT := Lib.hid ht
  clear ht hoff
  go_enter Try.func14, Try.ntmps14
  go_wp2
  refine wp_region_quietC_lit (KeptC w [] []) (by kernel_rfl) (by kernel_rfl) ?_ ?_
  · refine KeptC.drewn ?_
    repeat' (first | refine KeptC.cons ?_ ?_ | refine KeptC.consF ?_ ?_ ?_ | refine KeptC.mk0 ?_)
    all_goals (first | with_reducible assumption | (go_simp; done) | (simp; omega) | exact (by repeat (first | with_reducible refine Below.setCell ?_ (by first | (simp; done) | (simp; omega) | omega) _ | with_reducible refine Below.alloc ?_ (by first | (simp; done) | (simp; omega) | omega) _ | with_reducible refine Below.drew ?_ | with_reducible refine below_drewN ?_ _ | with_reducible exact Below.refl _ _)))
  repeat (first
    | go_big_quiet_skip
    | (go_big_quiet_want; (apply quietC_run); (· intro w' hw'; (have hk' := hw'; simp only [KeptC, List.forall_mem_cons] at hk'; go_split_ands); go_simp; first | done | rfl); (simp only [Act.put, List.setIfInBounds_toArray, List.set_cons_zero, List.set_cons_succ]; go_big_quiet_on))
    | (go_big_quiet_want; (apply quietC_call); (· intro w' hw'; go_simp; first | done | exact ⟨rfl, rfl⟩ | rfl); (· intro w' hw'; first | ((with_reducible refine (HT.out _ (KeptC.low hw')).mono ?_); rintro e w2 ⟨rfl, hb⟩; exact ⟨rfl, hw'.below hb⟩)); (simp only [Act.put, List.setIfInBounds_toArray, List.set_cons_zero, List.set_cons_succ]; go_big_quiet_on)))
  refine wpQuiet_nil ?_
  intro w9 hk9
  (have hk' := hk9; simp only [KeptC, List.forall_mem_cons] at hk'; go_split_ands); have hkB9 := hk9.1
  go_wp2
  go_ret
  exact ⟨rfl, hkB9⟩
theorem state_off (po : Option Addr) (w : World) (hoff : ∀ W, Below w.heap.size w W → Calls Try.prog 23 #[.pointer po] W fun e w' => e = .returned (.bool false) ∧ W = w') :
    Calls Try.prog 18 #[.pointer po] w fun e w' => e = .returned (mAgg 0 (.slice none 0 0) (.slice none 0 0)) ∧ Below w.heap.size w w' := by
  have HO := Lib.hid hoff
  clear hoff
  go_enter Try.func18, Try.ntmps18
  go_wp2_with (fail)
  refine (HO.out _ (by repeat (first | with_reducible refine Below.setCell ?_ (by first | (simp; done) | (simp; omega) | omega) _ | with_reducible refine Below.alloc ?_ (by first | (simp; done) | (simp; omega) | omega) _ | with_reducible refine Below.drew ?_ | with_reducible refine below_drewN ?_ _ | with_reducible exact Below.refl _ _))).mono ?_; rintro e w1 ⟨rfl, rfl⟩
  go_wp2
  exact bodyPost_ret (v := mAgg 0 (.slice none 0 0) (.slice none 0 0)) (by simp [results, Try.results18, go_sem, *]) rfl ⟨rfl, (by repeat (first | with_reducible refine Below.setCell ?_ (by first | (simp; done) | (simp; omega) | omega) _ | with_reducible refine Below.alloc ?_ (by first | (simp; done) | (simp; omega) | omega) _ | with_reducible refine Below.drew ?_ | with_reducible refine below_drewN ?_ _ | with_reducible exact Below.refl _ _))⟩
end Go.Proofs.Ytdaobbffhfbceaa
