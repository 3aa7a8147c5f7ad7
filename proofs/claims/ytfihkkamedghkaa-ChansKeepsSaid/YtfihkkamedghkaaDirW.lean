/- put of dir's reference: what each call computes, for every list. -/
import Derived.Test.YtfihkkamedghkaaDirK
namespace Go.Proofs.Ytfihkkamedghkaa
open Go.RowKit
set_option linter.unusedVariables false
theorem below_drewN {B : Nat} {a w : World} (h : Below B a w) (n : Nat) : Below B a (w.drewN n) := ⟨h.os, h.tape, h.output, h.size, h.block⟩
theorem wpList_app1 {w : World} {ops : Array Oper} {rest : List Oper} {o : Oper} {a : Act} {Q : Exit → Act → World → Prop} (hgd : o.guard = none) (s x : Operand)
    (ho : o.op = .call { callee := .builtin .append, args := #[s, x], argTypes := #[46, 46] }) (base : Nat) (OL : List Ch) (A : Option Addr) (cp : Nat) (hs : a.eval s = .slice A OL.length cp)
    (hown : w.ownsRow base 38 6 (.slice A OL.length cp) OL.length (flatC OL)) (ad : Addr) (m : Nat) (hx : a.eval x = .slice (some ad) 1 m) (c : Ch) (hc : ∀ j u, (chV c)[j]? = some u → w.cell? (ad.add j) = some u)
    (hm : OL.length < 2513169434850) (hbase : base ≤ w.heap.size)
    (h : ∀ OL' A' cp' w', OL' = OL ++ [c] → w'.ownsRow base 38 6 (.slice A' OL'.length cp') OL'.length (flatC OL') → Below base w w' → wpList Try.prog ops Q rest (a.put o.dst (.slice A' OL'.length cp')) w') :
    wpList Try.prog ops Q (o :: rest) a w := by
  obtain ⟨i0, hi0, hz0, hz1, hz2⟩ := info_parts chan_inf
  refine wpList_append_own_at w hgd s x _ ho base 38 i0 _ 6 56 Try.underlying46 hi0 hz0 hz1 hz2 rfl (by omega) _ _ _ hs hown ad 1 m (chV c) hx rfl hc (chV_one c) (by simp only [maxLen]; omega) (by omega) hbase ?_
  intro v' w' h1 h2 _ _
  obtain ⟨hb, _⟩ := row_grown hown h2 hbase
  rw [← flatC_snoc, show OL.length + 1 = (OL ++ [c]).length by simp] at h1
  obtain ⟨A', cp', rfl⟩ := row_slice h1
  exact h _ A' cp' w' rfl h1 hb
theorem put_step {c x : Ch} {rs OL : List Ch} {k : Nat} {b : Bool} (hx : rs[k]? = some x) (h : (rs.take k).foldl (putS c) ([], false) = (OL, b)) : (rs.take (k + 1)).foldl (putS c) ([], false) = putS c (OL, b) x := by
  obtain ⟨hk, e⟩ := List.getElem?_eq_some_iff.1 hx
  rw [List.take_succ_eq_append_getElem hk, List.foldl_append, h, e]
  rfl
theorem put_end {c : Ch} {rs OL : List Ch} {k : Nat} {b : Bool} (hk : rs.length = k) (h : (rs.take k).foldl (putS c) ([], false) = (OL, b)) : putF c rs = if b = true then OL else OL ++ [c] := by
  rw [List.take_of_length_le (by omega)] at h
  unfold putF
  rw [h]
theorem kept6 {w W : World} {a0 a1 a2 a3 a4 a5 : Addr} {v0 v1 v2 v3 v4 v5 : Value} (h : KeptC w [(a0, v0), (a1, v1), (a2, v2), (a3, v3), (a4, v4), (a5, v5)] [] W) :
    Below w.heap.size w W ∧ W.cell? a0 = some v0 ∧ W.cell? a1 = some v1 ∧ W.cell? a2 = some v2 ∧ W.cell? a3 = some v3 ∧ W.cell? a4 = some v4 ∧ W.cell? a5 = some v5 := by
  simp only [KeptC, List.forall_mem_cons] at h
  obtain ⟨h0, ⟨h1, h2, h3, h4, h5, h6, _⟩, _⟩ := h
  exact ⟨h0, h1, h2, h3, h4, h5, h6⟩
set_option maxRecDepth 100000 in
set_option maxHeartbeats 8000000 in
theorem rput_any (A : Option Addr) (n cp : Nat) (rs : List Ch) (s : ByteArray) (e m : Int) (al : Bool) (k0 sc : Int) (w : World) (hr : ChsAt w w.heap.size A n rs) (hm : n * 56 ≤ 140737488351232) :
    Calls Try.prog 75 #[.slice A n cp, .agg #[.string s, .int .i64 e, .int .i64 m, .bool al, .int .i64 k0, .int .i64 sc]] w fun x w' => ∃ lv, x = .returned lv ∧ OwnC w' w.heap.size lv (putF ⟨s, e, m, al, k0, sc⟩ rs) ∧ Below w.heap.size w w' := by
  have HR := Lib.hid hr
  clear hr
  have hpt : ∀ x ∈ ([(⟨w.heap.size, 0, none⟩, .string s), (⟨w.heap.size, 1, none⟩, .int .i64 e), (⟨w.heap.size, 2, none⟩, .int .i64 m), (⟨w.heap.size, 3, none⟩, .bool al), (⟨w.heap.size, 4, none⟩, .int .i64 k0), (⟨w.heap.size, 5, none⟩, .int .i64 sc)] : List (Addr × Value)), x.1.block < w.heap.size + 1 := by
    intro x hx
    simp only [List.mem_cons, List.not_mem_nil, or_false] at hx
    rcases hx with rfl | rfl | rfl | rfl | rfl | rfl <;> simp
  have HPT := Lib.hid hpt
  clear hpt
  go_enter Try.func75, Try.ntmps75
  go_wp2
  go_loopw [5, 6, 7] (fun v d i w' => ∃ (k : Nat) (A2 : Option Addr) (cp2 : Nat) (OL : List Ch) (b : Bool), k ≤ n ∧ i = .int .i64 k ∧ d = .bool b ∧ v = .slice A2 OL.length cp2 ∧ Hid ((rs.take k).foldl (putS ⟨s, e, m, al, k0, sc⟩) ([], false) = (OL, b)) ∧ Hid (w'.ownsRow (w.heap.size + 1) 38 6 (.slice A2 OL.length cp2) OL.length (flatC OL)) ∧ OL.length ≤ k + 1 ∧ (b = false → OL.length ≤ k) ∧ KeptC w [(⟨w.heap.size, 0, none⟩, .string s), (⟨w.heap.size, 1, none⟩, .int .i64 e), (⟨w.heap.size, 2, none⟩, .int .i64 m), (⟨w.heap.size, 3, none⟩, .bool al), (⟨w.heap.size, 4, none⟩, .int .i64 k0), (⟨w.heap.size, 5, none⟩, .int .i64 sc)] [] w') (fun _ _ i _ => n - (intOf i).toNat)
  case atStart => exact ⟨0, none, 0, [], false, Nat.zero_le _, rfl, rfl, rfl, Lib.hid rfl, Lib.hid ⟨rfl, .inl ⟨rfl, rfl⟩⟩, by simp, by simp, (by (repeat' (first | refine KeptC.cons ?_ ?_ | refine KeptC.consF ?_ ?_ ?_ | refine KeptC.mk0 ?_)); all_goals (first | with_reducible assumption | (go_simp; done) | (simp; omega) | exact (by repeat (first | with_reducible refine Below.setCell ?_ (by first | (simp; done) | (simp; omega) | omega) _ | with_reducible refine Below.alloc ?_ (by first | (simp; done) | (simp; omega) | omega) _ | with_reducible refine Below.drew ?_ | with_reducible refine below_drewN ?_ _ | with_reducible exact Below.refl _ _))))⟩
  case round =>
    obtain ⟨k, A2, cp2, OL, b, hk, rfl, rfl, rfl, HF, HRW, hol, hof, hK⟩ := hrel
    have HK0 := Lib.hid hK
    simp only [KeptC, List.forall_mem_cons] at hK; obtain ⟨kb0, ⟨kc0_0, kc0_1, kc0_2, kc0_3, kc0_4, kc0_5, _⟩, _⟩ := hK
    have hBx : w.heap.size < wr.heap.size := cell_lt kc0_0
    by_cases hlt : k < n
    rotate_left
    · obtain rfl : k = n := by omega
      cases b with
      | true =>
        go_wp2
        go_ret
        refine ⟨_, rfl, ?_, kb0⟩
        rw [put_end HR.out.1 HF.out]
        exact OwnC.less (base := w.heap.size + 1) HRW.out (by omega)
      | false =>
        have hof := hof rfl
        go_wp2_with (at_builtin; go_must (refine wpList_app1 rfl _ _ rfl (w.heap.size + 1) OL A2 cp2 rfl (by exact row_low HRW.out (by repeat (first | with_reducible refine Below.setCell ?_ (by first | (simp; done) | (simp; omega) | omega) _ | with_reducible refine Below.alloc ?_ (by first | (simp; done) | (simp; omega) | omega) _ | with_reducible refine Below.drew ?_ | with_reducible refine below_drewN ?_ _ | with_reducible exact Below.refl _ _)) (Nat.le_refl _)) ⟨wr.heap.size, 0, none⟩ 1 rfl ⟨s, e, m, al, k0, sc⟩ (by exact cells_new _ ⟨s, e, m, al, k0, sc⟩) (by omega) (by first | (simp; done) | (simp; omega) | omega) ?_); intro OL3 A3 cp3 w3 hO3 hown3 hb3; have hL3 : OL3.length ≤ OL.length + 1 := (by rw [hO3]; simp); have hK3 := keptC_low (HK0.out.below (by repeat (first | with_reducible refine Below.setCell ?_ (by first | (simp; done) | (simp; omega) | omega) _ | with_reducible refine Below.alloc ?_ (by first | (simp; done) | (simp; omega) | omega) _ | with_reducible refine Below.drew ?_ | with_reducible refine below_drewN ?_ _ | with_reducible exact Below.refl _ _))) hb3 (by omega) HPT.out (fun a ha => by cases ha); have HK3 := Lib.hid hK3; have HW3 := Lib.hid hown3; have HO3 := Lib.hid hO3; obtain ⟨kb3, kd3_0, kd3_1, kd3_2, kd3_3, kd3_4, kd3_5⟩ := kept6 hK3; have hbs3 : w.heap.size < w3.heap.size := cell_lt kd3_0; clear hown3 hb3 hK3 hO3)
        go_ret
        refine ⟨_, rfl, ?_, kb3⟩
        rw [put_end HR.out.1 HF.out]
        rw [if_neg (by simp), ← HO3.out]
        exact OwnC.less (base := w.heap.size + 1) HW3.out (by omega)
    · obtain ⟨ad, x, hA, hab, hx, hsz, hc6⟩ := HR.out.get hlt
      subst hA
      obtain ⟨p, hp⟩ : ∃ p, ad.add (k * 6) = p := ⟨_, rfl⟩
      have hpb : p.block < w.heap.size := by rw [← hp, block_of_add]; exact hab
      rw [hp] at hc6
      have hws := kb0.size
      have hpw : p.block < wr.heap.size := by omega
      have hc6' := hc6.below hpb kb0
      obtain ⟨c0, c1, c2, c3, c4, c5⟩ := hc6'
      obtain ⟨xs, xe, xm, xa, xk, xc⟩ := x
      have HX := Lib.hid hx
      clear hx hsz
      simp only [] at c0 c1 c2 c3 c4 c5
      cases b with
      | true =>
        cases he : eqN xs s with
        | true =>
          have HE := Lib.hid he
          unfold eqN at he
          clear hc6
          go_wp2_with (fail)
          go_quiet (fail)
          go_wp2_with (fail)
          go_quiet (fail)
          go_wp2
          go_roundw
          case rel => exact ⟨k + 1, A2, cp2, OL, true, by omega, by go_num, rfl, rfl, Lib.hid (by rw [put_step HX.out HF.out]; simp [putS, HE.out]), HRW, by omega, (by intro h; first | omega | cases h), (by (repeat' (first | refine KeptC.cons ?_ ?_ | refine KeptC.consF ?_ ?_ ?_ | refine KeptC.mk0 ?_)); all_goals (first | with_reducible assumption | (go_simp; done) | (simp; omega) | exact (by repeat (first | with_reducible refine Below.setCell ?_ (by first | (simp; done) | (simp; omega) | omega) _ | with_reducible refine Below.alloc ?_ (by first | (simp; done) | (simp; omega) | omega) _ | with_reducible refine Below.drew ?_ | with_reducible refine below_drewN ?_ _ | with_reducible exact Below.refl _ _ | with_reducible refine Below.trans ?_ (Below.mono kb0 (by first | (simp; done) | (simp; omega) | omega))))))⟩
          case measure => simp [intOf]; omega
        | false =>
          have HE := Lib.hid he
          unfold eqN at he
          go_wp2_with (fail)
          go_quiet (fail)
          go_wp2_with (fail)
          go_quiet (fail)
          go_wp2_with (at_builtin; go_must (refine wpList_app1 rfl _ _ rfl (w.heap.size + 1) OL A2 cp2 rfl (by exact row_low HRW.out (by repeat (first | with_reducible refine Below.setCell ?_ (by first | (simp; done) | (simp; omega) | omega) _ | with_reducible refine Below.alloc ?_ (by first | (simp; done) | (simp; omega) | omega) _ | with_reducible refine Below.drew ?_ | with_reducible refine below_drewN ?_ _ | with_reducible exact Below.refl _ _)) (Nat.le_refl _)) ⟨wr.heap.size, 0, none⟩ 1 rfl ⟨xs, xe, xm, xa, xk, xc⟩ (by exact cells_new _ ⟨xs, xe, xm, xa, xk, xc⟩) (by omega) (by first | (simp; done) | (simp; omega) | omega) ?_); intro OL3 A3 cp3 w3 hO3 hown3 hb3; have hL3 : OL3.length ≤ OL.length + 1 := (by rw [hO3]; simp); have hK3 := keptC_low (HK0.out.below (by repeat (first | with_reducible refine Below.setCell ?_ (by first | (simp; done) | (simp; omega) | omega) _ | with_reducible refine Below.alloc ?_ (by first | (simp; done) | (simp; omega) | omega) _ | with_reducible refine Below.drew ?_ | with_reducible refine below_drewN ?_ _ | with_reducible exact Below.refl _ _))) hb3 (by omega) HPT.out (fun a ha => by cases ha); have HK3 := Lib.hid hK3; have HW3 := Lib.hid hown3; have HO3 := Lib.hid hO3; obtain ⟨kb3, kd3_0, kd3_1, kd3_2, kd3_3, kd3_4, kd3_5⟩ := kept6 hK3; have hbs3 : w.heap.size < w3.heap.size := cell_lt kd3_0; clear hown3 hb3 hK3 hO3; have hx3 := hc6.below hpb kb3; obtain ⟨c3_0, c3_1, c3_2, c3_3, c3_4, c3_5⟩ := hx3; have hpw3 : p.block < w3.heap.size := (by omega))
          go_roundw
          case rel => exact ⟨k + 1, A3, cp3, OL3, true, by omega, by go_num, rfl, rfl, Lib.hid (by rw [put_step HX.out HF.out, HO3.out]; simp [putS, HE.out]), HW3, by omega, (by intro h; first | omega | cases h), HK3.out⟩
          case measure => simp [intOf]; omega
      | false =>
        have hof := hof rfl
        cases hl : ltN xs s with
        | true =>
          have he := ltN_eqN hl
          have HE := Lib.hid he; have HL := Lib.hid hl
          unfold eqN at he
          unfold ltN at hl
          go_wp2_with (fail)
          go_quiet (fail)
          go_wp2_with (fail)
          go_quiet (fail)
          go_wp2_with (at_builtin; go_must (refine wpList_app1 rfl _ _ rfl (w.heap.size + 1) OL A2 cp2 rfl (by exact row_low HRW.out (by repeat (first | with_reducible refine Below.setCell ?_ (by first | (simp; done) | (simp; omega) | omega) _ | with_reducible refine Below.alloc ?_ (by first | (simp; done) | (simp; omega) | omega) _ | with_reducible refine Below.drew ?_ | with_reducible refine below_drewN ?_ _ | with_reducible exact Below.refl _ _)) (Nat.le_refl _)) ⟨wr.heap.size, 0, none⟩ 1 rfl ⟨xs, xe, xm, xa, xk, xc⟩ (by exact cells_new _ ⟨xs, xe, xm, xa, xk, xc⟩) (by omega) (by first | (simp; done) | (simp; omega) | omega) ?_); intro OL3 A3 cp3 w3 hO3 hown3 hb3; have hL3 : OL3.length ≤ OL.length + 1 := (by rw [hO3]; simp); have hK3 := keptC_low (HK0.out.below (by repeat (first | with_reducible refine Below.setCell ?_ (by first | (simp; done) | (simp; omega) | omega) _ | with_reducible refine Below.alloc ?_ (by first | (simp; done) | (simp; omega) | omega) _ | with_reducible refine Below.drew ?_ | with_reducible refine below_drewN ?_ _ | with_reducible exact Below.refl _ _))) hb3 (by omega) HPT.out (fun a ha => by cases ha); have HK3 := Lib.hid hK3; have HW3 := Lib.hid hown3; have HO3 := Lib.hid hO3; obtain ⟨kb3, kd3_0, kd3_1, kd3_2, kd3_3, kd3_4, kd3_5⟩ := kept6 hK3; have hbs3 : w.heap.size < w3.heap.size := cell_lt kd3_0; clear hown3 hb3 hK3 hO3; have hx3 := hc6.below hpb kb3; obtain ⟨c3_0, c3_1, c3_2, c3_3, c3_4, c3_5⟩ := hx3; have hpw3 : p.block < w3.heap.size := (by omega))
          go_roundw
          case rel => exact ⟨k + 1, A3, cp3, OL3, false, by omega, by go_num, rfl, rfl, Lib.hid (by rw [put_step HX.out HF.out, HO3.out]; simp [putS, HE.out, HL.out]), HW3, by omega, (by intro h; first | omega | cases h), HK3.out⟩
          case measure => simp [intOf]; omega
        | false =>
          cases he : eqN xs s with
          | true =>
            have HE := Lib.hid he; have HL := Lib.hid hl
            unfold eqN at he
            unfold ltN at hl
            go_wp2_with (fail)
            go_quiet (fail)
            go_wp2_with (at_builtin; go_must (refine wpList_app1 rfl _ _ rfl (w.heap.size + 1) OL A2 cp2 rfl (by exact row_low HRW.out (by repeat (first | with_reducible refine Below.setCell ?_ (by first | (simp; done) | (simp; omega) | omega) _ | with_reducible refine Below.alloc ?_ (by first | (simp; done) | (simp; omega) | omega) _ | with_reducible refine Below.drew ?_ | with_reducible refine below_drewN ?_ _ | with_reducible exact Below.refl _ _)) (Nat.le_refl _)) ⟨wr.heap.size, 0, none⟩ 1 rfl ⟨s, e, m, al, k0, sc⟩ (by exact cells_new _ ⟨s, e, m, al, k0, sc⟩) (by omega) (by first | (simp; done) | (simp; omega) | omega) ?_); intro OL3 A3 cp3 w3 hO3 hown3 hb3; have hL3 : OL3.length ≤ OL.length + 1 := (by rw [hO3]; simp); have hK3 := keptC_low (HK0.out.below (by repeat (first | with_reducible refine Below.setCell ?_ (by first | (simp; done) | (simp; omega) | omega) _ | with_reducible refine Below.alloc ?_ (by first | (simp; done) | (simp; omega) | omega) _ | with_reducible refine Below.drew ?_ | with_reducible refine below_drewN ?_ _ | with_reducible exact Below.refl _ _))) hb3 (by omega) HPT.out (fun a ha => by cases ha); have HK3 := Lib.hid hK3; have HW3 := Lib.hid hown3; have HO3 := Lib.hid hO3; obtain ⟨kb3, kd3_0, kd3_1, kd3_2, kd3_3, kd3_4, kd3_5⟩ := kept6 hK3; have hbs3 : w.heap.size < w3.heap.size := cell_lt kd3_0; clear hown3 hb3 hK3 hO3; have hx3 := hc6.below hpb kb3; obtain ⟨c3_0, c3_1, c3_2, c3_3, c3_4, c3_5⟩ := hx3; have hpw3 : p.block < w3.heap.size := (by omega))
            go_quiet (fail)
            go_wp2
            go_roundw
            case rel => exact ⟨k + 1, A3, cp3, OL3, true, by omega, by go_num, rfl, rfl, Lib.hid (by rw [put_step HX.out HF.out, HO3.out]; simp [putS, HE.out, HL.out]), Lib.hid (row_low HW3.out (by repeat (first | with_reducible refine Below.setCell ?_ (by first | (simp; done) | (simp; omega) | omega) _ | with_reducible refine Below.alloc ?_ (by first | (simp; done) | (simp; omega) | omega) _ | with_reducible refine Below.drew ?_ | with_reducible refine below_drewN ?_ _ | with_reducible exact Below.refl _ _)) (Nat.le_refl _)), by omega, (by intro h; first | omega | cases h), HK3.out.below (by repeat (first | with_reducible refine Below.setCell ?_ (by first | (simp; done) | (simp; omega) | omega) _ | with_reducible refine Below.alloc ?_ (by first | (simp; done) | (simp; omega) | omega) _ | with_reducible refine Below.drew ?_ | with_reducible refine below_drewN ?_ _ | with_reducible exact Below.refl _ _))⟩
            case measure => simp [intOf]; omega
          | false =>
            have HE := Lib.hid he; have HL := Lib.hid hl
            unfold eqN at he
            unfold ltN at hl
            have HBS : k * 56 ≤ 140737488351232 := by omega
            go_wp2_with (fail)
            go_quiet (fail)
            go_wp2_with (at_builtin; go_must (refine wpList_app1 rfl _ _ rfl (w.heap.size + 1) OL A2 cp2 rfl (by exact row_low HRW.out (by repeat (first | with_reducible refine Below.setCell ?_ (by first | (simp; done) | (simp; omega) | omega) _ | with_reducible refine Below.alloc ?_ (by first | (simp; done) | (simp; omega) | omega) _ | with_reducible refine Below.drew ?_ | with_reducible refine below_drewN ?_ _ | with_reducible exact Below.refl _ _)) (Nat.le_refl _)) ⟨wr.heap.size, 0, none⟩ 1 rfl ⟨s, e, m, al, k0, sc⟩ (by exact cells_new _ ⟨s, e, m, al, k0, sc⟩) (by omega) (by first | (simp; done) | (simp; omega) | omega) ?_); intro OL3 A3 cp3 w3 hO3 hown3 hb3; have hL3 : OL3.length ≤ OL.length + 1 := (by rw [hO3]; simp); have hK3 := keptC_low (HK0.out.below (by repeat (first | with_reducible refine Below.setCell ?_ (by first | (simp; done) | (simp; omega) | omega) _ | with_reducible refine Below.alloc ?_ (by first | (simp; done) | (simp; omega) | omega) _ | with_reducible refine Below.drew ?_ | with_reducible refine below_drewN ?_ _ | with_reducible exact Below.refl _ _))) hb3 (by omega) HPT.out (fun a ha => by cases ha); have HK3 := Lib.hid hK3; have HW3 := Lib.hid hown3; have HO3 := Lib.hid hO3; obtain ⟨kb3, kd3_0, kd3_1, kd3_2, kd3_3, kd3_4, kd3_5⟩ := kept6 hK3; have hbs3 : w.heap.size < w3.heap.size := cell_lt kd3_0; clear hown3 hb3 hK3 hO3; have hx3 := hc6.below hpb kb3; obtain ⟨c3_0, c3_1, c3_2, c3_3, c3_4, c3_5⟩ := hx3; have hpw3 : p.block < w3.heap.size := (by omega))
            go_quiet (fail)
            go_wp2_with (at_builtin; go_must (refine wpList_app1 rfl _ _ rfl (w.heap.size + 1) OL3 A3 cp3 rfl (by exact row_low HW3.out (by repeat (first | with_reducible refine Below.setCell ?_ (by first | (simp; done) | (simp; omega) | omega) _ | with_reducible refine Below.alloc ?_ (by first | (simp; done) | (simp; omega) | omega) _ | with_reducible refine Below.drew ?_ | with_reducible refine below_drewN ?_ _ | with_reducible exact Below.refl _ _)) (Nat.le_refl _)) ⟨w3.heap.size, 0, none⟩ 1 rfl ⟨xs, xe, xm, xa, xk, xc⟩ (by exact cells_new _ ⟨xs, xe, xm, xa, xk, xc⟩) (by omega) (by first | (simp; done) | (simp; omega) | omega) ?_); intro OL4 A4 cp4 w4 hO4 hown4 hb4; have hL4 : OL4.length ≤ OL3.length + 1 := (by rw [hO4]; simp); have hK4 := keptC_low (HK3.out.below (by repeat (first | with_reducible refine Below.setCell ?_ (by first | (simp; done) | (simp; omega) | omega) _ | with_reducible refine Below.alloc ?_ (by first | (simp; done) | (simp; omega) | omega) _ | with_reducible refine Below.drew ?_ | with_reducible refine below_drewN ?_ _ | with_reducible exact Below.refl _ _))) hb4 (by omega) HPT.out (fun a ha => by cases ha); have HK4 := Lib.hid hK4; have HW4 := Lib.hid hown4; have HO4 := Lib.hid hO4; obtain ⟨kb4, kd4_0, kd4_1, kd4_2, kd4_3, kd4_4, kd4_5⟩ := kept6 hK4; have hbs4 : w.heap.size < w4.heap.size := cell_lt kd4_0; clear hown4 hb4 hK4 hO4; have hx4 := hc6.below hpb kb4; obtain ⟨c4_0, c4_1, c4_2, c4_3, c4_4, c4_5⟩ := hx4; have hpw4 : p.block < w4.heap.size := (by omega))
            go_roundw
            case rel => exact ⟨k + 1, A4, cp4, OL4, true, by omega, by go_num, rfl, rfl, Lib.hid (by rw [put_step HX.out HF.out, HO4.out, HO3.out]; simp [putS, HE.out, HL.out]), HW4, by omega, (by intro h; first | omega | cases h), HK4.out⟩
            case measure => simp [intOf]; omega
end Go.Proofs.Ytfihkkamedghkaa
