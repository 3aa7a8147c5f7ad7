/- Chapter 22, parts on the way: Wu -/
import Derived.Test.YtkfodkbgmpbmfaaGreatB01
import Derived.Test.YtkfodkbgmpbmfaaGreatB20
import Derived.Test.YtkfodkbgmpbmfaaGreatB26
set_option linter.unusedVariables false
set_option linter.unusedSimpArgs false
namespace Go.Proofs.YtkfodkbgmpbmfaaGreat
open Go.RowKit Go.Shelf
set_option linter.unusedVariables false
set_option linter.unusedSimpArgs false
set_option maxRecDepth 100000
set_option maxHeartbeats 4000000 in
theorem wsum_any (A : Option Addr) (n cp : Nat) (bs : List Int) (w : World) (hr : RowsE encY8 1 w w.heap.size A n bs) (hm : n ≤ 140737488351232) :
    Calls Tryz.prog 116 #[.slice A n cp] w fun e w' => (∃ s, e = .returned (.int .u32 s)) ∧ w = w' := by
 have HR := Lib.hid hr
 clear hr
 go_enter Tryz.func116, Tryz.ntmps116
 go_wp2
 go_loopw [3, 4] (fun sv i w' => ∃ (k : Nat) (s : Int), k ≤ n ∧ i = .int .i64 k ∧ sv = .int .u32 s ∧ w' = w) (fun _ i _ => n - (intOf i).toNat)
 case atStart => exact ⟨0, _, Nat.zero_le _, rfl, rfl, rfl⟩
 case round =>
  obtain ⟨k, s, hk, rfl, rfl, rfl⟩ := hrel
  by_cases hlt : k < n
  rotate_left
  · obtain rfl : k = n := by omega
    go_wp2
    go_ret
    exact ⟨⟨_, rfl⟩, rfl⟩
  · obtain ⟨ad, x, rfl, hab, hx, h4⟩ := HR.out.at hlt
    rw [Nat.mul_one] at h4 hab
    have c0 : wr.cell? (ad.add k) = some (.int .u8 x) := by have := h4 0 _ rfl; rwa [Bg.add_z] at this
    clear h4 hx
    obtain ⟨w1, h⟩ : ∃ w1, w1 = wr := ⟨_, rfl⟩
    subst h
    go_wp2
    go_loopw [3, 5] (fun sv i w' => ∃ (j : Nat) (s : Int), j ≤ 8 ∧ i = .int .i64 j ∧ sv = .int .u32 s ∧ w' = w1) (fun _ i _ => 8 - (intOf i).toNat)
    case atStart => exact ⟨0, _, Nat.zero_le _, rfl, rfl, rfl⟩
    case round =>
     obtain ⟨j, t, hj, rfl, rfl, rfl⟩ := hrel
     by_cases hj8 : j < 8
     rotate_left
     · obtain rfl : j = 8 := by omega
       go_wp2
       go_roundw
       case rel => exact ⟨k + 1, _, by omega, by go_num, rfl, by first | rfl | trivial⟩
       case measure => simp [intOf]; omega
     · go_wp2
       all_goals go_roundw
       all_goals (first | exact ⟨j + 1, _, by omega, by go_num, rfl, by first | rfl | trivial⟩ | (simp [intOf]; omega))
theorem wpList_appNE {P : Program} {α : Type} {enc : α → List Value} {k bytes : Nat} (hk : ∀ x, (enc x).length = k) (h1 : ∀ x, ∀ u ∈ enc x, u.oneCell' = true) (hk0 : 0 < k) {ops : Array Oper} {rest : List Oper} {o : Oper} {a : Act} {w : World} {Q : Exit → Act → World → Prop} (hgd : o.guard = none) (s x : Operand) (t e : TypeId)
    (ho : o.op = .call { callee := .builtin .append, args := #[s, x], argTypes := #[t, t] }) (ht : P.underlying t = some (.slice e)) {z : Value} (hi : (P.info? e).map (fun i => (i.zero, i.size, i.bytes)) = some (some z, k, bytes)) (hzs : z.cells.size = k)
    (base : Nat) (OL : List α) (A2 : Option Addr) (n2 cp2 : Nat) (hn2 : OL.length = n2) (hs : a.eval s = .slice A2 n2 cp2) (hown : OwnE enc k e w base (.slice A2 n2 cp2) OL)
    (A : Option Addr) (m c : Nat) (hx : a.eval x = .slice A m c) (NL : List α) (hr : RowsE enc k w w.heap.size A m NL) (h63 : n2 + m ≤ maxLen) (hb : (n2 + m) * bytes ≤ 140737488355328) (hbase : base ≤ w.heap.size)
    (h : ∀ O3 A3 n3 cp3 w3, O3 = OL ++ NL → O3.length = n3 → OwnE enc k e w3 base (.slice A3 n3 cp3) O3 → Below base w w3 → wpList P ops Q rest (a.put o.dst (.slice A3 n3 cp3)) w3) : wpList P ops Q (o :: rest) a w := by
 obtain ⟨i0, hi0, hz0, hz1, hz2⟩ := info_parts hi
 subst hn2
 refine wpList_append_any w hgd s x t ho base e i0 z k bytes ht hi0 hz0 hz1 hz2 hzs hk0 _ OL.length (flatE enc OL) hs hown w.heap.size A m c (flatE enc NL) hx (hr.reads hk) (flatE_one h1 NL) h63 hb hbase ?_
 intro v' w' hown' hg' hat'
 obtain ⟨A3, c3, rfl⟩ := row_slice' hown'
 have hbl := (row_grown hown hg' hbase).1
 have hl : (OL ++ NL).length = OL.length + m := by simp [hr.1]
 exact h (OL ++ NL) A3 _ c3 w' rfl hl (by unfold OwnE; rw [show flatE enc (OL ++ NL) = flatE enc OL ++ flatE enc NL by unfold flatE; simp, hl]; exact hown') hbl
theorem byte_inf : (Tryz.prog.info? 5).map (fun i => (i.zero, i.size, i.bytes)) = some (some (.int .u8 0), 1, 1) := by kernel_rfl
theorem encY8_len (x : Int) : (encY8 x).length = 1 := rfl
theorem encY8_one (x : Int) : ∀ u ∈ encY8 x, u.oneCell' = true := by
 intro u hu
 simp only [encY8, List.mem_cons, List.not_mem_nil, or_false] at hu
 subst hu
 rfl
def OpPost (w : World) (e : Ending) (w' : World) : Prop :=
 ∃ A m c q er bs', e = .returned (.tuple #[.slice A m c, .int .i64 q, .int .i64 er]) ∧ (er = 0 → m ≤ 65535 ∧ RowsE encY8 1 w' w'.heap.size A m bs' ∧ m ≤ c ∧ ∀ x ∈ bs', 0 ≤ x ∧ x < 256) ∧ Below w.heap.size w w'
theorem cell8 {w : World} {B n : Nat} {ad : Addr} {bs : List Int} (h : RowsE encY8 1 w B (some ad) n bs) {j : Nat} (hj : j < n) : ∃ x, w.cell? (ad.add j) = some (.int .u8 x) ∧ bs[j]? = some x ∧ ad.block < B := by
 obtain ⟨ad2, x, e, hb, hx, h4⟩ := h.at hj
 obtain rfl := Option.some.inj e
 rw [Nat.mul_one] at h4 hb
 have := h4 0 _ rfl
 rw [Bg.add_z] at this
 rw [block_of_add] at hb
 exact ⟨x, this, hx, hb⟩
set_option maxHeartbeats 4000000 in
theorem wopen_short (A : Option Addr) (n cp : Nat) (bs : List Int) (w : World) (hr : RowsE encY8 1 w w.heap.size A n bs) (hn : n < 4) :
    Calls Tryz.prog 82 #[.slice A n cp] w (OpPost w) := by
 match n, hn with
 | 0, _ =>
  go_enter Tryz.func82, Tryz.ntmps82
  go_wp2
  go_ret3
  exact ⟨none, 0, 0, 0, 21, [], rfl, fun h => absurd h (by decide), Qb⟩
 | 1, _ =>
  obtain ⟨ad, rfl, -⟩ := hr.2 (by omega)
  obtain ⟨x0, c0, -, -⟩ := cell8 hr (j := 0) (by omega)
  rw [Bg.add_z] at c0
  obtain ⟨k0, hk0⟩ : ∃ k, (x0 != 237) = k := ⟨_, rfl⟩
  go_enter Tryz.func82, Tryz.ntmps82
  cases k0
  · go_wp2
    go_ret3
    exact ⟨none, 0, 0, 0, 21, [], rfl, fun h => absurd h (by decide), Qb⟩
  · go_wp2
    go_ret3
    exact ⟨none, 0, 0, 0, 20, [], rfl, fun h => absurd h (by decide), Qb⟩
 | 2, _ | 3, _ =>
  obtain ⟨ad, rfl, -⟩ := hr.2 (by omega)
  obtain ⟨x0, c0, -, -⟩ := cell8 hr (j := 0) (by omega)
  obtain ⟨x1, c1, -, -⟩ := cell8 hr (j := 1) (by omega)
  rw [Bg.add_z] at c0
  rw [show ad.add 1 = ⟨ad.block, ad.off + 1, none⟩ from Bg.add_next ad 0] at c1
  obtain ⟨k0, hk0⟩ : ∃ k, (x0 != 237) = k := ⟨_, rfl⟩
  obtain ⟨k1, hk1⟩ : ∃ k, (x1 != 91) = k := ⟨_, rfl⟩
  go_enter Tryz.func82, Tryz.ntmps82
  cases k0
  · cases k1
    · go_wp2
      go_ret3
      exact ⟨none, 0, 0, 0, 21, [], rfl, fun h => absurd h (by decide), Qb⟩
    · go_wp2
      go_ret3
      exact ⟨none, 0, 0, 0, 20, [], rfl, fun h => absurd h (by decide), Qb⟩
  · go_wp2
    go_ret3
    exact ⟨none, 0, 0, 0, 20, [], rfl, fun h => absurd h (by decide), Qb⟩
set_option maxHeartbeats 8000000 in
theorem wopen_long (ad : Addr) (n cp : Nat) (bs : List Int) (w : World) (hr : RowsE encY8 1 w w.heap.size (some ad) n bs) (hn : 4 ≤ n) (hc : n ≤ cp) (hm : n ≤ 140737488351232) (hg : ∀ x ∈ bs, 0 ≤ x ∧ x < 256) :
    Calls Tryz.prog 82 #[.slice (some ad) n cp] w (OpPost w) := by
 have HR := Lib.hid hr
 obtain ⟨x0, c0, -, -⟩ := cell8 hr (j := 0) (by omega)
 obtain ⟨x1, c1, -, -⟩ := cell8 hr (j := 1) (by omega)
 obtain ⟨x2, c2, hx2, hab⟩ := cell8 hr (j := 2) (by omega)
 obtain ⟨x3, c3, hx3, -⟩ := cell8 hr (j := 3) (by omega)
 have g2 := hg x2 (List.mem_of_getElem? hx2)
 have g3 := hg x3 (List.mem_of_getElem? hx3)
 have HG := Lib.hid hg
 clear hr hg hx2 hx3
 rw [Bg.add_z] at c0
 rw [show ad.add 1 = ⟨ad.block, ad.off + 1, none⟩ from Bg.add_next ad 0] at c1
 rw [show ad.add 2 = ⟨ad.block, ad.off + 2, none⟩ from Bg.add_next ad 1] at c2
 rw [show ad.add 3 = ⟨ad.block, ad.off + 3, none⟩ from Bg.add_next ad 2] at c3
 obtain ⟨k0, hk0⟩ : ∃ k, (x0 != 237) = k := ⟨_, rfl⟩
 obtain ⟨k1, hk1⟩ : ∃ k, (x1 != 91) = k := ⟨_, rfl⟩
 obtain ⟨N, hN⟩ : ∃ N : Nat, (N : Int) = x2 + 256 * x3 := ⟨(x2 + 256 * x3).toNat, by omega⟩
 have hN5 : N ≤ 65535 := by omega
 have hwa : IntKind.i64.wrap x2 = x2 := by rw [IntKind.wrap_i64]; omega
 have hwb : IntKind.i64.wrap x3 = x3 := by rw [IntKind.wrap_i64]; omega
 have hwc : IntKind.i64.wrap (256 * x3) = 256 * x3 := by rw [IntKind.wrap_i64]; omega
 have hwd : IntKind.i64.wrap (x2 + 256 * x3) = (N : Int) := by rw [IntKind.wrap_i64]; omega
 clear g2 g3 hN
 go_enter Tryz.func82, Tryz.ntmps82
 have hn4 : ¬ (n : Int) < 4 := by omega
 have hl2 : (2 : Int) < (n : Int) := by omega
 have hl3 : (3 : Int) < (n : Int) := by omega
 cases k0 with
 | true =>
  go_wp2
  go_ret3
  exact ⟨none, 0, 0, 0, 20, [], rfl, fun h => absurd h (by decide), Qb⟩
 | false =>
 cases k1 with
 | true =>
  go_wp2
  go_ret3
  exact ⟨none, 0, 0, 0, 20, [], rfl, fun h => absurd h (by decide), Qb⟩
 | false =>
 go_wp2_with (fail)
 refine wp_region_quietC_lit (KeptC w [(⟨ad.block, ad.off + 2, none⟩, .int .u8 x2), (⟨ad.block, ad.off + 3, none⟩, .int .u8 x3)] []) (by kernel_rfl) (by kernel_rfl) ?_ ?_
 · refine KeptC.drewn ?_
   exact Qk
 repeat (first
  | go_big_quiet_skip
  | (go_big_quiet_want; (apply quietC_run); (· intro w' hw'; (have hk' := hw'; simp only [KeptC, List.forall_mem_cons] at hk'; go_split_ands); go_simp; first | done | rfl); (simp only [Act.put, List.setIfInBounds_toArray, List.set_cons_zero, List.set_cons_succ]; go_big_quiet_on))
  | (go_big_quiet_want; (apply quietC_call); (· intro w' hw'; go_simp; first | done | exact ⟨rfl, rfl⟩ | rfl); (· intro w' hw'; first | ((with_reducible refine (fail).mono ?_); rintro e w2 ⟨rfl, hb⟩; exact ⟨rfl, hw'.below hb⟩)); (simp only [Act.put, List.setIfInBounds_toArray, List.set_cons_zero, List.set_cons_succ]; go_big_quiet_on)))
 refine wpQuiet_nil ?_
 intro w8 hk8
 (have hk' := hk8; simp only [KeptC, List.forall_mem_cons] at hk'; go_split_ands); have hkB8 := hk8.1
 have hs8 := hkB8.size
 have HR8 := Lib.hid ((HR.out.below hkB8).more hs8)
 have HB8 := Lib.hid hkB8
 clear c0 c1 c2 c3 hk0 hk1 hwa hwb hwc hwd
 have hwf : IntKind.i64.wrap ((N : Int) + 8) = (N : Int) + 8 := by rw [IntKind.wrap_i64]; omega
 clear hn4 hl2 hl3
 by_cases h6 : (n : Int) < (N : Int) + 8
 · go_wp2
   go_ret3
   exact ⟨none, 0, 0, 0, 21, [], rfl, fun h => absurd h (by decide), (Qb1 hkB8)⟩
 have hNn : N + 8 ≤ n := by omega
 obtain ⟨T, hT⟩ : ∃ T : Nat, T = 4 + N := ⟨_, rfl⟩
 have hwe : IntKind.i64.wrap (4 + (N : Int)) = (T : Int) := by rw [IntKind.wrap_i64]; omega
 have hT2 : 2 ≤ T := by omega
 have hT4 : 4 ≤ T := by omega
 have hTc : (T : Int) ≤ (cp : Int) := by omega
 have hcp2 : ¬ cp = 2 := by omega
 have hcp4 : ¬ cp = 4 := by omega
 have hab8 : ad.block < w8.heap.size := by omega
 have HX2 : Hid (RowsE encY8 1 w8 w8.heap.size (some (ad.add 2)) (T - 2) ((bs.drop 2).take (T - 2))) := Lib.hid (by
  have h := rowsE_cut8 (cp := cp) HR8.out (q := 2) (T := T) (by omega) hc
  rw [if_neg hcp2] at h
  exact h)
 have CS := Lib.hid (wsum_any (some (ad.add 2)) (T - 2) (cp - 2) _ w8 HX2.out (by omega))
 have HTN := Lib.hid hT; have HNN := Lib.hid hNn; have HC := Lib.hid hc; have HM := Lib.hid hm; have HN5 := Lib.hid hN5; have HAB := Lib.hid hab8
 clear hT hn hc hm hN5
 go_wp2_with (fail)
 refine CS.out.mono ?_; rintro e w9 ⟨⟨s, rfl⟩, rfl⟩
 clear CS HX2
 go_wp2
 go_loopw [7] (fun i w' => ∃ (k : Nat), k ≤ 4 ∧ i = .int .i64 k ∧ Hid (Below w8.heap.size w8 w')) (fun i _ => 4 - (intOf i).toNat)
 case atStart => exact ⟨0, Nat.zero_le _, rfl, Lib.hid (Below.refl _ _)⟩
 case round =>
  obtain ⟨k, hk, rfl, HB9⟩ := hrel
  have hsr := HB9.out.size
  have HRr := Lib.hid ((HR8.out.below HB9.out).more hsr)
  have HBr : Hid (Below w.heap.size w wr) := Lib.hid (HB8.out.trans (HB9.out.mono hs8))
  have habr : ad.block < wr.heap.size := by omega
  by_cases hlt : k < 4
  rotate_left
  · have hk4 : ¬ (k : Int) < 4 := by omega
    have HX4 : Hid (RowsE encY8 1 wr wr.heap.size (some (ad.add 4)) (T - 4) ((bs.drop 4).take (T - 4))) := Lib.hid (by
     have h := rowsE_cut8 (cp := cp) HRr.out (q := 4) (T := T) (by have := HTN.out; have := HNN.out; omega) HC.out
     rw [if_neg hcp4] at h
     exact h)
    have HT7 : Hid (0 + (T - 4) ≤ maxLen) := Lib.hid (by have := HTN.out; have := HN5.out; simp only [maxLen]; omega)
    have HT8 : Hid ((0 + (T - 4)) * 1 ≤ 140737488355328) := Lib.hid (by have := HTN.out; have := HN5.out; omega)
    go_wp2_with (at_builtin; refine wpList_appNE encY8_len encY8_one (by decide) rfl (.tmp 69) (.tmp 73) 77 5 rfl Tryz.underlying77 byte_inf rfl wr.heap.size [] none 0 0 rfl rfl (OwnE.nil _ _ _) (some (ad.add 4)) (T - 4) (cp - 4) rfl _ HX4.out HT7.out HT8.out (Nat.le_refl _) ?_; rintro O3 A3 n3 cp3 w3 hO hn3 hown hb3; have HO := Lib.hid hO; have HN3 := Lib.hid hn3; have HW3 := Lib.hid hown; have HB3 := Lib.hid hb3; clear hO hn3 hown hb3)
    go_ret3
    have h9 := HO.out
    have h8 := HN3.out
    subst h8
    refine ⟨A3, _, cp3, _, 0, O3, rfl, fun _ => ⟨?_, ?_, ?_, ?_⟩, HBr.out.trans (HB3.out.mono HBr.out.size)⟩
    · have := HTN.out
      have := HN5.out
      rw [h9]
      simp
      omega
    · obtain ⟨A4, c4, e, hr⟩ := OwnE.at_ encY8_len HW3.out
      injection e with e1 e2 e3
      subst e1
      exact hr
    · rcases Nat.eq_zero_or_pos O3.length with h0 | h0
      · omega
      · obtain ⟨_, c4, e, _, _, _, hcc, _⟩ := OwnE.row encY8_len 0 HW3.out h0
        injection e with e1 e2 e3
        omega
    · intro x hx
      rw [h9, List.nil_append] at hx
      exact HG.out x (List.mem_of_mem_drop (List.mem_of_mem_take hx))
  · have hk4 : (k : Int) < 4 := by omega
    obtain ⟨J, hJ⟩ : ∃ J : Nat, J = T + k := ⟨_, rfl⟩
    have hJn : J < n := by have := HTN.out; have := HNN.out; omega
    have hJi : (J : Int) < (n : Int) := by omega
    have hwj : IntKind.i64.wrap ((T : Int) + (k : Int)) = (J : Int) := by rw [IntKind.wrap_i64]; have := HM.out; omega
    have hwk : IntKind.i64.wrap (8 * (k : Int)) = 8 * (k : Int) := by rw [IntKind.wrap_i64]; omega
    have hk8 : ¬ 8 * (k : Int) < 0 := by omega
    obtain ⟨y, cy, -, -⟩ := cell8 HRr.out hJn
    obtain ⟨P, hP⟩ : ∃ P, ad.add J = P := ⟨_, rfl⟩
    have hPb : P.block < wr.heap.size := by rw [← hP, block_of_add]; exact habr
    rw [hP] at cy
    clear hJ hJn
    go_wp2_with (fail)
    refine wp_region_quietC_lit (KeptC wr [(P, .int .u8 y)] []) (by kernel_rfl) (by kernel_rfl) ?_ ?_
    · refine KeptC.drewn ?_
      exact Qk
    repeat (first
     | go_big_quiet_skip
     | (go_big_quiet_want; (apply quietC_run); (· intro w' hw'; (have hk' := hw'; simp only [KeptC, List.forall_mem_cons] at hk'; go_split_ands); go_simp; first | done | rfl); (simp only [Act.put, List.setIfInBounds_toArray, List.set_cons_zero, List.set_cons_succ]; go_big_quiet_on))
     | (go_big_quiet_want; (apply quietC_call); (· intro w' hw'; go_simp; first | done | exact ⟨rfl, rfl⟩ | rfl); (· intro w' hw'; first | ((with_reducible refine (fail).mono ?_); rintro e w2 ⟨rfl, hb⟩; exact ⟨rfl, hw'.below hb⟩)); (simp only [Act.put, List.setIfInBounds_toArray, List.set_cons_zero, List.set_cons_succ]; go_big_quiet_on)))
    refine wpQuiet_nil ?_
    intro w7 hk7
    (have hk' := hk7; simp only [KeptC, List.forall_mem_cons] at hk'; go_split_ands); have hkB7 := hk7.1
    have HB7 := Lib.hid hkB7
    go_wp2
    all_goals (first | (go_ret3; exact ⟨none, 0, 0, 0, 22, [], rfl, fun h => absurd h (by decide), HBr.out.trans (HB7.out.mono HBr.out.size)⟩) | skip)
    go_roundw
    case rel => exact ⟨k + 1, by omega, by go_num, Lib.hid (HB9.out.trans (HB7.out.mono hsr))⟩
    case measure => simp [intOf]; omega
theorem wopen_any (A : Option Addr) (n cp : Nat) (bs : List Int) (w : World) (hr : RowsE encY8 1 w w.heap.size A n bs) (hc : n ≤ cp) (hm : n ≤ 140737488351232) (hg : ∀ x ∈ bs, 0 ≤ x ∧ x < 256) :
    Calls Tryz.prog 82 #[.slice A n cp] w (OpPost w) := by
 by_cases hn : n < 4
 · exact wopen_short A n cp bs w hr hn
 · obtain ⟨ad, rfl, -⟩ := hr.2 (by omega)
   exact wopen_long ad n cp bs w hr (by omega) hc hm hg
end Go.Proofs.YtkfodkbgmpbmfaaGreat
