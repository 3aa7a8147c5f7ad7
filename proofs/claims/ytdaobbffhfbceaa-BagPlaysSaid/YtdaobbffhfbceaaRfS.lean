/- The reference's Sever: what each call computes. -/
import Derived.Test.YtdaobbffhfbceaaRfD
namespace Go.Proofs.Ytdaobbffhfbceaa
open Go.RowKit Go.Shelf
set_option linter.unusedVariables false
set_option linter.unusedSimpArgs false
set_option maxRecDepth 100000
theorem lcells_new (W : World) (p1 p2 : Int) : Reads (W.alloc (Obj.cells #[.int .i64 p1, .int .i64 p2] 64)) (W.heap.size + 1) 2 (some ⟨W.heap.size, 0, none⟩) 1 [.int .i64 p1, .int .i64 p2] := by
  refine ⟨rfl, fun _ => ⟨_, rfl, Nat.lt_succ_self _, fun j u hu => ?_⟩⟩
  have hj : j < 2 := by have := (List.getElem?_eq_some_iff.1 hu).1; simpa using this
  rw [Addr.add_lit]
  match j, hj with
  | 0, _ | 1, _ => simp at hu; subst hu; go_simp
theorem okS_ins {s : BS} {a b : Int} (h : OkS s) (ha : i64B a) (hb : i64B b) (hsv : sevB s a b = false) : OkS ⟨s.nx, s.ls, insL (lnk a b) s.sv⟩ :=
  ⟨h.nx0, h.nx1, h.len, insL_rise h.sv (fun hm => by have := sevB_iff.2 hm; rw [hsv] at this; cases this), fun x hx => (insL_mem.1 hx).elim (fun e => by subst e; exact lnk_i64 ha hb) (h.i64 x), h.nm⟩
set_option maxHeartbeats 1000000 in
theorem rsever_same (g : Nat) (lv sv : Value) (s : BS) (a : Int) (w : World) (h : RefAt w g lv sv s) :
    Calls Try.prog 40 #[.pointer (some ⟨g, 0, none⟩), .int .i64 a, .int .i64 a] w fun e w' => e = .returned (.int .i64 0) ∧ Below w.heap.size w w' := by
  clear h
  go_enter Try.func40, Try.ntmps40
  go_wp2
  go_ret
  exact ⟨rfl, (by repeat (first | with_reducible refine Below.setCell ?_ (by first | (simp; done) | (simp; omega) | omega) _ | with_reducible refine Below.alloc ?_ (by first | (simp; done) | (simp; omega) | omega) _ | with_reducible refine Below.drew ?_ | with_reducible refine below_drewN ?_ _ | with_reducible exact Below.refl _ _))⟩
set_option maxHeartbeats 1000000 in
theorem rsever_found (g : Nat) (lv sv : Value) (s : BS) (a b : Int) (w : World) (h : RefAt w g lv sv s) (hm : (s.sv.length + 1 + (s.sv.length + 1) / 4 + 192) * 16 ≤ 281474976710656) (hab : a ≠ b) (hsv : sevB s a b = true) :
    Calls Try.prog 40 #[.pointer (some ⟨g, 0, none⟩), .int .i64 a, .int .i64 b] w fun e w' => e = .returned (.int .i64 (sevS s a b).2) ∧ ∃ lv' sv', RefAt w' g lv' sv' (sevS s a b).1 ∧ MovedR w lv sv lv' sv' ∧ Turn (footR g lv sv) w w' := by
  obtain ⟨i, hi, hil⟩ := sev_some hsv
  have cs := severed_any g lv sv s a b w h (wid_ok hm (Nat.le_succ _)).1
  rw [hi] at cs
  have hp : plc (some i) = (i : Int) := rfl
  rw [hp] at cs
  have CS := Lib.hid cs
  have HB := Lib.hid h
  have hsl : s.sv.length < 17592186044416 := wid_lt hm
  unfold sevS svS
  rw [if_neg hab, hsv, if_pos rfl]
  have habb : (a == b) = false := by simpa using hab
  clear h cs hi hp hm hsv
  go_enter Try.func40, Try.ntmps40
  go_wp2_with (fail)
  refine CS.out.mono ?_; rintro e w1 ⟨rfl, hb1⟩
  go_wp2_with (fail)
  refine (lose_both g lv sv s a b w1 (HB.out.below hb1)).mono ?_; rintro e w2 ⟨rfl, lv2, h1, h2, h3⟩
  have H1 := Lib.hid h1
  clear h1
  go_wp2
  go_ret
  exact ⟨rfl, lv2, sv, H1.out, h2.less hb1.size, (Turn.below (F := footR g lv sv) hb1 (Nat.le_refl _)).trans h3 (fun b hb => .inl hb)⟩
set_option maxHeartbeats 1000000 in
theorem rsever_new (g : Nat) (lv sv : Value) (s : BS) (a b : Int) (w : World) (h : RefAt w g lv sv s) (hm : (s.sv.length + 1 + (s.sv.length + 1) / 4 + 192) * 16 ≤ 281474976710656) (ha : i64B a) (hb : i64B b) (hab : a ≠ b) (hsv : sevB s a b = false) :
    Calls Try.prog 40 #[.pointer (some ⟨g, 0, none⟩), .int .i64 a, .int .i64 b] w fun e w' => e = .returned (.int .i64 (sevS s a b).2) ∧ ∃ lv' sv', RefAt w' g lv' sv' (sevS s a b).1 ∧ MovedR w lv sv lv' sv' ∧ Turn (footR g lv sv) w w' := by
  obtain ⟨A, c, rfl⟩ := row_slice' h.rs
  have cs := severed_any g lv _ s a b w h (wid_ok hm (Nat.le_succ _)).1
  rw [sev_none hsv] at cs
  have hp : plc none = (-1 : Int) := rfl
  rw [hp] at cs
  have CS := Lib.hid cs
  have HB := Lib.hid h
  have hok := okS_ins h.ok ha hb hsv
  unfold sevS svS
  rw [if_neg hab, hsv, if_neg (by simp)]
  have habb : (a == b) = false := by simpa using hab
  have hg0 := cell_lt h.c0
  simp only [] at hg0
  have hcap := row_cap h.rs
  obtain ⟨p, hpp⟩ : ∃ p, lnk a b = p := ⟨_, rfl⟩
  have c1 : ∀ W, Calls Try.prog 51 #[.int .i64 a, .int .i64 b] W fun e w' => e = .returned (lAgg p) ∧ Below W.heap.size W w' := fun W => by rw [← hpp]; exact link_any a b W
  rw [hpp] at hok ⊢
  have C1 := Lib.hid c1
  have HOK := Lib.hid hok
  obtain ⟨i0, hi0, hj0, hj1, hj2⟩ := info_parts lk_inf
  have hsl : s.sv.length < 17592186044416 := wid_lt hm
  have HM := Lib.hid hm
  have c2 := h.c2
  have f2 := h.f2
  have HR := Lib.hid ((OwnE.at_ encL_len h.rs).elim fun A' x => x.elim fun c' y => by
    obtain ⟨e, hr⟩ := y
    obtain ⟨rfl, -, rfl⟩ := Value.slice.inj e
    exact hr : RowsE encL 2 w w.heap.size A s.sv.length s.sv)
  obtain ⟨n, hnn⟩ : ∃ n, s.sv.length = n := ⟨_, rfl⟩
  clear h cs hp hm hsv hok c1 hpp
  rw [hnn] at c2 HR hcap hsl HM
  have HNN := Lib.hid hnn
  have HCP := Lib.hid hcap
  clear hcap
  rw [hnn] at HB ⊢
  clear hnn
  obtain ⟨p1, p2⟩ := p
  go_enter Try.func40, Try.ntmps40
  go_wp2_with (fail)
  refine CS.out.mono ?_; rintro e w1 ⟨rfl, hb1⟩
  have c21 : w1.cell? ⟨g, 2, none⟩ = some (.slice A n c) := (hb1.cell (p := ⟨g, 2, none⟩) hg0).trans c2
  have f21 : w1.frozen? ⟨g, 2, none⟩ = false := (hb1.frozen (p := ⟨g, 2, none⟩) hg0).trans f2
  have hsz1 := hb1.size
  go_wp2
  go_loopw [8] (fun i w' => ∃ j : Nat, j ≤ n ∧ i = .int .i64 j ∧ Hid (∀ t, t < j → ∀ e, s.sv[t]? = some e → ltL e (p1, p2) = true) ∧ KeptC w [(⟨g, 2, none⟩, .slice A n c)] [⟨g, 2, none⟩] w') (fun i _ => n - (intOf i).toNat)
  case atStart => exact ⟨0, Nat.zero_le _, rfl, Lib.hid (fun t ht => by omega), (by (repeat' (first | refine KeptC.cons ?_ ?_ | refine KeptC.consF ?_ ?_ ?_ | refine KeptC.mk0 ?_)); all_goals (first | with_reducible assumption | (go_simp; done) | (simp; omega) | exact (by repeat (first | with_reducible refine Below.setCell ?_ (by first | (simp; done) | (simp; omega) | omega) _ | with_reducible refine Below.alloc ?_ (by first | (simp; done) | (simp; omega) | omega) _ | with_reducible refine Below.drew ?_ | with_reducible refine below_drewN ?_ _ | with_reducible exact Below.refl _ _ | with_reducible refine Below.trans ?_ (Below.mono hb1 (by first | (simp; done) | (simp; omega) | omega))))))⟩
  case round =>
    clear c21 f21
    obtain ⟨j, hj, rfl, HJ, hK⟩ := hrel
    simp only [KeptC, List.forall_mem_cons] at hK; obtain ⟨kb0, ⟨kc0_0, _⟩, ⟨kz0_0, kg0_0⟩, _⟩ := hK
    have hs0 := kb0.size
    by_cases hlt : j < n
    rotate_left
    · obtain rfl : j = n := by omega
      go_wp2
      refine wp_region_quietC_lit (KeptC w [(⟨g, 2, none⟩, .slice A j c)] [⟨g, 2, none⟩]) (by kernel_rfl) (by kernel_rfl) ?_ ?_
      · refine KeptC.drewn ?_
        repeat' (first | refine KeptC.cons ?_ ?_ | refine KeptC.consF ?_ ?_ ?_ | refine KeptC.mk0 ?_)
        all_goals (first | with_reducible assumption | (go_simp; done) | (simp; omega) | exact (by repeat (first | with_reducible refine Below.setCell ?_ (by first | (simp; done) | (simp; omega) | omega) _ | with_reducible refine Below.alloc ?_ (by first | (simp; done) | (simp; omega) | omega) _ | with_reducible refine Below.drew ?_ | with_reducible refine below_drewN ?_ _ | with_reducible exact Below.refl _ _ | with_reducible refine Below.trans ?_ (Below.mono kb0 (by first | (simp; done) | (simp; omega) | omega)))))
      repeat (first
        | go_big_quiet_skip
        | (go_big_quiet_want; (apply quietC_run); (· intro w' hw'; (have hk' := hw'; simp only [KeptC, List.forall_mem_cons] at hk'; go_split_ands); go_simp; first | done | rfl); (simp only [Act.put, List.setIfInBounds_toArray, List.set_cons_zero, List.set_cons_succ]; go_big_quiet_on))
        | (go_big_quiet_want; (apply quietC_call); (· intro w' hw'; go_simp; first | done | exact ⟨rfl, rfl⟩ | rfl); (· intro w' hw'; first | ((with_reducible refine (C1.out _).mono ?_); rintro e w2 ⟨rfl, hb⟩; exact ⟨rfl, hw'.below hb⟩)); (simp only [Act.put, List.setIfInBounds_toArray, List.set_cons_zero, List.set_cons_succ]; go_big_quiet_on)))
      refine wpQuiet_nil ?_
      intro w9 hk9
      (have hk' := hk9; simp only [KeptC, List.forall_mem_cons] at hk'; go_split_ands); have hkB9 := hk9.1
      have hh := HB.out.below hkB9
      have hcap2 : (c : Int) ≤ 9223372036854775807 := by have := HCP.out.2; unfold maxLen at this; omega
      have hcap1 := HCP.out.1
      have hic : j ≤ c := by omega
      have hicZ : (j : Int) ≤ (c : Int) := by omega
      have hicN : (j : Int) ≤ (j : Int) := by omega
      have h0j : 0 ≤ (j : Int) := by omega
      have hsz9 := hkB9.size
      have c29 := hh.c2
      have f29 := hh.f2
      have HRW : Hid (RowsE encL 2 w9 w9.heap.size A s.sv.length s.sv) := Lib.hid ((OwnE.at_ encL_len hh.rs).elim fun A' x => x.elim fun c' y => by
        obtain ⟨e, hr⟩ := y
        obtain ⟨rfl, -, rfl⟩ := Value.slice.inj e
        exact hr)
      have HRT : Hid (Reads w9 w9.heap.size 2 A j (flatE encL (s.sv.take j))) := Lib.hid ((HRW.out.take (by have := HNN.out; omega)).reads encL_len)
      have HH := Lib.hid hh
      have hg9 : g < w9.heap.size := by omega
      have B1 : Hid (0 + j ≤ maxLen) := Lib.hid (wid_ok HM.out (n := 0 + j) (by omega)).1
      have B2 : Hid ((0 + j + (0 + j) / 4 + 192) * 16 ≤ 281474976710656) := Lib.hid (wid_ok HM.out (n := 0 + j) (by omega)).2
      clear hh
      go_wp2_with (at_builtin; refine wpList_append_wide _ rfl (.tmp 41) (.tmp 48) _ rfl w9.heap.size 64 i0 _ 2 16 Try.underlying48 hi0 hj0 hj1 hj2 rfl (by omega) (.slice none 0 0) 0 [] rfl ⟨by simp, .inl ⟨rfl, rfl⟩⟩ w9.heap.size A j c (flatE encL (s.sv.take j)) rfl (by exact HRT.out) (flatE_one encL_one _) B1.out B2.out (by simp) ?_; intro v6 w6 hown6 hg6; rw [Nat.zero_add, List.nil_append] at hown6; obtain ⟨A6, c6, hv6⟩ := row_slice' hown6; subst hv6; have HG6 := Lib.hid hg6; have HO6 := Lib.hid hown6; clear hown6 hg6; have hb6 : Below w9.heap.size w9 w6 := (row_grown (base := w9.heap.size) (W := w9) (v := .slice none 0 0) (n := 0) (size := 2) (e := 64) (xs := []) ⟨by simp, .inl ⟨rfl, rfl⟩⟩ HG6.out (by simp)); have c26 : w6.cell? ⟨g, 2, none⟩ = some (.slice A j c) := (hb6.cell (p := ⟨g, 2, none⟩) hg9).trans c29; have f26 : w6.frozen? ⟨g, 2, none⟩ = false := (hb6.frozen (p := ⟨g, 2, none⟩) hg9).trans f29; have hg6w : g < w6.heap.size := cell_lt c26)
      refine (C1.out _).mono ?_; rintro e w7 ⟨rfl, hb7⟩
      have hlj : (s.sv.take j).length = j := by rw [List.length_take]; have := HNN.out; omega
      have ho6 : OwnE encL 2 64 w6 w9.heap.size (.slice A6 j c6) (s.sv.take j) := by unfold OwnE; rw [hlj]; exact HO6.out
      have hs67 := hb7.size
      have ho7 := ho6.below hb7
      have ho8 : OwnE encL 2 64 (w7.alloc (Obj.cells #[.int .i64 p1, .int .i64 p2] 64)) w9.heap.size (.slice A6 j c6) (s.sv.take j) := ho7.below (by repeat (first | with_reducible refine Below.setCell ?_ (by first | (simp; done) | (simp; omega) | omega) _ | with_reducible refine Below.alloc ?_ (by first | (simp; done) | (simp; omega) | omega) _ | with_reducible refine Below.drew ?_ | with_reducible refine below_drewN ?_ _ | with_reducible exact Below.refl _ _))
      have HO8 : Hid ((w7.alloc (Obj.cells #[.int .i64 p1, .int .i64 p2] 64)).ownsRow w9.heap.size 64 2 (.slice A6 j c6) j (flatE encL (s.sv.take j))) := Lib.hid (by unfold OwnE at ho8; rw [hlj] at ho8; exact ho8)
      have HRP := Lib.hid (lcells_new w7 p1 p2)
      have hb96 : w9.heap.size ≤ w6.heap.size := hb6.size
      have kb7 : Below w9.heap.size w9 w7 := hb6.trans (hb7.mono hb96)
      have c27 : w7.cell? ⟨g, 2, none⟩ = some (.slice A j c) := (hb7.cell (p := ⟨g, 2, none⟩) hg6w).trans c26
      have f27 : w7.frozen? ⟨g, 2, none⟩ = false := (hb7.frozen (p := ⟨g, 2, none⟩) hg6w).trans f26
      have hg7w : g < w7.heap.size := cell_lt c27
      have h97 : w9.heap.size ≤ w7.heap.size := kb7.size
      have KB7 := Lib.hid kb7
      have B3 : Hid (j + 1 ≤ maxLen) := Lib.hid (wid_ok HM.out (n := j + 1) (by omega)).1
      have B4 : Hid ((j + 1 + (j + 1) / 4 + 192) * 16 ≤ 281474976710656) := Lib.hid (wid_ok HM.out (n := j + 1) (by omega)).2
      clear ho6 ho7 ho8 HO6 HG6 hb6 hb7 c26 f26 kb7 c29 f29
      go_upto_region 10 with (at_builtin; refine wpList_append_wide _ rfl (.tmp 50) (.tmp 54) _ rfl w9.heap.size 64 i0 _ 2 16 Try.underlying48 hi0 hj0 hj1 hj2 rfl (by omega) (.slice A6 j c6) j (flatE encL (s.sv.take j)) rfl (by exact HO8.out) (w7.heap.size + 1) (some ⟨w7.heap.size, 0, none⟩) 1 1 [.int .i64 p1, .int .i64 p2] rfl (by exact HRP.out) (by simp [Value.oneCell']) B3.out B4.out (by simp; omega) ?_; intro v10 w10 hown10 hg10; obtain ⟨A10, c10, hv10⟩ := row_slice' hown10; subst hv10; have HG10 := Lib.hid hg10; have HO10 := Lib.hid hown10; clear hown10 hg10; have hb10 : Below w9.heap.size (w7.alloc (Obj.cells #[.int .i64 p1, .int .i64 p2] 64)) w10 := row_grown HO8.out HG10.out (by simp; omega); have c210 : w10.cell? ⟨g, 2, none⟩ = some (.slice A j c) := (hb10.cell (p := ⟨g, 2, none⟩) hg9).trans (by go_simp); have f210 : w10.frozen? ⟨g, 2, none⟩ = false := (hb10.frozen (p := ⟨g, 2, none⟩) hg9).trans (by go_simp); have hg10w : g < w10.heap.size := cell_lt c210)
      have kb10 : Below w9.heap.size w9 w10 := KB7.out.trans (((by repeat (first | with_reducible refine Below.setCell ?_ (by first | (simp; done) | (simp; omega) | omega) _ | with_reducible refine Below.alloc ?_ (by first | (simp; done) | (simp; omega) | omega) _ | with_reducible refine Below.drew ?_ | with_reducible refine below_drewN ?_ _ | with_reducible exact Below.refl _ _)) : Below w9.heap.size w7 (w7.alloc (Obj.cells #[.int .i64 p1, .int .i64 p2] 64))).trans hb10)
      have hrd := (HRW.out.reads encL_len).cut (k := j) (cap := c) (by have := HNN.out; omega) (by have := HNN.out; omega)
      rw [flatE_drop encL_len, show s.sv.length - j = 0 by have := HNN.out; omega] at hrd
      have HRD := Lib.hid (hrd.below kb10)
      have hs910 := kb10.size
      have KB10 := Lib.hid kb10
      have B5 : Hid (j + 1 + 0 ≤ maxLen) := Lib.hid (wid_ok HM.out (n := j + 1 + 0) (by omega)).1
      have B6 : Hid ((j + 1 + 0 + (j + 1 + 0) / 4 + 192) * 16 ≤ 281474976710656) := Lib.hid (wid_ok HM.out (n := j + 1 + 0) (by omega)).2
      clear hrd kb10 hb10 HO8 HG10 c27 f27 HRT HRP
      go_upto_region 11 with (at_builtin; refine wpList_append_wide _ rfl (.tmp 57) (.tmp 64) _ rfl w9.heap.size 64 i0 _ 2 16 Try.underlying48 hi0 hj0 hj1 hj2 rfl (by omega) (.slice A10 (j + 1) c10) (j + 1) (flatE encL (s.sv.take j) ++ [.int .i64 p1, .int .i64 p2]) rfl (by exact HO10.out) w9.heap.size (if c = j then A else (A).map (fun x => x.add (j * 2))) 0 (c - j) (flatE encL (s.sv.drop j)) rfl (by exact HRD.out) (flatE_one encL_one _) B5.out B6.out (by exact hs910) ?_; intro v11 w11 hown11 hg11; obtain ⟨A11, c11, hv11⟩ := row_slice' hown11; subst hv11; have HG11 := Lib.hid hg11; have HO11 := Lib.hid hown11; clear hown11 hg11; have hb11 : Below w9.heap.size w10 w11 := row_grown HO10.out HG11.out (by exact hs910); have c211 : w11.cell? ⟨g, 2, none⟩ = some (.slice A j c) := (hb11.cell (p := ⟨g, 2, none⟩) hg9).trans c210; have f211 : w11.frozen? ⟨g, 2, none⟩ = false := (hb11.frozen (p := ⟨g, 2, none⟩) hg9).trans f210; have hg11w : g < w11.heap.size := cell_lt c211)
      have hln : (insL (p1, p2) s.sv).length = j + 1 + 0 := by rw [insL_len]; have := HNN.out; omega
      have hins : insL (p1, p2) s.sv = s.sv.take j ++ [(p1, p2)] ++ s.sv.drop j := by
        unfold insL
        obtain ⟨h1, h2⟩ := tw_take s.sv j (by have := HNN.out; omega) HJ.out (by
          intro e he
          first
            | (have h2 := HX.out; rw [he] at h2; obtain rfl := Option.some.inj h2; exact HBT.out)
            | (have h3 := (List.getElem?_eq_some_iff.1 he).1; have := HNN.out; omega))
        rw [h1, h2, List.append_assoc]
        rfl
      have hrow11 : OwnE encL 2 64 w11 w9.heap.size (.slice A11 (j + 1 + 0) c11) (insL (p1, p2) s.sv) := by
        unfold OwnE
        rw [hln, hins, flatE_app, flatE_app]
        exact HO11.out
      have hfr := own_fresh hrow11
      have hbt : Below w9.heap.size w9 w11 := KB10.out.trans hb11
      have hs11 := hbt.size
      have hh := HH.out
      have hlt := hh.lt
      have HFR := Lib.hid hfr
      have HBT2 := Lib.hid (hkB9.trans (hbt.mono hsz9) : Below w.heap.size w w11)
      have HR11 := Lib.hid (hh.resev (F := []) (Turn.below hbt (Nat.le_refl _)) (by simp) (by simp) (hrow11.less (Nat.zero_le _)) (fun e => by have := hfr _ e; omega) (fun b e e2 => by have h1 := hfr _ e2; have h2 := hlt b (by simp [footR, e]); omega) HOK.out)
      have hsw : w.heap.size ≤ w11.heap.size := by omega
      clear hln hins hrow11 hfr hbt hh hlt hb11 HO11 HG11 HRD
      generalize (if c = j then A else Option.map (fun x : Addr => x.add (j * 2)) A) = X64
      go_wp2_with (fail)
      refine (lose_both g lv _ _ a b _ HR11.out).mono ?_; rintro e w12 ⟨rfl, lv12, h1, h2, h3⟩
      have H1 := Lib.hid h1; have H2 := Lib.hid h2; have H3 := Lib.hid h3
      clear h1 h2 h3
      go_wp2
      go_ret
      refine ⟨rfl, lv12, _, H1.out, fun b hb => ?_, ?_⟩
      · rcases H2.out b hb with (h | h) | h
        · exact .inl (.inl h)
        · exact .inr (by have := HFR.out _ h; omega)
        · exact .inr (by have h2 : w11.heap.size ≤ b := by simpa using h
                         omega)
      · refine ((Turn.below (F := footR g lv (.slice A j c)) HBT2.out (Nat.le_refl _)).setCell (.inl (by simp [footR])) _).trans H3.out ?_
        intro b hb
        simp only [footR, List.mem_cons, List.mem_append, Option.mem_toList] at hb ⊢
        rcases hb with rfl | hb | hb
        · exact .inl (.inl rfl)
        · exact .inl (.inr (.inl hb))
        · exact .inr (by have := HFR.out _ hb; omega)
    · obtain ⟨ad, x, rfl, hab', hx, h4⟩ := HR.out.get hlt
      obtain ⟨P, hP⟩ : ∃ P, ad.add (j * 2) = P := ⟨_, rfl⟩
      have hPb : P.block < w.heap.size := by rw [← hP, block_of_add]; exact hab'
      rw [hP] at h4
      have e0 : wr.cell? P = some (.int .i64 x.1) := (kb0.cell (p := P) hPb).trans (by have := h4 0 _ rfl; rwa [add_z P] at this)
      have e1 : wr.cell? ⟨P.block, P.off + 1, none⟩ = some (.int .i64 x.2) := (kb0.cell (p := ⟨P.block, P.off + 1, none⟩) hPb).trans (by have := h4 1 _ rfl; rwa [add_next P 0] at this)
      have HX := Lib.hid hx
      clear h4 hx
      have CL : Hid (∀ W, Calls Try.prog 35 #[lAgg x, lAgg (p1, p2)] W fun e w' => e = .returned (.bool (ltL x (p1, p2))) ∧ Below W.heap.size W w') := Lib.hid (less_any x (p1, p2))
      cases hb : ltL x (p1, p2) with
      | true =>
        rw [hb] at CL
        have HBT := Lib.hid hb
        clear hb
        go_wp2
        refine wp_region_quietC_lit (KeptC w [(⟨g, 2, none⟩, .slice (some ad) n c), (P, .int .i64 x.1), (⟨P.block, P.off + 1, none⟩, .int .i64 x.2)] [⟨g, 2, none⟩]) (by kernel_rfl) (by kernel_rfl) ?_ ?_
        · refine KeptC.drewn ?_
          repeat' (first | refine KeptC.cons ?_ ?_ | refine KeptC.consF ?_ ?_ ?_ | refine KeptC.mk0 ?_)
          all_goals (first | with_reducible assumption | (go_simp; done) | (simp; omega) | exact (by repeat (first | with_reducible refine Below.setCell ?_ (by first | (simp; done) | (simp; omega) | omega) _ | with_reducible refine Below.alloc ?_ (by first | (simp; done) | (simp; omega) | omega) _ | with_reducible refine Below.drew ?_ | with_reducible refine below_drewN ?_ _ | with_reducible exact Below.refl _ _ | with_reducible refine Below.trans ?_ (Below.mono kb0 (by first | (simp; done) | (simp; omega) | omega)))))
        repeat (first
          | go_big_quiet_skip
          | (go_big_quiet_want; (apply quietC_run); (· intro w' hw'; (have hk' := hw'; simp only [KeptC, List.forall_mem_cons] at hk'; go_split_ands); go_simp; first | done | rfl); (simp only [Act.put, List.setIfInBounds_toArray, List.set_cons_zero, List.set_cons_succ]; go_big_quiet_on))
          | (go_big_quiet_want; (apply quietC_call); (· intro w' hw'; go_simp; first | done | exact ⟨rfl, rfl⟩ | rfl); (· intro w' hw'; first | ((with_reducible refine (C1.out _).mono ?_); rintro e w2 ⟨rfl, hb⟩; exact ⟨rfl, hw'.below hb⟩) | ((with_reducible refine (CL.out _).mono ?_); rintro e w2 ⟨rfl, hb⟩; exact ⟨rfl, hw'.below hb⟩)); (simp only [Act.put, List.setIfInBounds_toArray, List.set_cons_zero, List.set_cons_succ]; go_big_quiet_on)))
        refine wpQuiet_nil ?_
        intro w9 hk9
        (have hk' := hk9; simp only [KeptC, List.forall_mem_cons] at hk'; go_split_ands); have hkB9 := hk9.1
        go_wp2
        go_roundw
        case rel => exact ⟨j + 1, by omega, by go_num, Lib.hid (fun t ht e he => by
            rcases Nat.lt_or_ge t j with h1 | h1
            · exact HJ.out t h1 e he
            · obtain rfl : t = j := by omega
              have h2 := HX.out
              rw [he] at h2
              obtain rfl := Option.some.inj h2
              exact HBT.out), (by (repeat' (first | refine KeptC.cons ?_ ?_ | refine KeptC.consF ?_ ?_ ?_ | refine KeptC.mk0 ?_)); all_goals (first | with_reducible assumption | (go_simp; done) | (simp; omega) | exact (by repeat (first | with_reducible refine Below.setCell ?_ (by first | (simp; done) | (simp; omega) | omega) _ | with_reducible refine Below.alloc ?_ (by first | (simp; done) | (simp; omega) | omega) _ | with_reducible refine Below.drew ?_ | with_reducible refine below_drewN ?_ _ | with_reducible exact Below.refl _ _ | with_reducible refine Below.trans ?_ (Below.mono hkB9 (by first | (simp; done) | (simp; omega) | omega))))))⟩
        case measure => simp [intOf]; omega
      | false =>
        rw [hb] at CL
        have HBT := Lib.hid hb
        clear hb
        go_wp2
        refine wp_region_quietC_lit (KeptC w [(⟨g, 2, none⟩, .slice (some ad) n c), (P, .int .i64 x.1), (⟨P.block, P.off + 1, none⟩, .int .i64 x.2)] [⟨g, 2, none⟩]) (by kernel_rfl) (by kernel_rfl) ?_ ?_
        · refine KeptC.drewn ?_
          repeat' (first | refine KeptC.cons ?_ ?_ | refine KeptC.consF ?_ ?_ ?_ | refine KeptC.mk0 ?_)
          all_goals (first | with_reducible assumption | (go_simp; done) | (simp; omega) | exact (by repeat (first | with_reducible refine Below.setCell ?_ (by first | (simp; done) | (simp; omega) | omega) _ | with_reducible refine Below.alloc ?_ (by first | (simp; done) | (simp; omega) | omega) _ | with_reducible refine Below.drew ?_ | with_reducible refine below_drewN ?_ _ | with_reducible exact Below.refl _ _ | with_reducible refine Below.trans ?_ (Below.mono kb0 (by first | (simp; done) | (simp; omega) | omega)))))
        repeat (first
          | go_big_quiet_skip
          | (go_big_quiet_want; (apply quietC_run); (· intro w' hw'; (have hk' := hw'; simp only [KeptC, List.forall_mem_cons] at hk'; go_split_ands); go_simp; first | done | rfl); (simp only [Act.put, List.setIfInBounds_toArray, List.set_cons_zero, List.set_cons_succ]; go_big_quiet_on))
          | (go_big_quiet_want; (apply quietC_call); (· intro w' hw'; go_simp; first | done | exact ⟨rfl, rfl⟩ | rfl); (· intro w' hw'; first | ((with_reducible refine (C1.out _).mono ?_); rintro e w2 ⟨rfl, hb⟩; exact ⟨rfl, hw'.below hb⟩) | ((with_reducible refine (CL.out _).mono ?_); rintro e w2 ⟨rfl, hb⟩; exact ⟨rfl, hw'.below hb⟩)); (simp only [Act.put, List.setIfInBounds_toArray, List.set_cons_zero, List.set_cons_succ]; go_big_quiet_on)))
        refine wpQuiet_nil ?_
        intro w9 hk9
        (have hk' := hk9; simp only [KeptC, List.forall_mem_cons] at hk'; go_split_ands); have hkB9 := hk9.1
        have hh := HB.out.below hkB9
        have hcap2 : (c : Int) ≤ 9223372036854775807 := by have := HCP.out.2; unfold maxLen at this; omega
        have hcap1 := HCP.out.1
        have hic : j ≤ c := by omega
        have hicZ : (j : Int) ≤ (c : Int) := by omega
        have hicN : (j : Int) ≤ (n : Int) := by omega
        have h0j : 0 ≤ (j : Int) := by omega
        have hsz9 := hkB9.size
        have c29 := hh.c2
        have f29 := hh.f2
        have HRW : Hid (RowsE encL 2 w9 w9.heap.size (some ad) s.sv.length s.sv) := Lib.hid ((OwnE.at_ encL_len hh.rs).elim fun A' x => x.elim fun c' y => by
          obtain ⟨e, hr⟩ := y
          obtain ⟨rfl, -, rfl⟩ := Value.slice.inj e
          exact hr)
        have HRT : Hid (Reads w9 w9.heap.size 2 (some ad) j (flatE encL (s.sv.take j))) := Lib.hid ((HRW.out.take (by have := HNN.out; omega)).reads encL_len)
        have HH := Lib.hid hh
        have hg9 : g < w9.heap.size := by omega
        have B1 : Hid (0 + j ≤ maxLen) := Lib.hid (wid_ok HM.out (n := 0 + j) (by omega)).1
        have B2 : Hid ((0 + j + (0 + j) / 4 + 192) * 16 ≤ 281474976710656) := Lib.hid (wid_ok HM.out (n := 0 + j) (by omega)).2
        clear hh
        go_wp2_with (at_builtin; refine wpList_append_wide _ rfl (.tmp 41) (.tmp 48) _ rfl w9.heap.size 64 i0 _ 2 16 Try.underlying48 hi0 hj0 hj1 hj2 rfl (by omega) (.slice none 0 0) 0 [] rfl ⟨by simp, .inl ⟨rfl, rfl⟩⟩ w9.heap.size (some ad) j c (flatE encL (s.sv.take j)) rfl (by exact HRT.out) (flatE_one encL_one _) B1.out B2.out (by simp) ?_; intro v6 w6 hown6 hg6; rw [Nat.zero_add, List.nil_append] at hown6; obtain ⟨A6, c6, hv6⟩ := row_slice' hown6; subst hv6; have HG6 := Lib.hid hg6; have HO6 := Lib.hid hown6; clear hown6 hg6; have hb6 : Below w9.heap.size w9 w6 := (row_grown (base := w9.heap.size) (W := w9) (v := .slice none 0 0) (n := 0) (size := 2) (e := 64) (xs := []) ⟨by simp, .inl ⟨rfl, rfl⟩⟩ HG6.out (by simp)); have c26 : w6.cell? ⟨g, 2, none⟩ = some (.slice (some ad) n c) := (hb6.cell (p := ⟨g, 2, none⟩) hg9).trans c29; have f26 : w6.frozen? ⟨g, 2, none⟩ = false := (hb6.frozen (p := ⟨g, 2, none⟩) hg9).trans f29; have hg6w : g < w6.heap.size := cell_lt c26)
        refine (C1.out _).mono ?_; rintro e w7 ⟨rfl, hb7⟩
        have hlj : (s.sv.take j).length = j := by rw [List.length_take]; have := HNN.out; omega
        have ho6 : OwnE encL 2 64 w6 w9.heap.size (.slice A6 j c6) (s.sv.take j) := by unfold OwnE; rw [hlj]; exact HO6.out
        have hs67 := hb7.size
        have ho7 := ho6.below hb7
        have ho8 : OwnE encL 2 64 (w7.alloc (Obj.cells #[.int .i64 p1, .int .i64 p2] 64)) w9.heap.size (.slice A6 j c6) (s.sv.take j) := ho7.below (by repeat (first | with_reducible refine Below.setCell ?_ (by first | (simp; done) | (simp; omega) | omega) _ | with_reducible refine Below.alloc ?_ (by first | (simp; done) | (simp; omega) | omega) _ | with_reducible refine Below.drew ?_ | with_reducible refine below_drewN ?_ _ | with_reducible exact Below.refl _ _))
        have HO8 : Hid ((w7.alloc (Obj.cells #[.int .i64 p1, .int .i64 p2] 64)).ownsRow w9.heap.size 64 2 (.slice A6 j c6) j (flatE encL (s.sv.take j))) := Lib.hid (by unfold OwnE at ho8; rw [hlj] at ho8; exact ho8)
        have HRP := Lib.hid (lcells_new w7 p1 p2)
        have hb96 : w9.heap.size ≤ w6.heap.size := hb6.size
        have kb7 : Below w9.heap.size w9 w7 := hb6.trans (hb7.mono hb96)
        have c27 : w7.cell? ⟨g, 2, none⟩ = some (.slice (some ad) n c) := (hb7.cell (p := ⟨g, 2, none⟩) hg6w).trans c26
        have f27 : w7.frozen? ⟨g, 2, none⟩ = false := (hb7.frozen (p := ⟨g, 2, none⟩) hg6w).trans f26
        have hg7w : g < w7.heap.size := cell_lt c27
        have h97 : w9.heap.size ≤ w7.heap.size := kb7.size
        have KB7 := Lib.hid kb7
        have B3 : Hid (j + 1 ≤ maxLen) := Lib.hid (wid_ok HM.out (n := j + 1) (by omega)).1
        have B4 : Hid ((j + 1 + (j + 1) / 4 + 192) * 16 ≤ 281474976710656) := Lib.hid (wid_ok HM.out (n := j + 1) (by omega)).2
        clear ho6 ho7 ho8 HO6 HG6 hb6 hb7 c26 f26 kb7 c29 f29
        go_upto_region 10 with (at_builtin; refine wpList_append_wide _ rfl (.tmp 50) (.tmp 54) _ rfl w9.heap.size 64 i0 _ 2 16 Try.underlying48 hi0 hj0 hj1 hj2 rfl (by omega) (.slice A6 j c6) j (flatE encL (s.sv.take j)) rfl (by exact HO8.out) (w7.heap.size + 1) (some ⟨w7.heap.size, 0, none⟩) 1 1 [.int .i64 p1, .int .i64 p2] rfl (by exact HRP.out) (by simp [Value.oneCell']) B3.out B4.out (by simp; omega) ?_; intro v10 w10 hown10 hg10; obtain ⟨A10, c10, hv10⟩ := row_slice' hown10; subst hv10; have HG10 := Lib.hid hg10; have HO10 := Lib.hid hown10; clear hown10 hg10; have hb10 : Below w9.heap.size (w7.alloc (Obj.cells #[.int .i64 p1, .int .i64 p2] 64)) w10 := row_grown HO8.out HG10.out (by simp; omega); have c210 : w10.cell? ⟨g, 2, none⟩ = some (.slice (some ad) n c) := (hb10.cell (p := ⟨g, 2, none⟩) hg9).trans (by go_simp); have f210 : w10.frozen? ⟨g, 2, none⟩ = false := (hb10.frozen (p := ⟨g, 2, none⟩) hg9).trans (by go_simp); have hg10w : g < w10.heap.size := cell_lt c210)
        have kb10 : Below w9.heap.size w9 w10 := KB7.out.trans (((by repeat (first | with_reducible refine Below.setCell ?_ (by first | (simp; done) | (simp; omega) | omega) _ | with_reducible refine Below.alloc ?_ (by first | (simp; done) | (simp; omega) | omega) _ | with_reducible refine Below.drew ?_ | with_reducible refine below_drewN ?_ _ | with_reducible exact Below.refl _ _)) : Below w9.heap.size w7 (w7.alloc (Obj.cells #[.int .i64 p1, .int .i64 p2] 64))).trans hb10)
        have hrd := (HRW.out.reads encL_len).cut (k := j) (cap := c) (by have := HNN.out; omega) (by have := HNN.out; omega)
        rw [flatE_drop encL_len, show s.sv.length - j = (n - j) by have := HNN.out; omega] at hrd
        rw [if_neg (by omega : ¬ c = j), show Option.map (fun x => x.add (j * 2)) (some ad) = some P from congrArg some hP] at hrd
        have HRD := Lib.hid (hrd.below kb10)
        have hs910 := kb10.size
        have KB10 := Lib.hid kb10
        have B5 : Hid (j + 1 + (n - j) ≤ maxLen) := Lib.hid (wid_ok HM.out (n := j + 1 + (n - j)) (by omega)).1
        have B6 : Hid ((j + 1 + (n - j) + (j + 1 + (n - j)) / 4 + 192) * 16 ≤ 281474976710656) := Lib.hid (wid_ok HM.out (n := j + 1 + (n - j)) (by omega)).2
        clear hrd kb10 hb10 HO8 HG10 c27 f27 HRT HRP
        go_upto_region 11 with (at_builtin; refine wpList_append_wide _ rfl (.tmp 57) (.tmp 64) _ rfl w9.heap.size 64 i0 _ 2 16 Try.underlying48 hi0 hj0 hj1 hj2 rfl (by omega) (.slice A10 (j + 1) c10) (j + 1) (flatE encL (s.sv.take j) ++ [.int .i64 p1, .int .i64 p2]) rfl (by exact HO10.out) w9.heap.size (some P) (n - j) (c - j) (flatE encL (s.sv.drop j)) rfl (by exact HRD.out) (flatE_one encL_one _) B5.out B6.out (by exact hs910) ?_; intro v11 w11 hown11 hg11; obtain ⟨A11, c11, hv11⟩ := row_slice' hown11; subst hv11; have HG11 := Lib.hid hg11; have HO11 := Lib.hid hown11; clear hown11 hg11; have hb11 : Below w9.heap.size w10 w11 := row_grown HO10.out HG11.out (by exact hs910); have c211 : w11.cell? ⟨g, 2, none⟩ = some (.slice (some ad) n c) := (hb11.cell (p := ⟨g, 2, none⟩) hg9).trans c210; have f211 : w11.frozen? ⟨g, 2, none⟩ = false := (hb11.frozen (p := ⟨g, 2, none⟩) hg9).trans f210; have hg11w : g < w11.heap.size := cell_lt c211)
        have hln : (insL (p1, p2) s.sv).length = j + 1 + (n - j) := by rw [insL_len]; have := HNN.out; omega
        have hins : insL (p1, p2) s.sv = s.sv.take j ++ [(p1, p2)] ++ s.sv.drop j := by
          unfold insL
          obtain ⟨h1, h2⟩ := tw_take s.sv j (by have := HNN.out; omega) HJ.out (by
            intro e he
            first
              | (have h2 := HX.out; rw [he] at h2; obtain rfl := Option.some.inj h2; exact HBT.out)
              | (have h3 := (List.getElem?_eq_some_iff.1 he).1; have := HNN.out; omega))
          rw [h1, h2, List.append_assoc]
          rfl
        have hrow11 : OwnE encL 2 64 w11 w9.heap.size (.slice A11 (j + 1 + (n - j)) c11) (insL (p1, p2) s.sv) := by
          unfold OwnE
          rw [hln, hins, flatE_app, flatE_app]
          exact HO11.out
        have hfr := own_fresh hrow11
        have hbt : Below w9.heap.size w9 w11 := KB10.out.trans hb11
        have hs11 := hbt.size
        have hh := HH.out
        have hlt := hh.lt
        have HFR := Lib.hid hfr
        have HBT2 := Lib.hid (hkB9.trans (hbt.mono hsz9) : Below w.heap.size w w11)
        have HR11 := Lib.hid (hh.resev (F := []) (Turn.below hbt (Nat.le_refl _)) (by simp) (by simp) (hrow11.less (Nat.zero_le _)) (fun e => by have := hfr _ e; omega) (fun b e e2 => by have h1 := hfr _ e2; have h2 := hlt b (by simp [footR, e]); omega) HOK.out)
        have hsw : w.heap.size ≤ w11.heap.size := by omega
        clear hln hins hrow11 hfr hbt hh hlt hb11 HO11 HG11 HRD
        go_wp2_with (fail)
        refine (lose_both g lv _ _ a b _ HR11.out).mono ?_; rintro e w12 ⟨rfl, lv12, h1, h2, h3⟩
        have H1 := Lib.hid h1; have H2 := Lib.hid h2; have H3 := Lib.hid h3
        clear h1 h2 h3
        go_wp2
        go_ret
        refine ⟨rfl, lv12, _, H1.out, fun b hb => ?_, ?_⟩
        · rcases H2.out b hb with (h | h) | h
          · exact .inl (.inl h)
          · exact .inr (by have := HFR.out _ h; omega)
          · exact .inr (by have h2 : w11.heap.size ≤ b := by simpa using h
                           omega)
        · refine ((Turn.below (F := footR g lv (.slice (some ad) n c)) HBT2.out (Nat.le_refl _)).setCell (.inl (by simp [footR])) _).trans H3.out ?_
          intro b hb
          simp only [footR, List.mem_cons, List.mem_append, Option.mem_toList] at hb ⊢
          rcases hb with rfl | hb | hb
          · exact .inl (.inl rfl)
          · exact .inl (.inr (.inl hb))
          · exact .inr (by have := HFR.out _ hb; omega)
end Go.Proofs.Ytdaobbffhfbceaa
