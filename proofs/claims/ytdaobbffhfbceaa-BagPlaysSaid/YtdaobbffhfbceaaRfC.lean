/- The reference's Put and Double: what each call computes. -/
import Derived.Test.YtdaobbffhfbceaaRfB
namespace Go.Proofs.Ytdaobbffhfbceaa
open Go.RowKit Go.Shelf
set_option linter.unusedVariables false
set_option linter.unusedSimpArgs false
set_option maxRecDepth 100000
theorem sevB_find {s : BS} {a b : Int} : sevB s a b = (findL s.sv (lnk a b)).isSome := by
  cases h : findL s.sv (lnk a b) with
  | none =>
    have := findL_none.1 h
    exact Bool.eq_false_iff.2 fun e => this (sevB_iff.1 e)
  | some i =>
    have := findL_some h
    exact sevB_iff.2 (List.mem_of_getElem? this)
theorem sev_none {s : BS} {a b : Int} (h : sevB s a b = false) : findL s.sv (lnk a b) = none := by
  rw [sevB_find] at h
  exact Option.isNone_iff_eq_none.1 (by simpa using h)
theorem sev_some {s : BS} {a b : Int} (h : sevB s a b = true) : ∃ i, findL s.sv (lnk a b) = some i ∧ i < s.sv.length := by
  rw [sevB_find] at h
  obtain ⟨i, hi⟩ := Option.isSome_iff_exists.1 h
  exact ⟨i, hi, (List.getElem?_eq_some_iff.1 (findL_some hi)).1⟩
set_option maxHeartbeats 1000000 in
theorem rput_lost (g : Nat) (lv sv : Value) (s : BS) (a b : Int) (t : ByteArray) (w : World) (h : RefAt w g lv sv s) (hm : s.sv.length ≤ maxLen) (hsv : sevB s a b = true) :
    Calls Try.prog 36 #[.pointer (some ⟨g, 0, none⟩), .int .i64 a, .int .i64 b, .string t] w fun e w' => e = .returned (.tuple #[.int .i64 0, .int .i64 34]) ∧ Below w.heap.size w w' := by
  obtain ⟨A, c, rfl⟩ := row_slice' h.rl
  have cs := severed_any g _ sv s a b w h hm
  have HB := Lib.hid h
  obtain ⟨i, hi, hil⟩ := sev_some hsv
  rw [hi] at cs
  have hp : plc (some i) = (i : Int) := rfl
  rw [hp] at cs
  have CS := Lib.hid cs
  simp only [maxLen] at hm
  clear h cs hi hp
  go_enter Try.func36, Try.ntmps36
  go_wp2_with (fail)
  refine CS.out.mono ?_; rintro e w1 ⟨rfl, hb1⟩
  go_wp2
  go_ret2
  exact ⟨rfl, hb1⟩
set_option maxHeartbeats 1000000 in
theorem rput_full (g : Nat) (lv sv : Value) (s : BS) (a b : Int) (t : ByteArray) (w : World) (h : RefAt w g lv sv s) (hm : s.sv.length ≤ maxLen) (hsv : sevB s a b = false) (hf : 65536 ≤ s.ls.length ∨ 4611686018427387904 ≤ s.nx) :
    Calls Try.prog 36 #[.pointer (some ⟨g, 0, none⟩), .int .i64 a, .int .i64 b, .string t] w fun e w' => e = .returned (.tuple #[.int .i64 0, .int .i64 30]) ∧ Below w.heap.size w w' := by
  obtain ⟨A, c, rfl⟩ := row_slice' h.rl
  have cs := severed_any g _ sv s a b w h hm
  have HB := Lib.hid h
  have hi := sev_none hsv
  rw [hi] at cs
  have hp : plc none = (-1 : Int) := rfl
  rw [hp] at cs
  have CS := Lib.hid cs
  clear cs hi hp
  by_cases h1 : 65536 ≤ s.ls.length
  · have h1' : decide ((s.ls.length : Int) ≥ 65536) = true := by simp; omega
    have h1'' : (65536 : Int) ≤ (s.ls.length : Int) := by omega
    clear hf h h1
    go_enter Try.func36, Try.ntmps36
    go_wp2_with (fail)
    refine CS.out.mono ?_; rintro e w1 ⟨rfl, hb1⟩
    have hh := HB.out.below hb1
    have c0 := hh.c0
    have c1 := hh.c1
    have c2 := hh.c2
    have hg1 := cell_lt c0
    simp only [] at hg1
    clear hh
    go_wp2
    go_ret2
    exact ⟨rfl, hb1⟩
  · have h2 : s.nx = 4611686018427387904 := by have := h.ok.nx1; have := hf.resolve_left h1; omega
    have h1' : ¬ (65536 : Int) ≤ (s.ls.length : Int) := by omega
    have hq : (s.nx == 4611686018427387904) = true := by simpa using h2
    have hl := h.ok.len
    clear hf h h2 h1
    go_enter Try.func36, Try.ntmps36
    go_wp2_with (fail)
    refine CS.out.mono ?_; rintro e w1 ⟨rfl, hb1⟩
    have hh := HB.out.below hb1
    have c0 := hh.c0
    have c1 := hh.c1
    have c2 := hh.c2
    have hg1 := cell_lt c0
    simp only [] at hg1
    clear hh
    go_wp2
    go_ret2
    exact ⟨rfl, hb1⟩
set_option maxHeartbeats 1000000 in
theorem rput_ok (g : Nat) (lv sv : Value) (s : BS) (a b : Int) (t : ByteArray) (w : World) (h : RefAt w g lv sv s) (hm : s.sv.length ≤ maxLen) (ha : i64B a) (hb : i64B b) (hsv : sevB s a b = false) (hf1 : ¬ 65536 ≤ s.ls.length) (hf2 : ¬ 4611686018427387904 ≤ s.nx) :
    Calls Try.prog 36 #[.pointer (some ⟨g, 0, none⟩), .int .i64 a, .int .i64 b, .string t] w fun e w' => e = .returned (.tuple #[.int .i64 (s.nx + 1), .int .i64 0]) ∧ ∃ lv' sv', RefAt w' g lv' sv' ⟨s.nx + 1, s.ls ++ [⟨s.nx + 1, a, b, t⟩], s.sv⟩ ∧ MovedR w lv sv lv' sv' ∧ Turn (footR g lv sv) w w' := by
  obtain ⟨i0, hi0, hj0, hj1, hj2⟩ := info_parts dg_inf
  obtain ⟨A, c, rfl⟩ := row_slice' h.rl
  have cs := severed_any g _ sv s a b w h hm
  have HB := Lib.hid h
  have hi := sev_none hsv
  rw [hi] at cs
  have hp : plc none = (-1 : Int) := rfl
  rw [hp] at cs
  have CS := Lib.hid cs
  clear cs hi hp
  have HLL : Hid (s.ls.length ≤ 65536) := Lib.hid (by omega)
  have hq1 : decide ((65536 : Int) ≤ (s.ls.length : Int)) = false := by simp; omega
  have hq2 : (s.nx == 4611686018427387904) = false := by simp; omega
  obtain ⟨m, hmm⟩ : ∃ m, s.nx + 1 = m := ⟨_, rfl⟩
  have hw : wrap64 (s.nx + 1) = m := by have := h.ok.nx0; unfold wrap64; omega
  have HM := Lib.hid hmm
  have HNM := Lib.hid (okS_num h.ok hf2)
  have HPU := Lib.hid (okS_put (t := t) h.ok ha hb hf1 hf2)
  clear h hf1 hmm hf2 hm
  rw [HM.out] at HNM HPU ⊢
  go_enter Try.func36, Try.ntmps36
  go_wp2_with (fail)
  refine CS.out.mono ?_; rintro e w1 ⟨rfl, hb1⟩
  have hh := HB.out.below hb1
  have c0 := hh.c0
  have c1 := hh.c1
  have c2 := hh.c2
  have hg1 := cell_lt c0
  simp only [] at hg1
  have f0 := hh.f0
  have HB1 := Lib.hid hh
  clear hh
  go_wp2_with (fail)
  refine lay0 (fun W => RefAt W g (.slice A s.ls.length c) sv ⟨m, s.ls, s.sv⟩ ∧ Turn (footR g (.slice A s.ls.length c) sv) w W) ⟨HB1.out.renum HNM.out, (Turn.below hb1 (Nat.le_refl _)).setCell (.inl (by simp [footR])) _⟩ ?_
  rintro w10 ⟨hb10, ht10⟩
  have d0 := hb10.c0
  have d1 := hb10.c1
  have e1 := hb10.f1
  have hbl10 := cell_lt d0
  simp only [] at hbl10
  have HRW : Hid (w10.ownsRow 0 33 4 (.slice A s.ls.length c) s.ls.length (flatE encD s.ls)) := Lib.hid hb10.rl
  have HNE : Hid (some g ≠ (Value.slice A s.ls.length c).ownBlock) := Lib.hid (Ne.symm hb10.n1)
  have HRD : Hid (Reads (w10.alloc (Obj.cells #[.int .i64 m, .int .i64 a, .int .i64 b, .string t] 33)) (w10.heap.size + 1) 4 (some ⟨w10.heap.size, 0, none⟩) 1 (encD ⟨m, a, b, t⟩)) := Lib.hid ⟨rfl, fun _ => ⟨_, rfl, Nat.lt_succ_self _, dcells_new w10 ⟨m, a, b, t⟩⟩⟩
  have HB10 := Lib.hid hb10
  have HT10 := Lib.hid ht10
  clear hb10 ht10 HB1 f0 c0 c1 c2 hw HNM
  simp only [] at d0 d1
  have hl := HLL.out
  go_region_law (refine step_append_any _ rfl (.tmp 44) (.tmp 54) _ rfl 0 33 i0 _ 4 40 Try.underlying43 hi0 hj0 hj1 hj2 rfl (by omega) (.slice A s.ls.length c) s.ls.length (flatE encD s.ls) rfl (by exact HRW.out.alloc _) (w10.heap.size + 1) (some ⟨w10.heap.size, 0, none⟩) 1 1 (encD ⟨m, a, b, t⟩) rfl (by exact HRD.out) (encD_one _) (by simp only [maxLen]; omega) (by omega) (by omega) ?_; intro v6 w6 hown6 hg6 hat6; obtain ⟨A6, c6, hv6⟩ := row_slice' hown6; subst hv6; have qq := (hg6.block g (by simp; omega) (by first | exact HNE.out | (intro e; exact HNE.out e.symm))); have q2 : w6.cell? ⟨g, 1, none⟩ = some (.slice A s.ls.length c) := (World.cell?_of_block (a := ⟨g, 1, none⟩) qq).trans (by go_simp); have g2 : w6.frozen? ⟨g, 1, none⟩ = false := (frozen_of_block (p := ⟨g, 1, none⟩) qq).trans (by go_simp); have q1 : w6.cell? ⟨g, 0, none⟩ = some (.int .i64 m) := (World.cell?_of_block (a := ⟨g, 0, none⟩) qq).trans (by go_simp); have hs6 := hg6.size; (try simp at hs6); have hb6 : g < w6.heap.size := (by omega); have HO6 := Lib.hid hown6; have HG6 := Lib.hid hg6; have HA6 := Lib.hid hat6; clear hown6 hg6 hat6 qq)
  all_goals
    have hT6 : Turn (Value.slice A s.ls.length c).ownBlock.toList w10 w6 := (Turn.below (B := w10.heap.size) (Below.drew ((Below.refl _ _).alloc (Nat.le_refl _) (Obj.cells #[.int .i64 m, .int .i64 a, .int .i64 b, .string t] 33))) (Nat.le_refl _)).grown HG6.out (fun j e => .inl (by rw [e]; simp))
    have hrow6 : RowD w6 (.slice A6 (s.ls.length + 1) c6) (s.ls ++ [⟨m, a, b, t⟩]) := by
      unfold RowD OwnE
      rw [flatE_snoc, List.length_append]
      exact HO6.out
    have hne6 : (Value.slice A6 (s.ls.length + 1) c6).ownBlock ≠ some g := by
      rcases HA6.out with e | e
      · rw [e]; exact HB10.out.n1
      · rw [e]
        intro e2
        have := Option.some.inj e2
        simp at this
        omega
    have hns6 : ∀ b, (Value.slice A6 (s.ls.length + 1) c6).ownBlock = some b → sv.ownBlock ≠ some b := by
      intro b e
      rcases HA6.out with e2 | e2
      · rw [e2] at e; exact HB10.out.n3 b e
      · rw [e2] at e
        intro e3
        have h1 := Option.some.inj e
        have h2 := rowK_lt HB10.out.rs e3
        simp at h1
        omega
    have hbf := HB10.out.relist hT6 (fun hm => HB10.out.n1 (Option.mem_toList.1 hm)) (fun b e hm => HB10.out.n3 b (Option.mem_toList.1 hm) e) hrow6 hne6 hns6 HPU.out
    have HBF := Lib.hid hbf
    have HTF : Hid (Turn (footR g (.slice A s.ls.length c) sv) w (w6.setCell ⟨g, 1, none⟩ (.slice A6 (s.ls.length + 1) c6))) := Lib.hid ((HT10.out.trans hT6 (fun b hb => .inl (by simp only [footR, List.mem_cons, List.mem_append]; exact .inr (.inl hb)))).setCell (.inl (by simp [footR])) _)
    have hwz := HT10.out.size
    clear hT6 hrow6 hne6 hns6 hbf hl
    go_wp2
    go_ret2
    exact ⟨rfl, _, _, HBF.out, (fun b hb => by
      rcases hb with hb | hb
      · rcases HA6.out with e | e
        · rw [e] at hb; exact .inl (.inl hb)
        · rw [e] at hb
          have h1 := Option.some.inj hb
          simp at h1
          exact .inr (by omega)
      · exact .inl (.inr hb)), HTF.out⟩
set_option maxHeartbeats 1000000 in
theorem rput_any (g : Nat) (lv sv : Value) (s : BS) (a b : Int) (t : ByteArray) (w : World) (h : RefAt w g lv sv s) (hm : s.sv.length ≤ maxLen) (ha : i64B a) (hb : i64B b) :
    Calls Try.prog 36 #[.pointer (some ⟨g, 0, none⟩), .int .i64 a, .int .i64 b, .string t] w fun e w' => e = .returned (.tuple #[.int .i64 (putS s a b t).2.1, .int .i64 (putS s a b t).2.2]) ∧ ∃ lv' sv', RefAt w' g lv' sv' (putS s a b t).1 ∧ MovedR w lv sv lv' sv' ∧ Turn (footR g lv sv) w w' := by
  unfold putS
  cases hsv : sevB s a b with
  | true =>
    rw [if_pos rfl]
    refine (rput_lost g lv sv s a b t w h hm hsv).mono ?_
    rintro e w' ⟨rfl, hb'⟩
    exact ⟨rfl, lv, sv, h.below hb', MovedR.refl _ _ _, Turn.below hb' (Nat.le_refl _)⟩
  | false =>
    rw [if_neg (by simp)]
    by_cases hf : 65536 ≤ s.ls.length ∨ 4611686018427387904 ≤ s.nx
    · rw [if_pos hf]
      refine (rput_full g lv sv s a b t w h hm hsv hf).mono ?_
      rintro e w' ⟨rfl, hb'⟩
      exact ⟨rfl, lv, sv, h.below hb', MovedR.refl _ _ _, Turn.below hb' (Nat.le_refl _)⟩
    · rw [if_neg hf]
      exact rput_ok g lv sv s a b t w h hm ha hb hsv (fun e => hf (.inl e)) (fun e => hf (.inr e))
end Go.Proofs.Ytdaobbffhfbceaa
