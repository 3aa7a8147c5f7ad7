/- Whatever two wide numbers: eddylaw01's NumWides returns true. No conditions. -/
import Derived.Test.YtmgpknadefhikaaAwk
import Derived.Test.YtmgpknadefhikaaNumF
namespace Go.Proofs.Ytmgpknadefhikaa
open Go.ChangeShapes Go.WideShapes Go.ChangeAt Go.RowKit Go.Joins
set_option linter.unusedVariables false
theorem word_wide {h l : Int} (h1 : Word h) (h2 : Word l) : ∃ n : Nat, n < M128 ∧ wideN n = ⟨h, l⟩ := by
  obtain ⟨a, rfl⟩ := Int.eq_ofNat_of_zero_le h1.1
  obtain ⟨b, rfl⟩ := Int.eq_ofNat_of_zero_le h2.1
  have ha : a < 18446744073709551616 := by have := h1.2; omega
  have hb : b < 18446744073709551616 := by have := h2.2; omega
  exact ⟨a * 18446744073709551616 + b, by unfold M128; omega, by simp only [wideN, W.mk.injEq]; omega⟩
set_option maxRecDepth 100000 in
set_option maxHeartbeats 8000000 in
theorem numWides_any (a1 a2 b1 b2 : Int) (w : World) (ha1 : Word a1) (ha2 : Word a2) (hb1' : Word b1) (hb2' : Word b2) :
    Calls Try.prog 8 #[.agg #[.int .u64 a1, .int .u64 a2], .agg #[.int .u64 b1, .int .u64 b2]] w fun e w' => e = .returned (.bool true) ∧ Below w.heap.size w w' := by
  obtain ⟨n, hn, hw⟩ := word_wide ha1 ha2
  have c1 := fun w => wplus_any a1 a2 b1 b2 w ha1 ha2 hb1' hb2'
  have c2 := fun w => wrplus_any a1 a2 b1 b2 w ha1 ha2 hb1' hb2'
  have c3 := fun w => wdrop_any a1 a2 b1 b2 w ha1 ha2 hb1' hb2'
  have c4 := fun w => wrdrop_any a1 a2 b1 b2 w ha1 ha2 hb1' hb2'
  have c5 := wless_any a1 a2 b1 b2
  have c6 := wrless_any a1 a2 b1 b2
  have c7 := fun w => text_any n hn w
  have c8 := fun w => rtext_any n hn w
  rw [hw] at c7 c8
  generalize plusW ⟨a1, a2⟩ ⟨b1, b2⟩ = s at *
  generalize dropW ⟨a1, a2⟩ ⟨b1, b2⟩ = d at *
  generalize lessW ⟨a1, a2⟩ ⟨b1, b2⟩ = t at *
  generalize (⟨(digs n).toArray⟩ : ByteArray) = str at *
  obtain ⟨⟨s1, s2⟩, sk⟩ := s
  obtain ⟨⟨d1, d2⟩, dk⟩ := d
  have C1 := Lib.hid c1; have C2 := Lib.hid c2; have C3 := Lib.hid c3; have C4 := Lib.hid c4; have C5 := Lib.hid c5; have C6 := Lib.hid c6; have C7 := Lib.hid c7; have C8 := Lib.hid c8
  clear c1 c2 c3 c4 c5 c6 c7 c8 hw hn ha1 ha2 hb1' hb2'
  go_enter Try.func8, Try.ntmps8
  go_wp2_with (fail)
  refine (C1.out _).mono ?_; rintro e w1 ⟨rfl, hb1⟩; obtain ⟨hc1, hf1⟩ := bcell hb1; have hz1 := hb1.size; (try simp at hz1); have hz1_0 : w.heap.size < w1.heap.size := (by omega); have hz1_1 : w.heap.size + 1 < w1.heap.size := (by omega)
  go_wp2_with (fail)
  refine (C2.out _).mono ?_; rintro e w2 ⟨rfl, hb2⟩; obtain ⟨hc2, hf2⟩ := bcell hb2; have hz2 := hb2.size; (try simp at hz2); have hz2_0 : w.heap.size < w2.heap.size := (by omega); have hz2_1 : w.heap.size + 1 < w2.heap.size := (by omega); have hz2_2 : w1.heap.size < w2.heap.size := (by omega)
  go_wp2_with (fail)
  refine (C3.out _).mono ?_; rintro e w3 ⟨rfl, hb3⟩; obtain ⟨hc3, hf3⟩ := bcell hb3; have hz3 := hb3.size; (try simp at hz3); have hz3_0 : w.heap.size < w3.heap.size := (by omega); have hz3_1 : w.heap.size + 1 < w3.heap.size := (by omega); have hz3_2 : w1.heap.size < w3.heap.size := (by omega); have hz3_3 : w2.heap.size < w3.heap.size := (by omega)
  go_wp2_with (fail)
  refine (C4.out _).mono ?_; rintro e w4 ⟨rfl, hb4⟩; obtain ⟨hc4, hf4⟩ := bcell hb4; have hz4 := hb4.size; (try simp at hz4); have hz4_0 : w.heap.size < w4.heap.size := (by omega); have hz4_1 : w.heap.size + 1 < w4.heap.size := (by omega); have hz4_2 : w1.heap.size < w4.heap.size := (by omega); have hz4_3 : w2.heap.size < w4.heap.size := (by omega); have hz4_4 : w3.heap.size < w4.heap.size := (by omega)
  go_wp2
  refine wp_region_quietC_lit (KeptC w [(⟨w.heap.size, 0, none⟩, .int .u64 a1), (⟨w.heap.size, 1, none⟩, .int .u64 a2), (⟨w.heap.size + 1, 0, none⟩, .int .u64 b1), (⟨w.heap.size + 1, 1, none⟩, .int .u64 b2), (⟨w1.heap.size, 0, none⟩, .int .u64 s1), (⟨w1.heap.size, 1, none⟩, .int .u64 s2), (⟨w2.heap.size, 0, none⟩, .int .u64 s1), (⟨w2.heap.size, 1, none⟩, .int .u64 s2), (⟨w3.heap.size, 0, none⟩, .int .u64 d1), (⟨w3.heap.size, 1, none⟩, .int .u64 d2), (⟨w4.heap.size, 0, none⟩, .int .u64 d1), (⟨w4.heap.size, 1, none⟩, .int .u64 d2)] []) (by kernel_rfl) (by kernel_rfl) ?_ ?_
  · refine KeptC.drewn ?_
    repeat' (first | refine KeptC.cons ?_ ?_ | refine KeptC.consF ?_ ?_ ?_ | refine KeptC.mk0 ?_)
    all_goals (first | with_reducible assumption | (go_simp; done) | (simp; omega) | exact (by repeat (first | with_reducible refine Below.setCell ?_ (by first | (simp; done) | (simp; omega) | omega) _ | with_reducible refine Below.alloc ?_ (by first | (simp; done) | (simp; omega) | omega) _ | with_reducible refine Below.drew ?_ | with_reducible exact Below.refl _ _ | with_reducible refine Below.trans ?_ (Below.mono hb1 (by first | (simp; done) | (simp; omega) | omega)) | with_reducible refine Below.trans ?_ (Below.mono hb2 (by first | (simp; done) | (simp; omega) | omega)) | with_reducible refine Below.trans ?_ (Below.mono hb3 (by first | (simp; done) | (simp; omega) | omega)) | with_reducible refine Below.trans ?_ (Below.mono hb4 (by first | (simp; done) | (simp; omega) | omega)))))
  repeat (first
    | go_big_quiet_skip
    | (go_big_quiet_want; (apply quietC_run); (· intro w' hw'; (have hk' := hw'; simp only [KeptC, List.forall_mem_cons] at hk'; go_split_ands); go_simp; first | done | rfl); (simp only [Act.put, List.setIfInBounds_toArray, List.set_cons_zero, List.set_cons_succ]; go_big_quiet_on))
    | (go_big_quiet_want; (apply quietC_call); (· intro w' hw'; go_simp; first | done | exact ⟨rfl, rfl⟩ | rfl); (· intro w' hw'; first | ((with_reducible refine (C5.out _).mono ?_); rintro e w2 ⟨rfl, hb⟩; exact ⟨rfl, hw'.below hb⟩) | ((with_reducible refine (C6.out _).mono ?_); rintro e w2 ⟨rfl, hb⟩; exact ⟨rfl, hw'.below hb⟩) | ((with_reducible refine (C7.out _).mono ?_); rintro e w2 ⟨rfl, hb⟩; exact ⟨rfl, hw'.below hb⟩) | ((with_reducible refine (C8.out _).mono ?_); rintro e w2 ⟨rfl, hb⟩; exact ⟨rfl, hw'.below hb⟩) | ((with_reducible refine (awake_any _).mono ?_); rintro e w2 ⟨rfl, hb⟩; exact ⟨rfl, hw'.below hb⟩)); (simp only [Act.put, List.setIfInBounds_toArray, List.set_cons_zero, List.set_cons_succ]; go_big_quiet_on)))
  refine wpQuiet_nil ?_
  intro w5 hk5
  (have hk' := hk5; simp only [KeptC, List.forall_mem_cons] at hk'; go_split_ands); have hkB5 := hk5.1
  go_wp2
  go_ret
  exact ⟨rfl, hkB5⟩
theorem word_wf {x : Int} (h : (Lit.int .u64 x).wf = true) : Word x := by
  have := h
  simp [Lit.wf, IntKind.min, IntKind.max, IntKind.bits, IntKind.signed] at this
  exact ⟨this.1, by omega⟩
theorem open_wide {H : Type} {enc : TypeId × Value → H} {w : World} {base b0 : Nat} {spare : Nat → Bool} {held : Bool} {v : Value} {d : DataW H} {p : List MemPlace}
    (hv : Value.okWide Try.prog w .any b0 24 v) (h : DataW.Trod enc Try.prog w base spare held 24 v d p) :
    ∃ a b : Int, v = .agg #[.int .u64 a, .int .u64 b] ∧ Word a ∧ Word b := by
  obtain ⟨c0, c1, y0, y1, m, rfl, rfl, rfl, h0, h1⟩ := open_agg2 Try.underlying24 (by kernel_rfl) (by kernel_rfl) hv h
  obtain ⟨a, e0, _, wa⟩ := DataW.trod_int Try.underlying22 h0
  obtain ⟨b, e1, _, wb⟩ := DataW.trod_int Try.underlying22 h1
  simp at e0 e1
  subst e0 e1
  exact ⟨a, b, rfl, word_wf wa, word_wf wb⟩
theorem numWides_lifted (os : Os) (started : os.Started) (H : Type) (enc : TypeId × Value → H) :
    ReturnsInHanded {} Try.checked os 8 .any (Rows.numWidesSpec.pre6 enc Try.prog Try.f8 Rows.numWidesRow.domain false) (Rows.numWidesSpec.post enc Try.prog Try.f8 false true false false) := by
  refine returnsInHanded_of_change_sized (C := Try.checked) own started (by kernel_rfl) Try.func8
    (ChangeSpec.witness6 (enc := enc) (C := Try.checked) false ⟨#[], #[.agg #[.int .u64 0, .int .u64 0], .agg #[.int .u64 0, .int .u64 0]], []⟩ 8 (by kernel_rfl) (by kernel_rfl) (by kernel_rfl) (by kernel_rfl)) ?_
  intro W base args ds gs before hval hW _ hsz _
  have hW' := hW
  obtain ⟨p, q, hA, hV, rfl, hfz, hnd⟩ := hW
  obtain ⟨rfl, rfl⟩ := trodVars_none hV
  rw [Try.params8] at hA hval
  obtain ⟨v0, vs0, d0, ds0, p0, q0, hargs, rfl, rfl, h0, r0⟩ := trodAll_cons hA
  obtain ⟨v1, vs1, d1, ds1, p1, q1, rfl, rfl, rfl, h1, r1⟩ := trodAll_cons r0
  obtain ⟨rfl, rfl, rfl⟩ := trodAll_nil r1
  obtain rfl : args = #[v0, v1] := by cases args; simp_all
  obtain ⟨a1, a2, rfl, u1, u2⟩ := open_wide (hval 0 _ v0 rfl rfl) h0
  obtain ⟨b1, b2, rfl, u3, u4⟩ := open_wide (hval 1 _ v1 rfl rfl) h1
  refine (numWides_any a1 a2 b1 b2 W u1 u2 u3 u4).mono fun e W' ⟨he, hg⟩ => ?_
  subst he
  exact ⟨_, rfl, law_post laidOut rfl (by kernel_rfl) rfl Try.underlying4 rfl hW' hg⟩

theorem numWides_holds : Rows.NumWidesSaid :=
  OpenClaim.holds_of_wide 8 Try.f8 rfl rfl rfl rfl rfl rfl rfl ⟨rfl, rfl, rfl, rfl, rfl⟩ rfl rfl rfl rfl rfl (by kernel_rfl) Try.func8 (by kernel_rfl)
    (of_decide_eq_true (by kernel_rfl)) (by unfold Func.isWrapper; first | (rw [if_pos (by decide +kernel)]; kernel_rfl) | (rw [if_neg (by decide +kernel)]; exact ⟨rfl, rfl⟩))
    (fun os started H enc _ => numWides_lifted os started H enc)

end Go.Proofs.Ytmgpknadefhikaa
