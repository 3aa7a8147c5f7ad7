/- Whatever the text, the two records and the list: eddylaw17's DirFits returns true. No conditions. -/
import Derived.Test.YtblaccmphofbcaaDirX
import Derived.Test.YtblaccmphofbcaaDirO
import Derived.ChangeMaps5
namespace Go.Proofs.Ytblaccmphofbcaa
open Go.ChangeShapes Go.WideShapes Go.ChangeAt Go.RowKit Go.Joins Go.ChangeMaps
set_option linter.unusedVariables false
theorem KeptC.bel {w W : World} {l : List (Addr × Value)} {F : List Addr} (h : KeptC w l F W) : Below w.heap.size w W := h.1
set_option maxRecDepth 100000 in
set_option maxHeartbeats 8000000 in
theorem dirFits_any (tx : ByteArray) (s : ByteArray) (e m : Int) (al : Bool) (k c : Int) (s2 : ByteArray) (e2 m2 : Int) (al2 : Bool) (k2 c2 : Int) (A : Option Addr) (n cp : Nat) (rs : List Ch) (w : World) (hx : tx.size ≤ maxLen) (hs : s.size ≤ maxLen) (hr : ChsAt w w.heap.size A n rs) (hm : n * 56 ≤ 140737488351232) :
    Calls Try.prog 6 #[.string tx, .agg #[.string s, .int .i64 e, .int .i64 m, .bool al, .int .i64 k, .int .i64 c], .agg #[.string s2, .int .i64 e2, .int .i64 m2, .bool al2, .int .i64 k2, .int .i64 c2], .slice A n cp] w fun x w' => x = .returned (.bool true) ∧ Below w.heap.size w w' := by
  have n1 := fun W => name_any tx W
  have n2 := fun W => rname_any tx hx W
  have f1 := fun W => fit_any s e m al k c W
  have f2 := fun W => rfit_any s e m al k c hs W
  have l1 : ∀ W, Below w.heap.size w W → _ := fun W hb => fits_any A n cp rs W ((hr.below hb).more hb.size) hm
  have l2 : ∀ W, Below w.heap.size w W → _ := fun W hb => rfits_any A n cp rs W ((hr.below hb).more hb.size) hm
  have m1 := fun W => newerC_any s e m al k c s2 e2 m2 al2 k2 c2 W
  have m2' := fun W => rnewerC_any s e m al k c s2 e2 m2 al2 k2 c2 W
  generalize nameB tx.data.toList = q1 at *
  generalize chFit s e m k c = q2 at *
  generalize fitsB rs = q3 at *
  generalize stampB e m e2 m2 = q4 at *
  have N1 := Lib.hid n1; have N2 := Lib.hid n2; have F1 := Lib.hid f1; have F2 := Lib.hid f2; have L1 := Lib.hid l1; have L2 := Lib.hid l2; have M1 := Lib.hid m1; have M2 := Lib.hid m2'
  clear n1 n2 f1 f2 l1 l2 m1 m2' hr
  go_enter Try.func6, Try.ntmps6
  go_upto_region 1 with (fail)
  refine wp_region_quietC_lit (KeptC w [(⟨w.heap.size, 0, none⟩, .string s), (⟨w.heap.size, 1, none⟩, .int .i64 e), (⟨w.heap.size, 2, none⟩, .int .i64 m), (⟨w.heap.size, 3, none⟩, .bool al), (⟨w.heap.size, 4, none⟩, .int .i64 k), (⟨w.heap.size, 5, none⟩, .int .i64 c), (⟨w.heap.size + 1, 0, none⟩, .string s2), (⟨w.heap.size + 1, 1, none⟩, .int .i64 e2), (⟨w.heap.size + 1, 2, none⟩, .int .i64 m2), (⟨w.heap.size + 1, 3, none⟩, .bool al2), (⟨w.heap.size + 1, 4, none⟩, .int .i64 k2), (⟨w.heap.size + 1, 5, none⟩, .int .i64 c2)] []) (by kernel_rfl) (by kernel_rfl) ?_ ?_
  · refine KeptC.drewn ?_
    repeat' (first | refine KeptC.cons ?_ ?_ | refine KeptC.consF ?_ ?_ ?_ | refine KeptC.mk0 ?_)
    all_goals (first | with_reducible assumption | (go_simp; done) | (simp; omega) | exact (by repeat (first | with_reducible refine Below.setCell ?_ (by first | (simp; done) | (simp; omega) | omega) _ | with_reducible refine Below.alloc ?_ (by first | (simp; done) | (simp; omega) | omega) _ | with_reducible refine Below.drew ?_ | with_reducible refine below_drewN ?_ _ | with_reducible exact Below.refl _ _)))
  repeat (first
    | go_big_quiet_skip
    | (go_big_quiet_want; (apply quietC_run); (· intro w' hw'; (have hk' := hw'; simp only [KeptC, List.forall_mem_cons] at hk'; go_split_ands); go_simp; first | done | rfl); (simp only [Act.put, List.setIfInBounds_toArray, List.set_cons_zero, List.set_cons_succ]; go_big_quiet_on))
    | (go_big_quiet_want; (apply quietC_call); (· intro w' hw'; go_simp; first | done | exact ⟨rfl, rfl⟩ | rfl); (· intro w' hw'; first | ((with_reducible refine (N1.out _).mono ?_); rintro e w2 ⟨rfl, hb⟩; exact ⟨rfl, hw'.below hb⟩) | ((with_reducible refine (N2.out _).mono ?_); rintro e w2 ⟨rfl, hb⟩; exact ⟨rfl, hw'.below hb⟩) | ((with_reducible refine (F1.out _).mono ?_); rintro e w2 ⟨rfl, hb⟩; exact ⟨rfl, hw'.below hb⟩) | ((with_reducible refine (F2.out _).mono ?_); rintro e w2 ⟨rfl, hb⟩; exact ⟨rfl, hw'.below hb⟩) | ((with_reducible refine (L1.out _ hw'.bel).mono ?_); rintro e w2 ⟨rfl, hb⟩; exact ⟨rfl, hw'.below hb⟩) | ((with_reducible refine (L2.out _ hw'.bel).mono ?_); rintro e w2 ⟨rfl, hb⟩; exact ⟨rfl, hw'.below hb⟩) | ((with_reducible refine (M1.out _).mono ?_); rintro e w2 ⟨rfl, hb⟩; exact ⟨rfl, hw'.below hb⟩) | ((with_reducible refine (M2.out _).mono ?_); rintro e w2 ⟨rfl, hb⟩; exact ⟨rfl, hw'.below hb⟩) | ((with_reducible refine (awake_any _).mono ?_); rintro e w2 ⟨rfl, hb⟩; exact ⟨rfl, hw'.below hb⟩)); (simp only [Act.put, List.setIfInBounds_toArray, List.set_cons_zero, List.set_cons_succ]; go_big_quiet_on)))
  refine wpQuiet_nil ?_
  intro w1 hk1
  (have hk' := hk1; simp only [KeptC, List.forall_mem_cons] at hk'; go_split_ands); have hkB1 := hk1.1
  go_wp2
  go_ret
  exact ⟨rfl, hkB1⟩
theorem dirFits_lifted (os : Os) (started : os.Started) (H : Type) (enc : TypeId × Value → H) :
    ReturnsInHanded {} Try.checked os 6 .any (Rows.dirFitsSpec.pre6 enc Try.prog Try.f6 Rows.dirFitsRow.domain false) (Rows.dirFitsSpec.post enc Try.prog Try.f6 false true false false) := by
  refine returnsInHanded_of_change_sized (C := Try.checked) own started (by kernel_rfl) Try.func6
    (ChangeSpec.witness6 (enc := enc) (C := Try.checked) false ⟨#[], #[.string ⟨#[]⟩, .agg #[.string ⟨#[]⟩, .int .i64 0, .int .i64 0, .bool false, .int .i64 0, .int .i64 0], .agg #[.string ⟨#[]⟩, .int .i64 0, .int .i64 0, .bool false, .int .i64 0, .int .i64 0], .slice none 0 0], []⟩ 8 (by kernel_rfl) (by kernel_rfl) (by kernel_rfl) (by kernel_rfl)) ?_
  intro W base args ds gs before hval hW _ hsz _
  have hW' := hW
  obtain ⟨p, q, hA, hV, rfl, hfz, hnd⟩ := hW
  obtain ⟨rfl, rfl⟩ := trodVars_none hV
  rw [Try.params6] at hA hval
  obtain ⟨v0, vs0, d0, ds0, p0, q0, hargs, rfl, rfl, h0, r0⟩ := trodAll_cons hA
  obtain ⟨v1, vs1, d1, ds1, p1, q1, rfl, rfl, rfl, h1, r1⟩ := trodAll_cons r0
  obtain ⟨v2, vs2, d2, ds2, p2, q2, rfl, rfl, rfl, h2, r2⟩ := trodAll_cons r1
  obtain ⟨v3, vs3, d3, ds3, p3, q3, rfl, rfl, rfl, h3, r3⟩ := trodAll_cons r2
  obtain ⟨rfl, rfl, rfl⟩ := trodAll_nil r3
  obtain rfl : args = #[v0, v1, v2, v3] := by cases args; simp_all
  obtain ⟨tx, rfl, _, _, wx⟩ := open_string Try.underlying9 (hval 0 _ v0 rfl rfl) h0
  obtain ⟨s, e, m, al, k, c, rfl, ws⟩ := open_chan (hval 1 _ v1 rfl rfl) h1
  obtain ⟨s2, e2, m2, al2, k2, c2, rfl, _⟩ := open_chan (hval 2 _ v2 rfl rfl) h2
  obtain ⟨A, n, cp, rs, rfl, _, hr, hds⟩ := open_chans (hval 3 _ v3 rfl rfl) h3
  refine (dirFits_any tx s e m al k c s2 e2 m2 al2 k2 c2 A n cp rs W wx ws hr (small_chans hsz (j := 3) rfl rfl hds)).mono fun e W' ⟨he, hg⟩ => ?_
  subst he
  exact ⟨_, rfl, law_post laidOut rfl (by kernel_rfl) rfl Try.underlying4 rfl hW' hg⟩

theorem dirFits_holds : Rows.DirFitsSaid :=
  OpenClaim.holds_of_wide 6 Try.f6 rfl rfl rfl rfl rfl rfl rfl ⟨rfl, rfl, rfl, rfl, rfl⟩ rfl rfl rfl rfl rfl (by kernel_rfl) Try.func6 (by kernel_rfl)
    (of_decide_eq_true (by kernel_rfl)) (by unfold Func.isWrapper; first | (rw [if_pos (by decide +kernel)]; kernel_rfl) | (rw [if_neg (by decide +kernel)]; exact ⟨rfl, rfl⟩))
    (fun os started H enc _ => dirFits_lifted os started H enc)

end Go.Proofs.Ytblaccmphofbcaa
