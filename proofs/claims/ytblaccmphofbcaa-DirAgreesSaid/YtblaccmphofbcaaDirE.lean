/- Merge of dir and of its reference: what each call computes, for every two fit lists. -/
import Derived.Test.YtblaccmphofbcaaDirR
namespace Go.Proofs.Ytblaccmphofbcaa
open Go.RowKit
set_option linter.unusedVariables false
theorem mergeR_next {ls more : List Ch} {k : Nat} {x : Ch} (hx : more[k]? = some x) : mergeR ls (more.take (k + 1)) = (learnR (mergeR ls (more.take k)) x).1 := by
  unfold mergeR
  rw [List.take_add_one, hx, List.foldl_append]
  rfl
theorem mergeR_fits_take {ls more : List Ch} (h : fitsB ls = true) (h2 : fitsB more = true) (k : Nat) : fitsB (mergeR ls (more.take k)) = true :=
  mergeR_fits _ h fun c hc => (fit_of_fits h2).2 c (List.mem_of_mem_take hc)
theorem fit_hm {ls : List Ch} (h : fitsB ls = true) : ls.length * 56 ≤ 140737488351232 := by have := (fit_of_fits h).1; omega
set_option maxRecDepth 100000 in
set_option maxHeartbeats 8000000 in
theorem merge_any (A1 : Option Addr) (n1 cp1 : Nat) (ls : List Ch) (A2 : Option Addr) (n2 cp2 : Nat) (more : List Ch) (w : World) (hr1 : ChsAt w w.heap.size A1 n1 ls) (hr2 : ChsAt w w.heap.size A2 n2 more) (hf1 : fitsB ls = true) (hf2 : fitsB more = true) :
    Calls Try.prog 16 #[.slice A1 n1 cp1, .slice A2 n2 cp2] w fun x w' => ∃ lv, x = .returned lv ∧ OwnC w' w.heap.size lv (mergeR ls more) ∧ Below w.heap.size w w' := by
  have hm1 : n1 * 56 ≤ 140737488351232 := by have := fit_hm hf1; have := hr1.1; omega
  have hm2 : n2 * 56 ≤ 140737488351232 := by have := fit_hm hf2; have := hr2.1; omega
  have HR1 := Lib.hid hr1
  have HR2 := Lib.hid hr2
  have HF1 := Lib.hid hf1
  have HF2 := Lib.hid hf2
  clear hr1 hr2 hf1 hf2
  go_enter Try.func16, Try.ntmps16
  go_wp2_with (fail)
  refine (clone_any A1 n1 cp1 ls _ HR1.out hm1).mono ?_; rintro x w1 ⟨lv, rfl, hown1, hb1⟩
  obtain ⟨A0, c0, rfl, hr0⟩ := hown1.fit HF1.out
  have HW1 := Lib.hid hown1
  clear hown1 hr0
  have hz1 := hb1.size
  go_wp2_with (fail)
  go_loopw [5, 12] (fun v i w' => ∃ (k : Nat) (L : List Ch) (A : Option Addr) (c : Nat), k ≤ n2 ∧ i = .int .i64 k ∧ v = .slice A L.length c ∧ Hid (L = mergeR ls (more.take k)) ∧ Hid (OwnC w' w.heap.size (.slice A L.length c) L) ∧ KeptC w [] [] w') (fun _ i _ => n2 - (intOf i).toNat)
  case atStart => exact ⟨0, ls, A0, c0, Nat.zero_le _, rfl, rfl, Lib.hid rfl, HW1, (by (repeat' (first | refine KeptC.cons ?_ ?_ | refine KeptC.consF ?_ ?_ ?_ | refine KeptC.mk0 ?_)); all_goals (first | with_reducible assumption | (go_simp; done) | (simp; omega) | exact (by repeat (first | with_reducible refine Below.setCell ?_ (by first | (simp; done) | (simp; omega) | omega) _ | with_reducible refine Below.alloc ?_ (by first | (simp; done) | (simp; omega) | omega) _ | with_reducible refine Below.drew ?_ | with_reducible refine below_drewN ?_ _ | with_reducible exact Below.refl _ _ | with_reducible refine Below.trans ?_ (Below.mono hb1 (by first | (simp; done) | (simp; omega) | omega))))))⟩
  case round =>
    obtain ⟨k, L, A, c, hk, rfl, rfl, HL, HW, hK⟩ := hrel
    have kb0 := hK.1
    clear hK hb1 HW1 hz1
    by_cases hlt : k < n2
    rotate_left
    · obtain rfl : k = n2 := by omega
      go_wp2
      go_ret
      refine ⟨_, rfl, ?_, kb0⟩
      have e := HL.out
      rw [List.take_of_length_le (by have := HR2.out.1; omega)] at e
      rw [← e]
      exact HW.out
    · obtain ⟨ad, x, hA, hab, hx, hsz, hc6⟩ := HR2.out.get hlt
      subst hA
      obtain ⟨p, hp⟩ : ∃ p, ad.add (k * 6) = p := ⟨_, rfl⟩
      have hpb : p.block < w.heap.size := by rw [← hp, block_of_add]; exact hab
      rw [hp] at hc6
      have hws := kb0.size
      have hpw : p.block < wr.heap.size := by omega
      obtain ⟨c0, c1, c2, c3, c4, c5⟩ := hc6.below hpb kb0
      obtain ⟨xs, xe, xm, xa, xk, xc⟩ := x
      have HX := Lib.hid hx
      clear hx hsz hc6
      simp only [] at c0 c1 c2 c3 c4 c5
      have hLf : fitsB L = true := by rw [HL.out]; exact mergeR_fits_take HF1.out HF2.out k
      have hLm := fit_hm hLf
      have HLF := Lib.hid hLf
      clear hLf
      have hra : ChsAt wr wr.heap.size A L.length L := by
        obtain ⟨A', c', e, h⟩ := HW.out.fit HLF.out
        obtain ⟨rfl, _, rfl⟩ := Value.slice.inj e
        exact h
      have HRA := Lib.hid hra
      clear hra
      go_wp2_with (fail)
      refine (learn_any A L.length c L xs xe xm xa xk xc _ ((HRA.out.below (by repeat (first | with_reducible refine Below.setCell ?_ (by first | (simp; done) | (simp; omega) | omega) _ | with_reducible refine Below.alloc ?_ (by first | (simp; done) | (simp; omega) | omega) _ | with_reducible refine Below.drew ?_ | with_reducible refine below_drewN ?_ _ | with_reducible exact Below.refl _ _))).more (by first | (simp; done) | (simp; omega) | omega)) hLm).mono ?_; rintro x w2 ⟨lv, rfl, hown2, hb2⟩
      have hL2 := hown2
      have hz2 := hb2.size
      (try simp at hz2)
      have hf2 : fitsB (learnR L ⟨xs, xe, xm, xa, xk, xc⟩).1 = true := learnR_fits _ HLF.out ((fit_of_fits HF2.out).2 _ (List.mem_of_getElem? HX.out))
      rw [learnT_eq _ (srt_of_fits HLF.out)] at hL2 ⊢
      have e2 : (learnR L ⟨xs, xe, xm, xa, xk, xc⟩).1 = mergeR ls (more.take (k + 1)) := by rw [HL.out, ← mergeR_next HX.out]
      obtain ⟨A3, c3, e3, _⟩ := hL2.fit hf2
      subst e3
      have hown3 := hL2.less (base' := w.heap.size) (by first | (simp; done) | (simp; omega) | omega)
      have kb2 : Below w.heap.size w w2 := (by repeat (first | with_reducible refine Below.setCell ?_ (by first | (simp; done) | (simp; omega) | omega) _ | with_reducible refine Below.alloc ?_ (by first | (simp; done) | (simp; omega) | omega) _ | with_reducible refine Below.drew ?_ | with_reducible refine below_drewN ?_ _ | with_reducible exact Below.refl _ _ | with_reducible refine Below.trans ?_ (Below.mono kb0 (by first | (simp; done) | (simp; omega) | omega)) | with_reducible refine Below.trans ?_ (Below.mono hb2 (by first | (simp; done) | (simp; omega) | omega))))
      have HE2 := Lib.hid e2
      have HW3 := Lib.hid hown3
      generalize (learnR L ⟨xs, xe, xm, xa, xk, xc⟩).1 = L2 at HE2 HW3 ⊢
      clear hown2 hL2 hown3 e2 hf2 hb2 hz2
      generalize (learnR L ⟨xs, xe, xm, xa, xk, xc⟩).2 = wh at *
      go_wp2
      go_roundw
      case rel => exact ⟨k + 1, L2, A3, c3, by omega, by go_num, rfl, HE2, HW3, (by (repeat' (first | refine KeptC.cons ?_ ?_ | refine KeptC.consF ?_ ?_ ?_ | refine KeptC.mk0 ?_)); all_goals (first | with_reducible assumption | (go_simp; done) | (simp; omega) | exact (by repeat (first | with_reducible refine Below.setCell ?_ (by first | (simp; done) | (simp; omega) | omega) _ | with_reducible refine Below.alloc ?_ (by first | (simp; done) | (simp; omega) | omega) _ | with_reducible refine Below.drew ?_ | with_reducible refine below_drewN ?_ _ | with_reducible exact Below.refl _ _ | with_reducible refine Below.trans ?_ (Below.mono kb2 (by first | (simp; done) | (simp; omega) | omega))))))⟩
      case measure => simp [intOf]; omega
set_option maxRecDepth 100000 in
set_option maxHeartbeats 8000000 in
theorem rmerge_any (A1 : Option Addr) (n1 cp1 : Nat) (ls : List Ch) (A2 : Option Addr) (n2 cp2 : Nat) (more : List Ch) (w : World) (hr1 : ChsAt w w.heap.size A1 n1 ls) (hr2 : ChsAt w w.heap.size A2 n2 more) (hf1 : fitsB ls = true) (hf2 : fitsB more = true) :
    Calls Try.prog 17 #[.slice A1 n1 cp1, .slice A2 n2 cp2] w fun x w' => ∃ lv, x = .returned lv ∧ OwnC w' w.heap.size lv (mergeR ls more) ∧ Below w.heap.size w w' := by
  have hm1 : n1 * 56 ≤ 140737488351232 := by have := fit_hm hf1; have := hr1.1; omega
  have hm2 : n2 * 56 ≤ 140737488351232 := by have := fit_hm hf2; have := hr2.1; omega
  have HR1 := Lib.hid hr1
  have HR2 := Lib.hid hr2
  have HF1 := Lib.hid hf1
  have HF2 := Lib.hid hf2
  clear hr1 hr2 hf1 hf2
  go_enter Try.func17, Try.ntmps17
  go_wp2_with (fail)
  refine (rcopied_any A1 n1 cp1 ls _ HR1.out hm1).mono ?_; rintro x w1 ⟨lv, rfl, hown1, hb1⟩
  obtain ⟨A0, c0, rfl, hr0⟩ := hown1.fit HF1.out
  have HW1 := Lib.hid hown1
  clear hown1 hr0
  have hz1 := hb1.size
  go_wp2_with (fail)
  go_loopw [5, 6] (fun v i w' => ∃ (k : Nat) (L : List Ch) (A : Option Addr) (c : Nat), k ≤ n2 ∧ i = .int .i64 k ∧ v = .slice A L.length c ∧ Hid (L = mergeR ls (more.take k)) ∧ Hid (OwnC w' w.heap.size (.slice A L.length c) L) ∧ KeptC w [] [] w') (fun _ i _ => n2 - (intOf i).toNat)
  case atStart => exact ⟨0, ls, A0, c0, Nat.zero_le _, rfl, rfl, Lib.hid rfl, HW1, (by (repeat' (first | refine KeptC.cons ?_ ?_ | refine KeptC.consF ?_ ?_ ?_ | refine KeptC.mk0 ?_)); all_goals (first | with_reducible assumption | (go_simp; done) | (simp; omega) | exact (by repeat (first | with_reducible refine Below.setCell ?_ (by first | (simp; done) | (simp; omega) | omega) _ | with_reducible refine Below.alloc ?_ (by first | (simp; done) | (simp; omega) | omega) _ | with_reducible refine Below.drew ?_ | with_reducible refine below_drewN ?_ _ | with_reducible exact Below.refl _ _ | with_reducible refine Below.trans ?_ (Below.mono hb1 (by first | (simp; done) | (simp; omega) | omega))))))⟩
  case round =>
    obtain ⟨k, L, A, c, hk, rfl, rfl, HL, HW, hK⟩ := hrel
    have kb0 := hK.1
    clear hK hb1 HW1 hz1
    by_cases hlt : k < n2
    rotate_left
    · obtain rfl : k = n2 := by omega
      go_wp2
      go_ret
      refine ⟨_, rfl, ?_, kb0⟩
      have e := HL.out
      rw [List.take_of_length_le (by have := HR2.out.1; omega)] at e
      rw [← e]
      exact HW.out
    · obtain ⟨ad, x, hA, hab, hx, hsz, hc6⟩ := HR2.out.get hlt
      subst hA
      obtain ⟨p, hp⟩ : ∃ p, ad.add (k * 6) = p := ⟨_, rfl⟩
      have hpb : p.block < w.heap.size := by rw [← hp, block_of_add]; exact hab
      rw [hp] at hc6
      have hws := kb0.size
      have hpw : p.block < wr.heap.size := by omega
      obtain ⟨c0, c1, c2, c3, c4, c5⟩ := hc6.below hpb kb0
      obtain ⟨xs, xe, xm, xa, xk, xc⟩ := x
      have HX := Lib.hid hx
      clear hx hsz hc6
      simp only [] at c0 c1 c2 c3 c4 c5
      have hLf : fitsB L = true := by rw [HL.out]; exact mergeR_fits_take HF1.out HF2.out k
      have hLm := fit_hm hLf
      have HLF := Lib.hid hLf
      clear hLf
      have hra : ChsAt wr wr.heap.size A L.length L := by
        obtain ⟨A', c', e, h⟩ := HW.out.fit HLF.out
        obtain ⟨rfl, _, rfl⟩ := Value.slice.inj e
        exact h
      have HRA := Lib.hid hra
      clear hra
      go_wp2_with (fail)
      refine (rlearn_any A L.length c L xs xe xm xa xk xc _ ((HRA.out.below (by repeat (first | with_reducible refine Below.setCell ?_ (by first | (simp; done) | (simp; omega) | omega) _ | with_reducible refine Below.alloc ?_ (by first | (simp; done) | (simp; omega) | omega) _ | with_reducible refine Below.drew ?_ | with_reducible refine below_drewN ?_ _ | with_reducible exact Below.refl _ _))).more (by first | (simp; done) | (simp; omega) | omega)) hLm).mono ?_; rintro x w2 ⟨lv, rfl, hown2, hb2⟩
      have hL2 := hown2
      have hz2 := hb2.size
      (try simp at hz2)
      have hf2 : fitsB (learnR L ⟨xs, xe, xm, xa, xk, xc⟩).1 = true := learnR_fits _ HLF.out ((fit_of_fits HF2.out).2 _ (List.mem_of_getElem? HX.out))
      have e2 : (learnR L ⟨xs, xe, xm, xa, xk, xc⟩).1 = mergeR ls (more.take (k + 1)) := by rw [HL.out, ← mergeR_next HX.out]
      obtain ⟨A3, c3, e3, _⟩ := hL2.fit hf2
      subst e3
      have hown3 := hL2.less (base' := w.heap.size) (by first | (simp; done) | (simp; omega) | omega)
      have kb2 : Below w.heap.size w w2 := (by repeat (first | with_reducible refine Below.setCell ?_ (by first | (simp; done) | (simp; omega) | omega) _ | with_reducible refine Below.alloc ?_ (by first | (simp; done) | (simp; omega) | omega) _ | with_reducible refine Below.drew ?_ | with_reducible refine below_drewN ?_ _ | with_reducible exact Below.refl _ _ | with_reducible refine Below.trans ?_ (Below.mono kb0 (by first | (simp; done) | (simp; omega) | omega)) | with_reducible refine Below.trans ?_ (Below.mono hb2 (by first | (simp; done) | (simp; omega) | omega))))
      have HE2 := Lib.hid e2
      have HW3 := Lib.hid hown3
      generalize (learnR L ⟨xs, xe, xm, xa, xk, xc⟩).1 = L2 at HE2 HW3 ⊢
      clear hown2 hL2 hown3 e2 hf2 hb2 hz2
      generalize (learnR L ⟨xs, xe, xm, xa, xk, xc⟩).2 = wh at *
      go_wp2
      go_roundw
      case rel => exact ⟨k + 1, L2, A3, c3, by omega, by go_num, rfl, HE2, HW3, (by (repeat' (first | refine KeptC.cons ?_ ?_ | refine KeptC.consF ?_ ?_ ?_ | refine KeptC.mk0 ?_)); all_goals (first | with_reducible assumption | (go_simp; done) | (simp; omega) | exact (by repeat (first | with_reducible refine Below.setCell ?_ (by first | (simp; done) | (simp; omega) | omega) _ | with_reducible refine Below.alloc ?_ (by first | (simp; done) | (simp; omega) | omega) _ | with_reducible refine Below.drew ?_ | with_reducible refine below_drewN ?_ _ | with_reducible exact Below.refl _ _ | with_reducible refine Below.trans ?_ (Below.mono kb2 (by first | (simp; done) | (simp; omega) | omega))))))⟩
      case measure => simp [intOf]; omega
end Go.Proofs.Ytblaccmphofbcaa
