/- The functions of layer 16 (ext) and of its reference, the second part. -/
import Derived.Test.YtdiccafoajjbmaaExt
namespace Go.Proofs.Ytdiccafoajjbmaa
open Go.RowKit Go.BigFrame
set_option maxHeartbeats 2000000 in
theorem least_any (ha : Bool) (va oa aa : Int) (hb : Bool) (vb ob ab : Int) (w : World) :
    Calls Try.prog 14 #[.agg #[.bool ha, .int .i64 va, .int .i64 oa, .int .i64 aa], .agg #[.bool hb, .int .i64 vb, .int .i64 ob, .int .i64 ab]] w fun e w' =>
      e = .returned (.agg #[.bool (holdE va vb ⟨ha, va, oa, aa⟩ ⟨hb, vb, ob, ab⟩).has, .int .i64 (holdE va vb ⟨ha, va, oa, aa⟩ ⟨hb, vb, ob, ab⟩).val, .int .i64 (holdE va vb ⟨ha, va, oa, aa⟩ ⟨hb, vb, ob, ab⟩).org, .int .i64 (holdE va vb ⟨ha, va, oa, aa⟩ ⟨hb, vb, ob, ab⟩).age]) ∧ Below w.heap.size w w' := by
  have KA := Lib.hid (fun w => keyLeast_any ha va oa aa w)
  have KB := Lib.hid (fun w => keyLeast_any hb vb ob ab w)
  have H1 := Lib.hid (fun B w hB => holder1L va vb ha va oa aa hb vb ob ab B w KA.out KB.out hB)
  clear KA KB
  generalize holdE va vb ⟨ha, va, oa, aa⟩ ⟨hb, vb, ob, ab⟩ = r at H1 ⊢
  obtain ⟨rh, rv, ro, ra⟩ := r
  go_enter Try.func14, Try.ntmps14
  go_wp2
  have kS : ∀ w1 w2 : World, (Below w.heap.size w w1 ∧ w1.cell? ⟨w.heap.size, 0, none⟩ = some (.bool ha) ∧ w1.cell? ⟨w.heap.size, 1, none⟩ = some (.int .i64 va) ∧ w1.cell? ⟨w.heap.size, 2, none⟩ = some (.int .i64 oa) ∧ w1.cell? ⟨w.heap.size, 3, none⟩ = some (.int .i64 aa) ∧ w1.cell? ⟨w.heap.size + 1, 0, none⟩ = some (.bool hb) ∧ w1.cell? ⟨w.heap.size + 1, 1, none⟩ = some (.int .i64 vb) ∧ w1.cell? ⟨w.heap.size + 1, 2, none⟩ = some (.int .i64 ob) ∧ w1.cell? ⟨w.heap.size + 1, 3, none⟩ = some (.int .i64 ab)) → Below w1.heap.size w1 w2 → (Below w.heap.size w w2 ∧ w2.cell? ⟨w.heap.size, 0, none⟩ = some (.bool ha) ∧ w2.cell? ⟨w.heap.size, 1, none⟩ = some (.int .i64 va) ∧ w2.cell? ⟨w.heap.size, 2, none⟩ = some (.int .i64 oa) ∧ w2.cell? ⟨w.heap.size, 3, none⟩ = some (.int .i64 aa) ∧ w2.cell? ⟨w.heap.size + 1, 0, none⟩ = some (.bool hb) ∧ w2.cell? ⟨w.heap.size + 1, 1, none⟩ = some (.int .i64 vb) ∧ w2.cell? ⟨w.heap.size + 1, 2, none⟩ = some (.int .i64 ob) ∧ w2.cell? ⟨w.heap.size + 1, 3, none⟩ = some (.int .i64 ab)) := by
    rintro w1 w2 ⟨k0, k1, k2, k3, k4, k5, k6, k7, k8⟩ hb
    exact ⟨k0.trans (hb.mono k0.size), (hb.cell (cell_lt k1)).trans k1, (hb.cell (cell_lt k2)).trans k2, (hb.cell (cell_lt k3)).trans k3, (hb.cell (cell_lt k4)).trans k4, (hb.cell (cell_lt k5)).trans k5, (hb.cell (cell_lt k6)).trans k6, (hb.cell (cell_lt k7)).trans k7, (hb.cell (cell_lt k8)).trans k8⟩
  have KS := Lib.hid kS
  clear kS
  have kT0 : ∀ (w1 : World) (o1 : Nat) (u1 : Value), (Below w.heap.size w w1 ∧ w1.cell? ⟨w.heap.size, 0, none⟩ = some (.bool ha) ∧ w1.cell? ⟨w.heap.size, 1, none⟩ = some (.int .i64 va) ∧ w1.cell? ⟨w.heap.size, 2, none⟩ = some (.int .i64 oa) ∧ w1.cell? ⟨w.heap.size, 3, none⟩ = some (.int .i64 aa) ∧ w1.cell? ⟨w.heap.size + 1, 0, none⟩ = some (.bool hb) ∧ w1.cell? ⟨w.heap.size + 1, 1, none⟩ = some (.int .i64 vb) ∧ w1.cell? ⟨w.heap.size + 1, 2, none⟩ = some (.int .i64 ob) ∧ w1.cell? ⟨w.heap.size + 1, 3, none⟩ = some (.int .i64 ab)) → (Below w.heap.size w (w1.setCell ⟨w.heap.size + 1 + 1, o1, none⟩ u1) ∧ (w1.setCell ⟨w.heap.size + 1 + 1, o1, none⟩ u1).cell? ⟨w.heap.size, 0, none⟩ = some (.bool ha) ∧ (w1.setCell ⟨w.heap.size + 1 + 1, o1, none⟩ u1).cell? ⟨w.heap.size, 1, none⟩ = some (.int .i64 va) ∧ (w1.setCell ⟨w.heap.size + 1 + 1, o1, none⟩ u1).cell? ⟨w.heap.size, 2, none⟩ = some (.int .i64 oa) ∧ (w1.setCell ⟨w.heap.size + 1 + 1, o1, none⟩ u1).cell? ⟨w.heap.size, 3, none⟩ = some (.int .i64 aa) ∧ (w1.setCell ⟨w.heap.size + 1 + 1, o1, none⟩ u1).cell? ⟨w.heap.size + 1, 0, none⟩ = some (.bool hb) ∧ (w1.setCell ⟨w.heap.size + 1 + 1, o1, none⟩ u1).cell? ⟨w.heap.size + 1, 1, none⟩ = some (.int .i64 vb) ∧ (w1.setCell ⟨w.heap.size + 1 + 1, o1, none⟩ u1).cell? ⟨w.heap.size + 1, 2, none⟩ = some (.int .i64 ob) ∧ (w1.setCell ⟨w.heap.size + 1 + 1, o1, none⟩ u1).cell? ⟨w.heap.size + 1, 3, none⟩ = some (.int .i64 ab)) := by
    rintro w1 o1 u1 ⟨k0, k1, k2, k3, k4, k5, k6, k7, k8⟩
    exact ⟨k0.trans ((Below.refl _ _).setCell (by first | (simp; done) | (simp; omega) | omega) _), (World.cell?_setCell_far _ _ _ _ (by first | (simp; done) | (simp; omega) | omega)).trans k1, (World.cell?_setCell_far _ _ _ _ (by first | (simp; done) | (simp; omega) | omega)).trans k2, (World.cell?_setCell_far _ _ _ _ (by first | (simp; done) | (simp; omega) | omega)).trans k3, (World.cell?_setCell_far _ _ _ _ (by first | (simp; done) | (simp; omega) | omega)).trans k4, (World.cell?_setCell_far _ _ _ _ (by first | (simp; done) | (simp; omega) | omega)).trans k5, (World.cell?_setCell_far _ _ _ _ (by first | (simp; done) | (simp; omega) | omega)).trans k6, (World.cell?_setCell_far _ _ _ _ (by first | (simp; done) | (simp; omega) | omega)).trans k7, (World.cell?_setCell_far _ _ _ _ (by first | (simp; done) | (simp; omega) | omega)).trans k8⟩
  have KT0 := Lib.hid kT0
  clear kT0
  go_region_held3 (fun w' => Below w.heap.size w w' ∧ w'.cell? ⟨w.heap.size, 0, none⟩ = some (.bool ha) ∧ w'.cell? ⟨w.heap.size, 1, none⟩ = some (.int .i64 va) ∧ w'.cell? ⟨w.heap.size, 2, none⟩ = some (.int .i64 oa) ∧ w'.cell? ⟨w.heap.size, 3, none⟩ = some (.int .i64 aa) ∧ w'.cell? ⟨w.heap.size + 1, 0, none⟩ = some (.bool hb) ∧ w'.cell? ⟨w.heap.size + 1, 1, none⟩ = some (.int .i64 vb) ∧ w'.cell? ⟨w.heap.size + 1, 2, none⟩ = some (.int .i64 ob) ∧ w'.cell? ⟨w.heap.size + 1, 3, none⟩ = some (.int .i64 ab)) (first | ((first | refine KT0.out _ _ _ ?_); (repeat (first | refine KT0.out _ _ _ ?_)); assumption) | exact KS.out _ _ (by assumption) (by assumption) | exact KS.out _ _ (by assumption) ((Below.refl _ _).alloc (Nat.le_refl _) _) | exact ⟨(by repeat (first | with_reducible refine Below.setCell ?_ (by first | (simp; done) | (simp; omega) | omega) _ | with_reducible refine Below.alloc ?_ (by first | (simp; done) | (simp; omega) | omega) _ | with_reducible refine Below.drew ?_ | with_reducible exact Below.refl _ _)), (by first | assumption | (go_simp; done)), (by first | assumption | (go_simp; done)), (by first | assumption | (go_simp; done)), (by first | assumption | (go_simp; done)), (by first | assumption | (go_simp; done)), (by first | assumption | (go_simp; done)), (by first | assumption | (go_simp; done)), (by first | assumption | (go_simp; done))⟩) (first | ((with_reducible refine (holder_any _ _).mono ?_); rintro e w2 ⟨rfl, hb2, hcb⟩; (try simp at hcb); have hq0 : w2.cell? ⟨w.heap.size + 1 + 1, 0, none⟩ = some (.bool false) := (fun P0 => (hb2.cell (p := ⟨w.heap.size + 1 + 1, 0, none⟩) (cell_lt P0)).trans P0) (by first | assumption | (go_simp; done)); have hl0 := cell_lt hq0; (try simp only [] at hl0); have hf0 : w2.frozen? ⟨w.heap.size + 1 + 1, 0, none⟩ = false := (fun P0 P1 => (hb2.frozen (p := ⟨w.heap.size + 1 + 1, 0, none⟩) (cell_lt (a := ⟨w.heap.size + 1 + 1, 0, none⟩) (v := .bool false) P0)).trans P1) (by first | assumption | (go_simp; done)) (by first | assumption | (go_simp; done)); have hq1 : w2.cell? ⟨w.heap.size + 1 + 1, 1, none⟩ = some (.int .i64 0) := (fun P0 => (hb2.cell (p := ⟨w.heap.size + 1 + 1, 1, none⟩) (cell_lt P0)).trans P0) (by first | assumption | (go_simp; done)); have hl1 := cell_lt hq1; (try simp only [] at hl1); have hf1 : w2.frozen? ⟨w.heap.size + 1 + 1, 1, none⟩ = false := (fun P0 P1 => (hb2.frozen (p := ⟨w.heap.size + 1 + 1, 1, none⟩) (cell_lt (a := ⟨w.heap.size + 1 + 1, 1, none⟩) (v := .int .i64 0) P0)).trans P1) (by first | assumption | (go_simp; done)) (by first | assumption | (go_simp; done)); have hq2 : w2.cell? ⟨w.heap.size + 1 + 1, 2, none⟩ = some (.int .i64 0) := (fun P0 => (hb2.cell (p := ⟨w.heap.size + 1 + 1, 2, none⟩) (cell_lt P0)).trans P0) (by first | assumption | (go_simp; done)); have hl2 := cell_lt hq2; (try simp only [] at hl2); have hf2 : w2.frozen? ⟨w.heap.size + 1 + 1, 2, none⟩ = false := (fun P0 P1 => (hb2.frozen (p := ⟨w.heap.size + 1 + 1, 2, none⟩) (cell_lt (a := ⟨w.heap.size + 1 + 1, 2, none⟩) (v := .int .i64 0) P0)).trans P1) (by first | assumption | (go_simp; done)) (by first | assumption | (go_simp; done)); have hq3 : w2.cell? ⟨w.heap.size + 1 + 1, 3, none⟩ = some (.int .i64 0) := (fun P0 => (hb2.cell (p := ⟨w.heap.size + 1 + 1, 3, none⟩) (cell_lt P0)).trans P0) (by first | assumption | (go_simp; done)); have hl3 := cell_lt hq3; (try simp only [] at hl3); have hf3 : w2.frozen? ⟨w.heap.size + 1 + 1, 3, none⟩ = false := (fun P0 P1 => (hb2.frozen (p := ⟨w.heap.size + 1 + 1, 3, none⟩) (cell_lt (a := ⟨w.heap.size + 1 + 1, 3, none⟩) (v := .int .i64 0) P0)).trans P1) (by first | assumption | (go_simp; done)) (by first | assumption | (go_simp; done))) | ((with_reducible refine (H1.out _ _ hcb).mono ?_); rintro e w2 ⟨rfl, hb2⟩; have hq0 : w2.cell? ⟨w.heap.size + 1 + 1, 0, none⟩ = some (.bool false) := (fun P0 => (hb2.cell (p := ⟨w.heap.size + 1 + 1, 0, none⟩) (cell_lt P0)).trans P0) (by first | assumption | (go_simp; done)); have hl0 := cell_lt hq0; (try simp only [] at hl0); have hf0 : w2.frozen? ⟨w.heap.size + 1 + 1, 0, none⟩ = false := (fun P0 P1 => (hb2.frozen (p := ⟨w.heap.size + 1 + 1, 0, none⟩) (cell_lt (a := ⟨w.heap.size + 1 + 1, 0, none⟩) (v := .bool false) P0)).trans P1) (by first | assumption | (go_simp; done)) (by first | assumption | (go_simp; done)); have hq1 : w2.cell? ⟨w.heap.size + 1 + 1, 1, none⟩ = some (.int .i64 0) := (fun P0 => (hb2.cell (p := ⟨w.heap.size + 1 + 1, 1, none⟩) (cell_lt P0)).trans P0) (by first | assumption | (go_simp; done)); have hl1 := cell_lt hq1; (try simp only [] at hl1); have hf1 : w2.frozen? ⟨w.heap.size + 1 + 1, 1, none⟩ = false := (fun P0 P1 => (hb2.frozen (p := ⟨w.heap.size + 1 + 1, 1, none⟩) (cell_lt (a := ⟨w.heap.size + 1 + 1, 1, none⟩) (v := .int .i64 0) P0)).trans P1) (by first | assumption | (go_simp; done)) (by first | assumption | (go_simp; done)); have hq2 : w2.cell? ⟨w.heap.size + 1 + 1, 2, none⟩ = some (.int .i64 0) := (fun P0 => (hb2.cell (p := ⟨w.heap.size + 1 + 1, 2, none⟩) (cell_lt P0)).trans P0) (by first | assumption | (go_simp; done)); have hl2 := cell_lt hq2; (try simp only [] at hl2); have hf2 : w2.frozen? ⟨w.heap.size + 1 + 1, 2, none⟩ = false := (fun P0 P1 => (hb2.frozen (p := ⟨w.heap.size + 1 + 1, 2, none⟩) (cell_lt (a := ⟨w.heap.size + 1 + 1, 2, none⟩) (v := .int .i64 0) P0)).trans P1) (by first | assumption | (go_simp; done)) (by first | assumption | (go_simp; done)); have hq3 : w2.cell? ⟨w.heap.size + 1 + 1, 3, none⟩ = some (.int .i64 0) := (fun P0 => (hb2.cell (p := ⟨w.heap.size + 1 + 1, 3, none⟩) (cell_lt P0)).trans P0) (by first | assumption | (go_simp; done)); have hl3 := cell_lt hq3; (try simp only [] at hl3); have hf3 : w2.frozen? ⟨w.heap.size + 1 + 1, 3, none⟩ = false := (fun P0 P1 => (hb2.frozen (p := ⟨w.heap.size + 1 + 1, 3, none⟩) (cell_lt (a := ⟨w.heap.size + 1 + 1, 3, none⟩) (v := .int .i64 0) P0)).trans P1) (by first | assumption | (go_simp; done)) (by first | assumption | (go_simp; done))))
  clear KS KT0
  (have hk' := (by assumption : Below w.heap.size w _ ∧ _); have hkB := hk'.1; go_split_ands)
  go_wp2
  exact bodyPost_ret (by simp [results, Try.results14, go_sem, hq0, hq1, hq2, hq3] <;> rfl) rfl ⟨rfl, hkB⟩
set_option maxHeartbeats 2000000 in
theorem greatest_any (ha : Bool) (va oa aa : Int) (hb : Bool) (vb ob ab : Int) (h1 : -2147483647 ≤ va) (h2 : va ≤ 2147483647) (h3 : -2147483647 ≤ vb) (h4 : vb ≤ 2147483647) (w : World) :
    Calls Try.prog 16 #[.agg #[.bool ha, .int .i64 va, .int .i64 oa, .int .i64 aa], .agg #[.bool hb, .int .i64 vb, .int .i64 ob, .int .i64 ab]] w fun e w' =>
      e = .returned (.agg #[.bool (holdE (-va) (-vb) ⟨ha, va, oa, aa⟩ ⟨hb, vb, ob, ab⟩).has, .int .i64 (holdE (-va) (-vb) ⟨ha, va, oa, aa⟩ ⟨hb, vb, ob, ab⟩).val, .int .i64 (holdE (-va) (-vb) ⟨ha, va, oa, aa⟩ ⟨hb, vb, ob, ab⟩).org, .int .i64 (holdE (-va) (-vb) ⟨ha, va, oa, aa⟩ ⟨hb, vb, ob, ab⟩).age]) ∧ Below w.heap.size w w' := by
  have KA := Lib.hid (fun w => keyGreatest_any ha va oa aa (by omega) (by omega) w)
  have KB := Lib.hid (fun w => keyGreatest_any hb vb ob ab (by omega) (by omega) w)
  have H1 := Lib.hid (fun B w hB => holder1G (-va) (-vb) ha va oa aa hb vb ob ab B w KA.out KB.out hB)
  clear KA KB
  generalize holdE (-va) (-vb) ⟨ha, va, oa, aa⟩ ⟨hb, vb, ob, ab⟩ = r at H1 ⊢
  obtain ⟨rh, rv, ro, ra⟩ := r
  go_enter Try.func16, Try.ntmps16
  go_wp2
  have kS : ∀ w1 w2 : World, (Below w.heap.size w w1 ∧ w1.cell? ⟨w.heap.size, 0, none⟩ = some (.bool ha) ∧ w1.cell? ⟨w.heap.size, 1, none⟩ = some (.int .i64 va) ∧ w1.cell? ⟨w.heap.size, 2, none⟩ = some (.int .i64 oa) ∧ w1.cell? ⟨w.heap.size, 3, none⟩ = some (.int .i64 aa) ∧ w1.cell? ⟨w.heap.size + 1, 0, none⟩ = some (.bool hb) ∧ w1.cell? ⟨w.heap.size + 1, 1, none⟩ = some (.int .i64 vb) ∧ w1.cell? ⟨w.heap.size + 1, 2, none⟩ = some (.int .i64 ob) ∧ w1.cell? ⟨w.heap.size + 1, 3, none⟩ = some (.int .i64 ab)) → Below w1.heap.size w1 w2 → (Below w.heap.size w w2 ∧ w2.cell? ⟨w.heap.size, 0, none⟩ = some (.bool ha) ∧ w2.cell? ⟨w.heap.size, 1, none⟩ = some (.int .i64 va) ∧ w2.cell? ⟨w.heap.size, 2, none⟩ = some (.int .i64 oa) ∧ w2.cell? ⟨w.heap.size, 3, none⟩ = some (.int .i64 aa) ∧ w2.cell? ⟨w.heap.size + 1, 0, none⟩ = some (.bool hb) ∧ w2.cell? ⟨w.heap.size + 1, 1, none⟩ = some (.int .i64 vb) ∧ w2.cell? ⟨w.heap.size + 1, 2, none⟩ = some (.int .i64 ob) ∧ w2.cell? ⟨w.heap.size + 1, 3, none⟩ = some (.int .i64 ab)) := by
    rintro w1 w2 ⟨k0, k1, k2, k3, k4, k5, k6, k7, k8⟩ hb
    exact ⟨k0.trans (hb.mono k0.size), (hb.cell (cell_lt k1)).trans k1, (hb.cell (cell_lt k2)).trans k2, (hb.cell (cell_lt k3)).trans k3, (hb.cell (cell_lt k4)).trans k4, (hb.cell (cell_lt k5)).trans k5, (hb.cell (cell_lt k6)).trans k6, (hb.cell (cell_lt k7)).trans k7, (hb.cell (cell_lt k8)).trans k8⟩
  have KS := Lib.hid kS
  clear kS
  have kT0 : ∀ (w1 : World) (o1 : Nat) (u1 : Value), (Below w.heap.size w w1 ∧ w1.cell? ⟨w.heap.size, 0, none⟩ = some (.bool ha) ∧ w1.cell? ⟨w.heap.size, 1, none⟩ = some (.int .i64 va) ∧ w1.cell? ⟨w.heap.size, 2, none⟩ = some (.int .i64 oa) ∧ w1.cell? ⟨w.heap.size, 3, none⟩ = some (.int .i64 aa) ∧ w1.cell? ⟨w.heap.size + 1, 0, none⟩ = some (.bool hb) ∧ w1.cell? ⟨w.heap.size + 1, 1, none⟩ = some (.int .i64 vb) ∧ w1.cell? ⟨w.heap.size + 1, 2, none⟩ = some (.int .i64 ob) ∧ w1.cell? ⟨w.heap.size + 1, 3, none⟩ = some (.int .i64 ab)) → (Below w.heap.size w (w1.setCell ⟨w.heap.size + 1 + 1, o1, none⟩ u1) ∧ (w1.setCell ⟨w.heap.size + 1 + 1, o1, none⟩ u1).cell? ⟨w.heap.size, 0, none⟩ = some (.bool ha) ∧ (w1.setCell ⟨w.heap.size + 1 + 1, o1, none⟩ u1).cell? ⟨w.heap.size, 1, none⟩ = some (.int .i64 va) ∧ (w1.setCell ⟨w.heap.size + 1 + 1, o1, none⟩ u1).cell? ⟨w.heap.size, 2, none⟩ = some (.int .i64 oa) ∧ (w1.setCell ⟨w.heap.size + 1 + 1, o1, none⟩ u1).cell? ⟨w.heap.size, 3, none⟩ = some (.int .i64 aa) ∧ (w1.setCell ⟨w.heap.size + 1 + 1, o1, none⟩ u1).cell? ⟨w.heap.size + 1, 0, none⟩ = some (.bool hb) ∧ (w1.setCell ⟨w.heap.size + 1 + 1, o1, none⟩ u1).cell? ⟨w.heap.size + 1, 1, none⟩ = some (.int .i64 vb) ∧ (w1.setCell ⟨w.heap.size + 1 + 1, o1, none⟩ u1).cell? ⟨w.heap.size + 1, 2, none⟩ = some (.int .i64 ob) ∧ (w1.setCell ⟨w.heap.size + 1 + 1, o1, none⟩ u1).cell? ⟨w.heap.size + 1, 3, none⟩ = some (.int .i64 ab)) := by
    rintro w1 o1 u1 ⟨k0, k1, k2, k3, k4, k5, k6, k7, k8⟩
    exact ⟨k0.trans ((Below.refl _ _).setCell (by first | (simp; done) | (simp; omega) | omega) _), (World.cell?_setCell_far _ _ _ _ (by first | (simp; done) | (simp; omega) | omega)).trans k1, (World.cell?_setCell_far _ _ _ _ (by first | (simp; done) | (simp; omega) | omega)).trans k2, (World.cell?_setCell_far _ _ _ _ (by first | (simp; done) | (simp; omega) | omega)).trans k3, (World.cell?_setCell_far _ _ _ _ (by first | (simp; done) | (simp; omega) | omega)).trans k4, (World.cell?_setCell_far _ _ _ _ (by first | (simp; done) | (simp; omega) | omega)).trans k5, (World.cell?_setCell_far _ _ _ _ (by first | (simp; done) | (simp; omega) | omega)).trans k6, (World.cell?_setCell_far _ _ _ _ (by first | (simp; done) | (simp; omega) | omega)).trans k7, (World.cell?_setCell_far _ _ _ _ (by first | (simp; done) | (simp; omega) | omega)).trans k8⟩
  have KT0 := Lib.hid kT0
  clear kT0
  go_region_held3 (fun w' => Below w.heap.size w w' ∧ w'.cell? ⟨w.heap.size, 0, none⟩ = some (.bool ha) ∧ w'.cell? ⟨w.heap.size, 1, none⟩ = some (.int .i64 va) ∧ w'.cell? ⟨w.heap.size, 2, none⟩ = some (.int .i64 oa) ∧ w'.cell? ⟨w.heap.size, 3, none⟩ = some (.int .i64 aa) ∧ w'.cell? ⟨w.heap.size + 1, 0, none⟩ = some (.bool hb) ∧ w'.cell? ⟨w.heap.size + 1, 1, none⟩ = some (.int .i64 vb) ∧ w'.cell? ⟨w.heap.size + 1, 2, none⟩ = some (.int .i64 ob) ∧ w'.cell? ⟨w.heap.size + 1, 3, none⟩ = some (.int .i64 ab)) (first | ((first | refine KT0.out _ _ _ ?_); (repeat (first | refine KT0.out _ _ _ ?_)); assumption) | exact KS.out _ _ (by assumption) (by assumption) | exact KS.out _ _ (by assumption) ((Below.refl _ _).alloc (Nat.le_refl _) _) | exact ⟨(by repeat (first | with_reducible refine Below.setCell ?_ (by first | (simp; done) | (simp; omega) | omega) _ | with_reducible refine Below.alloc ?_ (by first | (simp; done) | (simp; omega) | omega) _ | with_reducible refine Below.drew ?_ | with_reducible exact Below.refl _ _)), (by first | assumption | (go_simp; done)), (by first | assumption | (go_simp; done)), (by first | assumption | (go_simp; done)), (by first | assumption | (go_simp; done)), (by first | assumption | (go_simp; done)), (by first | assumption | (go_simp; done)), (by first | assumption | (go_simp; done)), (by first | assumption | (go_simp; done))⟩) (first | ((with_reducible refine (holder_any _ _).mono ?_); rintro e w2 ⟨rfl, hb2, hcb⟩; (try simp at hcb); have hq0 : w2.cell? ⟨w.heap.size + 1 + 1, 0, none⟩ = some (.bool false) := (fun P0 => (hb2.cell (p := ⟨w.heap.size + 1 + 1, 0, none⟩) (cell_lt P0)).trans P0) (by first | assumption | (go_simp; done)); have hl0 := cell_lt hq0; (try simp only [] at hl0); have hf0 : w2.frozen? ⟨w.heap.size + 1 + 1, 0, none⟩ = false := (fun P0 P1 => (hb2.frozen (p := ⟨w.heap.size + 1 + 1, 0, none⟩) (cell_lt (a := ⟨w.heap.size + 1 + 1, 0, none⟩) (v := .bool false) P0)).trans P1) (by first | assumption | (go_simp; done)) (by first | assumption | (go_simp; done)); have hq1 : w2.cell? ⟨w.heap.size + 1 + 1, 1, none⟩ = some (.int .i64 0) := (fun P0 => (hb2.cell (p := ⟨w.heap.size + 1 + 1, 1, none⟩) (cell_lt P0)).trans P0) (by first | assumption | (go_simp; done)); have hl1 := cell_lt hq1; (try simp only [] at hl1); have hf1 : w2.frozen? ⟨w.heap.size + 1 + 1, 1, none⟩ = false := (fun P0 P1 => (hb2.frozen (p := ⟨w.heap.size + 1 + 1, 1, none⟩) (cell_lt (a := ⟨w.heap.size + 1 + 1, 1, none⟩) (v := .int .i64 0) P0)).trans P1) (by first | assumption | (go_simp; done)) (by first | assumption | (go_simp; done)); have hq2 : w2.cell? ⟨w.heap.size + 1 + 1, 2, none⟩ = some (.int .i64 0) := (fun P0 => (hb2.cell (p := ⟨w.heap.size + 1 + 1, 2, none⟩) (cell_lt P0)).trans P0) (by first | assumption | (go_simp; done)); have hl2 := cell_lt hq2; (try simp only [] at hl2); have hf2 : w2.frozen? ⟨w.heap.size + 1 + 1, 2, none⟩ = false := (fun P0 P1 => (hb2.frozen (p := ⟨w.heap.size + 1 + 1, 2, none⟩) (cell_lt (a := ⟨w.heap.size + 1 + 1, 2, none⟩) (v := .int .i64 0) P0)).trans P1) (by first | assumption | (go_simp; done)) (by first | assumption | (go_simp; done)); have hq3 : w2.cell? ⟨w.heap.size + 1 + 1, 3, none⟩ = some (.int .i64 0) := (fun P0 => (hb2.cell (p := ⟨w.heap.size + 1 + 1, 3, none⟩) (cell_lt P0)).trans P0) (by first | assumption | (go_simp; done)); have hl3 := cell_lt hq3; (try simp only [] at hl3); have hf3 : w2.frozen? ⟨w.heap.size + 1 + 1, 3, none⟩ = false := (fun P0 P1 => (hb2.frozen (p := ⟨w.heap.size + 1 + 1, 3, none⟩) (cell_lt (a := ⟨w.heap.size + 1 + 1, 3, none⟩) (v := .int .i64 0) P0)).trans P1) (by first | assumption | (go_simp; done)) (by first | assumption | (go_simp; done))) | ((with_reducible refine (H1.out _ _ hcb).mono ?_); rintro e w2 ⟨rfl, hb2⟩; have hq0 : w2.cell? ⟨w.heap.size + 1 + 1, 0, none⟩ = some (.bool false) := (fun P0 => (hb2.cell (p := ⟨w.heap.size + 1 + 1, 0, none⟩) (cell_lt P0)).trans P0) (by first | assumption | (go_simp; done)); have hl0 := cell_lt hq0; (try simp only [] at hl0); have hf0 : w2.frozen? ⟨w.heap.size + 1 + 1, 0, none⟩ = false := (fun P0 P1 => (hb2.frozen (p := ⟨w.heap.size + 1 + 1, 0, none⟩) (cell_lt (a := ⟨w.heap.size + 1 + 1, 0, none⟩) (v := .bool false) P0)).trans P1) (by first | assumption | (go_simp; done)) (by first | assumption | (go_simp; done)); have hq1 : w2.cell? ⟨w.heap.size + 1 + 1, 1, none⟩ = some (.int .i64 0) := (fun P0 => (hb2.cell (p := ⟨w.heap.size + 1 + 1, 1, none⟩) (cell_lt P0)).trans P0) (by first | assumption | (go_simp; done)); have hl1 := cell_lt hq1; (try simp only [] at hl1); have hf1 : w2.frozen? ⟨w.heap.size + 1 + 1, 1, none⟩ = false := (fun P0 P1 => (hb2.frozen (p := ⟨w.heap.size + 1 + 1, 1, none⟩) (cell_lt (a := ⟨w.heap.size + 1 + 1, 1, none⟩) (v := .int .i64 0) P0)).trans P1) (by first | assumption | (go_simp; done)) (by first | assumption | (go_simp; done)); have hq2 : w2.cell? ⟨w.heap.size + 1 + 1, 2, none⟩ = some (.int .i64 0) := (fun P0 => (hb2.cell (p := ⟨w.heap.size + 1 + 1, 2, none⟩) (cell_lt P0)).trans P0) (by first | assumption | (go_simp; done)); have hl2 := cell_lt hq2; (try simp only [] at hl2); have hf2 : w2.frozen? ⟨w.heap.size + 1 + 1, 2, none⟩ = false := (fun P0 P1 => (hb2.frozen (p := ⟨w.heap.size + 1 + 1, 2, none⟩) (cell_lt (a := ⟨w.heap.size + 1 + 1, 2, none⟩) (v := .int .i64 0) P0)).trans P1) (by first | assumption | (go_simp; done)) (by first | assumption | (go_simp; done)); have hq3 : w2.cell? ⟨w.heap.size + 1 + 1, 3, none⟩ = some (.int .i64 0) := (fun P0 => (hb2.cell (p := ⟨w.heap.size + 1 + 1, 3, none⟩) (cell_lt P0)).trans P0) (by first | assumption | (go_simp; done)); have hl3 := cell_lt hq3; (try simp only [] at hl3); have hf3 : w2.frozen? ⟨w.heap.size + 1 + 1, 3, none⟩ = false := (fun P0 P1 => (hb2.frozen (p := ⟨w.heap.size + 1 + 1, 3, none⟩) (cell_lt (a := ⟨w.heap.size + 1 + 1, 3, none⟩) (v := .int .i64 0) P0)).trans P1) (by first | assumption | (go_simp; done)) (by first | assumption | (go_simp; done))))
  clear KS KT0
  (have hk' := (by assumption : Below w.heap.size w _ ∧ _); have hkB := hk'.1; go_split_ands)
  go_wp2
  exact bodyPost_ret (by simp [results, Try.results16, go_sem, hq0, hq1, hq2, hq3] <;> rfl) rfl ⟨rfl, hkB⟩
theorem fits_any (x : Int) (w : World) :
    Calls Try.prog 26 #[.int .i64 x] w fun e w' => e = .returned (.bool (flowB x)) ∧ w = w' := by
  go_enter Try.func26, Try.ntmps26
  go_wp2
  all_goals go_ret
  all_goals exact ⟨by simp [flowB, *] <;> omega, rfl⟩
set_option maxHeartbeats 2000000 in
theorem efit_any (h : Bool) (v o a : Int) (w : World) :
    Calls Try.prog 7 #[.agg #[.bool h, .int .i64 v, .int .i64 o, .int .i64 a]] w fun e w' => e = .returned (.bool (efitB h v o a)) ∧ Below w.heap.size w w' := by
  cases h
  all_goals
    go_enter Try.func7, Try.ntmps7
    go_wp2_with (go_at_call 26; refine (fits_any _ _).mono ?_; rintro e w' ⟨rfl, rfl⟩)
    all_goals go_ret
    all_goals exact ⟨by simp_all [efitB, flowB] <;> omega, (by repeat (first | with_reducible refine Below.setCell ?_ (by first | (simp; done) | (simp; omega) | omega) _ | with_reducible refine Below.alloc ?_ (by first | (simp; done) | (simp; omega) | omega) _ | with_reducible refine Below.drew ?_ | with_reducible exact Below.refl _ _))⟩
set_option maxHeartbeats 2000000 in
theorem erfit_any (h : Bool) (v o a : Int) (w : World) :
    Calls Try.prog 8 #[.agg #[.bool h, .int .i64 v, .int .i64 o, .int .i64 a]] w fun e w' => e = .returned (.bool (efitB h v o a)) ∧ Below w.heap.size w w' := by
  cases h
  all_goals
    go_enter Try.func8, Try.ntmps8
    go_wp2
    all_goals go_ret
    all_goals exact ⟨by simp_all [efitB, flowB] <;> omega, (by repeat (first | with_reducible refine Below.setCell ?_ (by first | (simp; done) | (simp; omega) | omega) _ | with_reducible refine Below.alloc ?_ (by first | (simp; done) | (simp; omega) | omega) _ | with_reducible refine Below.drew ?_ | with_reducible exact Below.refl _ _))⟩
set_option maxHeartbeats 2000000 in
theorem own_any (o v : Int) (w : World) :
    Calls Try.prog 11 #[.int .i64 o, .int .i64 v] w fun e w' => e = .returned (.agg #[.bool true, .int .i64 v, .int .i64 o, .int .i64 0]) ∧ Below w.heap.size w w' := by
  go_enter Try.func11, Try.ntmps11
  go_wp2
  exact bodyPost_ret (by simp [results, Try.results11, go_sem] <;> rfl) rfl ⟨rfl, (by repeat (first | with_reducible refine Below.setCell ?_ (by first | (simp; done) | (simp; omega) | omega) _ | with_reducible refine Below.alloc ?_ (by first | (simp; done) | (simp; omega) | omega) _ | with_reducible refine Below.drew ?_ | with_reducible exact Below.refl _ _))⟩
set_option maxHeartbeats 2000000 in
theorem rown_any (o v : Int) (w : World) :
    Calls Try.prog 12 #[.int .i64 o, .int .i64 v] w fun e w' => e = .returned (.agg #[.bool true, .int .i64 v, .int .i64 o, .int .i64 0]) ∧ Below w.heap.size w w' := by
  go_enter Try.func12, Try.ntmps12
  go_wp2
  exact bodyPost_ret (by simp [results, Try.results12, go_sem] <;> rfl) rfl ⟨rfl, (by repeat (first | with_reducible refine Below.setCell ?_ (by first | (simp; done) | (simp; omega) | omega) _ | with_reducible refine Below.alloc ?_ (by first | (simp; done) | (simp; omega) | omega) _ | with_reducible refine Below.drew ?_ | with_reducible exact Below.refl _ _))⟩
/-- A value one tick later. -/
def olderE (e : E) : E := if !e.has || decide (64 ≤ e.age + 1) then ⟨false, 0, 0, 0⟩ else ⟨true, e.val, e.org, e.age + 1⟩
/-- A value, if it is not the node's own. -/
def othersE (id : Int) (e : E) : E := if e.has && decide (e.org = id) then ⟨false, 0, 0, 0⟩ else e
set_option maxHeartbeats 2000000 in
theorem older_any (h : Bool) (v o a : Int) (ha : 0 ≤ a) (ha2 : a < 1000) (w : World) :
    Calls Try.prog 18 #[.agg #[.bool h, .int .i64 v, .int .i64 o, .int .i64 a]] w fun e w' => e = .returned (.agg #[.bool (olderE ⟨h, v, o, a⟩).has, .int .i64 (olderE ⟨h, v, o, a⟩).val, .int .i64 (olderE ⟨h, v, o, a⟩).org, .int .i64 (olderE ⟨h, v, o, a⟩).age]) ∧ Below w.heap.size w w' := by
  cases h
  · have HE := Lib.hid (show olderE ⟨false, v, o, a⟩ = ⟨false, 0, 0, 0⟩ from rfl)
    go_enter Try.func18, Try.ntmps18
    go_wp2
    exact bodyPost_ret (by simp [results, Try.results18, go_sem] <;> rfl) rfl ⟨by rw [HE.out], (by repeat (first | with_reducible refine Below.setCell ?_ (by first | (simp; done) | (simp; omega) | omega) _ | with_reducible refine Below.alloc ?_ (by first | (simp; done) | (simp; omega) | omega) _ | with_reducible refine Below.drew ?_ | with_reducible exact Below.refl _ _))⟩
  · by_cases hlt : 64 ≤ a + 1
    · have HE := Lib.hid (show olderE ⟨true, v, o, a⟩ = ⟨false, 0, 0, 0⟩ from by simp [olderE]; omega)
      go_enter Try.func18, Try.ntmps18
      go_wp2
      exact bodyPost_ret (by simp [results, Try.results18, go_sem] <;> rfl) rfl ⟨by rw [HE.out], (by repeat (first | with_reducible refine Below.setCell ?_ (by first | (simp; done) | (simp; omega) | omega) _ | with_reducible refine Below.alloc ?_ (by first | (simp; done) | (simp; omega) | omega) _ | with_reducible refine Below.drew ?_ | with_reducible exact Below.refl _ _))⟩
    · have HE := Lib.hid (show olderE ⟨true, v, o, a⟩ = ⟨true, v, o, a + 1⟩ from by simp [olderE]; omega)
      go_enter Try.func18, Try.ntmps18
      go_wp2
      exact bodyPost_ret (by simp [results, Try.results18, go_sem] <;> rfl) rfl ⟨by rw [HE.out], (by repeat (first | with_reducible refine Below.setCell ?_ (by first | (simp; done) | (simp; omega) | omega) _ | with_reducible refine Below.alloc ?_ (by first | (simp; done) | (simp; omega) | omega) _ | with_reducible refine Below.drew ?_ | with_reducible exact Below.refl _ _))⟩
set_option maxHeartbeats 2000000 in
theorem rolder_any (h : Bool) (v o a : Int) (ha : 0 ≤ a) (ha2 : a < 1000) (w : World) :
    Calls Try.prog 19 #[.agg #[.bool h, .int .i64 v, .int .i64 o, .int .i64 a]] w fun e w' => e = .returned (.agg #[.bool (olderE ⟨h, v, o, a⟩).has, .int .i64 (olderE ⟨h, v, o, a⟩).val, .int .i64 (olderE ⟨h, v, o, a⟩).org, .int .i64 (olderE ⟨h, v, o, a⟩).age]) ∧ Below w.heap.size w w' := by
  cases h
  · have HE := Lib.hid (show olderE ⟨false, v, o, a⟩ = ⟨false, 0, 0, 0⟩ from rfl)
    go_enter Try.func19, Try.ntmps19
    go_wp2
    exact bodyPost_ret (by simp [results, Try.results19, go_sem] <;> rfl) rfl ⟨by rw [HE.out], (by repeat (first | with_reducible refine Below.setCell ?_ (by first | (simp; done) | (simp; omega) | omega) _ | with_reducible refine Below.alloc ?_ (by first | (simp; done) | (simp; omega) | omega) _ | with_reducible refine Below.drew ?_ | with_reducible exact Below.refl _ _))⟩
  · by_cases hlt : 64 ≤ a + 1
    · have HE := Lib.hid (show olderE ⟨true, v, o, a⟩ = ⟨false, 0, 0, 0⟩ from by simp [olderE]; omega)
      go_enter Try.func19, Try.ntmps19
      go_wp2
      exact bodyPost_ret (by simp [results, Try.results19, go_sem] <;> rfl) rfl ⟨by rw [HE.out], (by repeat (first | with_reducible refine Below.setCell ?_ (by first | (simp; done) | (simp; omega) | omega) _ | with_reducible refine Below.alloc ?_ (by first | (simp; done) | (simp; omega) | omega) _ | with_reducible refine Below.drew ?_ | with_reducible exact Below.refl _ _))⟩
    · have HE := Lib.hid (show olderE ⟨true, v, o, a⟩ = ⟨true, v, o, a + 1⟩ from by simp [olderE]; omega)
      go_enter Try.func19, Try.ntmps19
      go_wp2
      exact bodyPost_ret (by simp [results, Try.results19, go_sem] <;> rfl) rfl ⟨by rw [HE.out], (by repeat (first | with_reducible refine Below.setCell ?_ (by first | (simp; done) | (simp; omega) | omega) _ | with_reducible refine Below.alloc ?_ (by first | (simp; done) | (simp; omega) | omega) _ | with_reducible refine Below.drew ?_ | with_reducible exact Below.refl _ _))⟩
set_option maxHeartbeats 2000000 in
theorem others_any (id : Int) (h : Bool) (v o a : Int) (w : World) :
    Calls Try.prog 31 #[.int .i64 id, .agg #[.bool h, .int .i64 v, .int .i64 o, .int .i64 a]] w fun e w' => e = .returned (.agg #[.bool (othersE id ⟨h, v, o, a⟩).has, .int .i64 (othersE id ⟨h, v, o, a⟩).val, .int .i64 (othersE id ⟨h, v, o, a⟩).org, .int .i64 (othersE id ⟨h, v, o, a⟩).age]) ∧ Below w.heap.size w w' := by
  cases h
  · have HE := Lib.hid (show othersE id ⟨false, v, o, a⟩ = ⟨false, v, o, a⟩ from rfl)
    go_enter Try.func31, Try.ntmps31
    go_wp2
    exact bodyPost_ret (by simp [results, Try.results31, go_sem] <;> rfl) rfl ⟨by rw [HE.out], (by repeat (first | with_reducible refine Below.setCell ?_ (by first | (simp; done) | (simp; omega) | omega) _ | with_reducible refine Below.alloc ?_ (by first | (simp; done) | (simp; omega) | omega) _ | with_reducible refine Below.drew ?_ | with_reducible exact Below.refl _ _))⟩
  · by_cases hlt : o = id
    · have HE := Lib.hid (show othersE id ⟨true, v, o, a⟩ = ⟨false, 0, 0, 0⟩ from by simp [othersE, hlt])
      subst hlt
      go_enter Try.func31, Try.ntmps31
      go_wp2
      exact bodyPost_ret (by simp [results, Try.results31, go_sem] <;> rfl) rfl ⟨by rw [HE.out], (by repeat (first | with_reducible refine Below.setCell ?_ (by first | (simp; done) | (simp; omega) | omega) _ | with_reducible refine Below.alloc ?_ (by first | (simp; done) | (simp; omega) | omega) _ | with_reducible refine Below.drew ?_ | with_reducible exact Below.refl _ _))⟩
    · have HE := Lib.hid (show othersE id ⟨true, v, o, a⟩ = ⟨true, v, o, a⟩ from by simp [othersE, hlt])
      have hlt' : (o == id) = false := by simpa using hlt
      go_enter Try.func31, Try.ntmps31
      go_wp2
      exact bodyPost_ret (by simp [results, Try.results31, go_sem] <;> rfl) rfl ⟨by rw [HE.out], (by repeat (first | with_reducible refine Below.setCell ?_ (by first | (simp; done) | (simp; omega) | omega) _ | with_reducible refine Below.alloc ?_ (by first | (simp; done) | (simp; omega) | omega) _ | with_reducible refine Below.drew ?_ | with_reducible exact Below.refl _ _))⟩
set_option maxHeartbeats 2000000 in
theorem rothers_any (id : Int) (h : Bool) (v o a : Int) (w : World) :
    Calls Try.prog 32 #[.int .i64 id, .agg #[.bool h, .int .i64 v, .int .i64 o, .int .i64 a]] w fun e w' => e = .returned (.agg #[.bool (othersE id ⟨h, v, o, a⟩).has, .int .i64 (othersE id ⟨h, v, o, a⟩).val, .int .i64 (othersE id ⟨h, v, o, a⟩).org, .int .i64 (othersE id ⟨h, v, o, a⟩).age]) ∧ Below w.heap.size w w' := by
  cases h
  · have HE := Lib.hid (show othersE id ⟨false, v, o, a⟩ = ⟨false, v, o, a⟩ from rfl)
    go_enter Try.func32, Try.ntmps32
    go_wp2
    exact bodyPost_ret (by simp [results, Try.results32, go_sem] <;> rfl) rfl ⟨by rw [HE.out], (by repeat (first | with_reducible refine Below.setCell ?_ (by first | (simp; done) | (simp; omega) | omega) _ | with_reducible refine Below.alloc ?_ (by first | (simp; done) | (simp; omega) | omega) _ | with_reducible refine Below.drew ?_ | with_reducible exact Below.refl _ _))⟩
  · by_cases hlt : o = id
    · have HE := Lib.hid (show othersE id ⟨true, v, o, a⟩ = ⟨false, 0, 0, 0⟩ from by simp [othersE, hlt])
      subst hlt
      go_enter Try.func32, Try.ntmps32
      go_wp2
      exact bodyPost_ret (by simp [results, Try.results32, go_sem] <;> rfl) rfl ⟨by rw [HE.out], (by repeat (first | with_reducible refine Below.setCell ?_ (by first | (simp; done) | (simp; omega) | omega) _ | with_reducible refine Below.alloc ?_ (by first | (simp; done) | (simp; omega) | omega) _ | with_reducible refine Below.drew ?_ | with_reducible exact Below.refl _ _))⟩
    · have HE := Lib.hid (show othersE id ⟨true, v, o, a⟩ = ⟨true, v, o, a⟩ from by simp [othersE, hlt])
      have hlt' : (o == id) = false := by simpa using hlt
      go_enter Try.func32, Try.ntmps32
      go_wp2
      exact bodyPost_ret (by simp [results, Try.results32, go_sem] <;> rfl) rfl ⟨by rw [HE.out], (by repeat (first | with_reducible refine Below.setCell ?_ (by first | (simp; done) | (simp; omega) | omega) _ | with_reducible refine Below.alloc ?_ (by first | (simp; done) | (simp; omega) | omega) _ | with_reducible refine Below.drew ?_ | with_reducible exact Below.refl _ _))⟩
end Go.Proofs.Ytdiccafoajjbmaa
