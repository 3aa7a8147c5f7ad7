/- The state of a bag: what the call computes. -/
import Derived.Test.YtdaobbffhfbceaaBgQ
import Derived.Test.YtdaobbffhfbceaaRfS
import Derived.Deep.RegionHeld3
import Derived.Deep.CutRange
namespace Go.Proofs.Ytdaobbffhfbceaa
open Go.RowKit Go.Shelf Go.Maps
set_option linter.unusedVariables false
set_option linter.unusedSimpArgs false
set_option maxRecDepth 100000
theorem i64_wf {x : Int} (h : (Lit.int .i64 x).wf = true) : i64B x := by have := bounds_i64 h; unfold i64B; omega
theorem link_inv {key : Value} {kl : Lit} (h : keyOf Try.prog 64 key = some kl) : ∃ x : LK, key = lAgg x ∧ kl = klit x ∧ i64B x.1 ∧ i64B x.2 := by
  obtain ⟨m, hm⟩ := lk_types
  obtain ⟨m2, hm2⟩ : ∃ m2, m = m2 + 1 := ⟨m - 1, by have : 1 < Try.prog.types.size := of_decide_eq_true (by kernel_rfl); omega⟩
  subst hm2
  unfold keyOf at h
  simp only [Try.underlying64] at h
  split at h
  · rename_i hf
    simp only [Bool.and_eq_true] at hf
    obtain ⟨_, hf⟩ := hf
    cases key <;> try (simp [Value.formed, Try.underlying64] at hf; done)
    rename_i cs
    simp [Value.formed, Try.underlying64, lk_cells] at hf
    obtain ⟨l⟩ := cs
    match l, hf with
    | [a0, a1], _ =>
      rw [hm] at h
      unfold Program.keyLits at h
      simp only [Try.underlying64, Value.cells] at h
      rw [if_pos (by rw [lk_cells]; exact ⟨rfl, by simp⟩)] at h
      have key1 : ∀ a : Value, (∃ n, a = .int .i64 n ∧ (Lit.int .i64 n).wf = true ∧ Program.keyLits Try.prog (m2 + 1 + 1) 3 [a] = some [.int .i64 n]) ∨ Program.keyLits Try.prog (m2 + 1 + 1) 3 [a] = none := by
        intro a
        unfold Program.keyLits
        simp only [Try.underlying3]
        cases a <;> simp
        rename_i k n
        by_cases hk : k = .i64 ∧ (Lit.int .i64 n).wf = true
        · obtain ⟨rfl, hw⟩ := hk
          simp [hw]
        · simp only [not_and] at hk
          right
          intro e
          have := hk e
          simpa using this
      rcases key1 a0 with ⟨n0, rfl, hw0, e0⟩ | e0
      · rcases key1 a1 with ⟨n1, rfl, hw1, e1⟩ | e1
        · simp [lk_int, e0, e1] at h
          exact ⟨(n0, n1), rfl, h.symm, i64_wf hw0, i64_wf hw1⟩
        · simp [lk_int, e0, e1] at h
      · simp [lk_int, e0] at h
  · cases h
/-! ### State -/
theorem lcells_at (W : World) (n : Nat) (hn : n = W.heap.size) (p1 p2 : Int) : Reads (W.alloc (Obj.cells #[.int .i64 p1, .int .i64 p2] 64)) (n + 1) 2 (some ⟨n, 0, none⟩) 1 [.int .i64 p1, .int .i64 p2] := by subst hn; exact lcells_new W p1 p2
theorem own_keep {α : Type} {enc : α → List Value} {k : Nat} {e : TypeId} {w w' : World} {base : Nat} {v : Value} {rs : List α} (h : OwnE enc k e w base v rs) (hb : ∀ b, v.ownBlock = some b → w'.heap[b]? = w.heap[b]?) : OwnE enc k e w' base v rs := by
  refine ⟨h.1, ?_⟩
  rcases h.2 with hn | ⟨g, cap, cur, hv, h1, h2, h3⟩
  · exact .inl hn
  · exact .inr ⟨g, cap, cur, hv, h1, (hb g (by rw [hv]; rfl)).trans h2, h3⟩
set_option maxHeartbeats 4000000 in
theorem state_any (Bb bm : Nat) (lv : Value) (s : BS) (w : World) (h : BagAt w Bb bm lv s) (hm : (s.sv.length + 1 + (s.sv.length + 1) / 4 + 192) * 16 ≤ 281474976710656) :
    Calls Try.prog 18 #[.pointer (some ⟨Bb, 0, none⟩)] w fun e w' => ∃ lv2 kv, e = .returned (mAgg s.nx lv2 kv) ∧ OwnE encD 4 33 w' w.heap.size lv2 s.ls ∧ OwnE encL 2 64 w' w.heap.size kv s.sv ∧ (∀ b, lv2.ownBlock = some b → kv.ownBlock ≠ some b) ∧ Below w.heap.size w w' := by
  have c0 := h.c0
  have c1 := h.c1
  have c2 := h.c2
  have c3 := h.c3
  have hbl := cell_lt c0
  simp only [] at hbl
  obtain ⟨A, c, rfl, hr⟩ := OwnE.at_ encD_len h.row
  have hn := h.ok.len
  have cl := fun (W : World) (hW : Below w.heap.size w W) => dclone_any A s.ls.length c s.ls W ((hr.below hW).more hW.size) (by omega)
  have CL := Lib.hid cl
  have HB := Lib.hid h
  have HM := Lib.hid hm
  clear h hm hr cl
  go_enter Try.func18, Try.ntmps18
  go_wp2_with (fail)
  refine (there_any Bb _ (by go_simp)).mono ?_; rintro e w1 ⟨rfl, rfl⟩
  go_upto_region 3 with (fail)
  obtain ⟨W1, hW1⟩ : ∃ W1, W1 = w.alloc (Obj.cells #[.int .i64 0, .slice none 0 0, .slice none 0 0] 50) := ⟨_, rfl⟩
  have HI : Hid (Below w.heap.size w W1 ∧ W1.cell? ⟨Bb, 1, none⟩ = some (.int .i64 s.nx) ∧ W1.cell? ⟨Bb, 2, none⟩ = some (.slice A s.ls.length c) ∧ W1.cell? ⟨Bb, 3, none⟩ = some (.map (some bm)) ∧ W1.cell? ⟨w.heap.size, 0, none⟩ = some (.int .i64 0) ∧ W1.cell? ⟨w.heap.size, 1, none⟩ = some (.slice none 0 0) ∧ W1.cell? ⟨w.heap.size, 2, none⟩ = some (.slice none 0 0) ∧ W1.frozen? ⟨w.heap.size, 0, none⟩ = false ∧ W1.frozen? ⟨w.heap.size, 1, none⟩ = false ∧ W1.frozen? ⟨w.heap.size, 2, none⟩ = false) := Lib.hid (by rw [hW1]; exact ⟨(by repeat (first | with_reducible refine Below.setCell ?_ (by first | (simp; done) | (simp; omega) | omega) _ | with_reducible refine Below.alloc ?_ (by first | (simp; done) | (simp; omega) | omega) _ | with_reducible refine Below.drew ?_ | with_reducible refine below_drewN ?_ _ | with_reducible exact Below.refl _ _)), (by go_simp), (by go_simp), (by go_simp), (by go_simp), (by go_simp), (by go_simp), (by go_simp), (by go_simp), (by go_simp)⟩)
  rw [← hW1]
  clear hW1 c0 c1 c2 c3
  go_cut [3] from 9 to 18 (fun s3 w' => ∃ (BU : Nat) (lv2 : Value), s3 = .pointer (some ⟨BU, 0, none⟩) ∧ w.heap.size < BU ∧ BU < w'.heap.size ∧ Hid (OwnE encD 4 33 w' (w.heap.size + 1) lv2 s.ls) ∧ Hid (lv2.ownBlock ≠ some BU) ∧ Hid (Below w.heap.size w w' ∧ w'.cell? ⟨Bb, 1, none⟩ = some (.int .i64 s.nx) ∧ w'.cell? ⟨Bb, 2, none⟩ = some (.slice A s.ls.length c) ∧ w'.cell? ⟨Bb, 3, none⟩ = some (.map (some bm)) ∧ w'.cell? ⟨w.heap.size, 0, none⟩ = some (.int .i64 0) ∧ w'.cell? ⟨w.heap.size, 1, none⟩ = some (.slice none 0 0) ∧ w'.cell? ⟨w.heap.size, 2, none⟩ = some (.slice none 0 0) ∧ w'.frozen? ⟨w.heap.size, 0, none⟩ = false ∧ w'.frozen? ⟨w.heap.size, 1, none⟩ = false ∧ w'.frozen? ⟨w.heap.size, 2, none⟩ = false) ∧ Hid (w'.cell? ⟨BU, 0, none⟩ = some (.int .i64 s.nx) ∧ w'.cell? ⟨BU, 1, none⟩ = some lv2 ∧ w'.cell? ⟨BU, 2, none⟩ = some (.slice none 0 0) ∧ w'.frozen? ⟨BU, 0, none⟩ = false ∧ w'.frozen? ⟨BU, 1, none⟩ = false ∧ w'.frozen? ⟨BU, 2, none⟩ = false))
  case first =>
    have kS : ∀ w1 w2 : World, (Below w.heap.size w w1 ∧ w1.cell? ⟨Bb, 1, none⟩ = some (.int .i64 s.nx) ∧ w1.cell? ⟨Bb, 2, none⟩ = some (.slice A s.ls.length c) ∧ w1.cell? ⟨Bb, 3, none⟩ = some (.map (some bm)) ∧ w1.cell? ⟨w.heap.size, 0, none⟩ = some (.int .i64 0) ∧ w1.cell? ⟨w.heap.size, 1, none⟩ = some (.slice none 0 0) ∧ w1.cell? ⟨w.heap.size, 2, none⟩ = some (.slice none 0 0) ∧ w1.frozen? ⟨w.heap.size, 0, none⟩ = false ∧ w1.frozen? ⟨w.heap.size, 1, none⟩ = false ∧ w1.frozen? ⟨w.heap.size, 2, none⟩ = false) → Below w1.heap.size w1 w2 → (Below w.heap.size w w2 ∧ w2.cell? ⟨Bb, 1, none⟩ = some (.int .i64 s.nx) ∧ w2.cell? ⟨Bb, 2, none⟩ = some (.slice A s.ls.length c) ∧ w2.cell? ⟨Bb, 3, none⟩ = some (.map (some bm)) ∧ w2.cell? ⟨w.heap.size, 0, none⟩ = some (.int .i64 0) ∧ w2.cell? ⟨w.heap.size, 1, none⟩ = some (.slice none 0 0) ∧ w2.cell? ⟨w.heap.size, 2, none⟩ = some (.slice none 0 0) ∧ w2.frozen? ⟨w.heap.size, 0, none⟩ = false ∧ w2.frozen? ⟨w.heap.size, 1, none⟩ = false ∧ w2.frozen? ⟨w.heap.size, 2, none⟩ = false) := by
      rintro w1 w2 ⟨k0, k1, k2, k3, k4, k5, k6, k7, k8, k9⟩ hb
      exact ⟨k0.trans (hb.mono k0.size), (hb.cell (p := ⟨Bb, 1, none⟩) (cell_lt k1)).trans k1, (hb.cell (p := ⟨Bb, 2, none⟩) (cell_lt k2)).trans k2, (hb.cell (p := ⟨Bb, 3, none⟩) (cell_lt k3)).trans k3, (hb.cell (p := ⟨w.heap.size, 0, none⟩) (cell_lt k4)).trans k4, (hb.cell (p := ⟨w.heap.size, 1, none⟩) (cell_lt k5)).trans k5, (hb.cell (p := ⟨w.heap.size, 2, none⟩) (cell_lt k6)).trans k6, (hb.frozen (p := ⟨w.heap.size, 0, none⟩) (cell_lt k4)).trans k7, (hb.frozen (p := ⟨w.heap.size, 1, none⟩) (cell_lt k5)).trans k8, (hb.frozen (p := ⟨w.heap.size, 2, none⟩) (cell_lt k6)).trans k9⟩
    have KA : Hid (∀ (w1 : World) (o1 : Obj), (Below w.heap.size w w1 ∧ w1.cell? ⟨Bb, 1, none⟩ = some (.int .i64 s.nx) ∧ w1.cell? ⟨Bb, 2, none⟩ = some (.slice A s.ls.length c) ∧ w1.cell? ⟨Bb, 3, none⟩ = some (.map (some bm)) ∧ w1.cell? ⟨w.heap.size, 0, none⟩ = some (.int .i64 0) ∧ w1.cell? ⟨w.heap.size, 1, none⟩ = some (.slice none 0 0) ∧ w1.cell? ⟨w.heap.size, 2, none⟩ = some (.slice none 0 0) ∧ w1.frozen? ⟨w.heap.size, 0, none⟩ = false ∧ w1.frozen? ⟨w.heap.size, 1, none⟩ = false ∧ w1.frozen? ⟨w.heap.size, 2, none⟩ = false) → (Below w.heap.size w (w1.alloc o1) ∧ (w1.alloc o1).cell? ⟨Bb, 1, none⟩ = some (.int .i64 s.nx) ∧ (w1.alloc o1).cell? ⟨Bb, 2, none⟩ = some (.slice A s.ls.length c) ∧ (w1.alloc o1).cell? ⟨Bb, 3, none⟩ = some (.map (some bm)) ∧ (w1.alloc o1).cell? ⟨w.heap.size, 0, none⟩ = some (.int .i64 0) ∧ (w1.alloc o1).cell? ⟨w.heap.size, 1, none⟩ = some (.slice none 0 0) ∧ (w1.alloc o1).cell? ⟨w.heap.size, 2, none⟩ = some (.slice none 0 0) ∧ (w1.alloc o1).frozen? ⟨w.heap.size, 0, none⟩ = false ∧ (w1.alloc o1).frozen? ⟨w.heap.size, 1, none⟩ = false ∧ (w1.alloc o1).frozen? ⟨w.heap.size, 2, none⟩ = false)) := Lib.hid (fun w1 o1 h => kS w1 _ h ((Below.refl _ _).alloc (Nat.le_refl _) _))
    have KD : Hid (∀ (w1 : World), (Below w.heap.size w w1 ∧ w1.cell? ⟨Bb, 1, none⟩ = some (.int .i64 s.nx) ∧ w1.cell? ⟨Bb, 2, none⟩ = some (.slice A s.ls.length c) ∧ w1.cell? ⟨Bb, 3, none⟩ = some (.map (some bm)) ∧ w1.cell? ⟨w.heap.size, 0, none⟩ = some (.int .i64 0) ∧ w1.cell? ⟨w.heap.size, 1, none⟩ = some (.slice none 0 0) ∧ w1.cell? ⟨w.heap.size, 2, none⟩ = some (.slice none 0 0) ∧ w1.frozen? ⟨w.heap.size, 0, none⟩ = false ∧ w1.frozen? ⟨w.heap.size, 1, none⟩ = false ∧ w1.frozen? ⟨w.heap.size, 2, none⟩ = false) → (Below w.heap.size w w1.drew ∧ w1.drew.cell? ⟨Bb, 1, none⟩ = some (.int .i64 s.nx) ∧ w1.drew.cell? ⟨Bb, 2, none⟩ = some (.slice A s.ls.length c) ∧ w1.drew.cell? ⟨Bb, 3, none⟩ = some (.map (some bm)) ∧ w1.drew.cell? ⟨w.heap.size, 0, none⟩ = some (.int .i64 0) ∧ w1.drew.cell? ⟨w.heap.size, 1, none⟩ = some (.slice none 0 0) ∧ w1.drew.cell? ⟨w.heap.size, 2, none⟩ = some (.slice none 0 0) ∧ w1.drew.frozen? ⟨w.heap.size, 0, none⟩ = false ∧ w1.drew.frozen? ⟨w.heap.size, 1, none⟩ = false ∧ w1.drew.frozen? ⟨w.heap.size, 2, none⟩ = false)) := Lib.hid (fun w1 h => kS w1 _ h ((Below.refl _ _).drew))
    have KS := Lib.hid kS
    clear kS
    have kF : ∀ (w1 : World) (b o1 : Nat) (u1 : Value), (Below w.heap.size w w1 ∧ w1.cell? ⟨Bb, 1, none⟩ = some (.int .i64 s.nx) ∧ w1.cell? ⟨Bb, 2, none⟩ = some (.slice A s.ls.length c) ∧ w1.cell? ⟨Bb, 3, none⟩ = some (.map (some bm)) ∧ w1.cell? ⟨w.heap.size, 0, none⟩ = some (.int .i64 0) ∧ w1.cell? ⟨w.heap.size, 1, none⟩ = some (.slice none 0 0) ∧ w1.cell? ⟨w.heap.size, 2, none⟩ = some (.slice none 0 0) ∧ w1.frozen? ⟨w.heap.size, 0, none⟩ = false ∧ w1.frozen? ⟨w.heap.size, 1, none⟩ = false ∧ w1.frozen? ⟨w.heap.size, 2, none⟩ = false) → w.heap.size < b → (Below w.heap.size w (w1.setCell ⟨b, o1, none⟩ u1) ∧ (w1.setCell ⟨b, o1, none⟩ u1).cell? ⟨Bb, 1, none⟩ = some (.int .i64 s.nx) ∧ (w1.setCell ⟨b, o1, none⟩ u1).cell? ⟨Bb, 2, none⟩ = some (.slice A s.ls.length c) ∧ (w1.setCell ⟨b, o1, none⟩ u1).cell? ⟨Bb, 3, none⟩ = some (.map (some bm)) ∧ (w1.setCell ⟨b, o1, none⟩ u1).cell? ⟨w.heap.size, 0, none⟩ = some (.int .i64 0) ∧ (w1.setCell ⟨b, o1, none⟩ u1).cell? ⟨w.heap.size, 1, none⟩ = some (.slice none 0 0) ∧ (w1.setCell ⟨b, o1, none⟩ u1).cell? ⟨w.heap.size, 2, none⟩ = some (.slice none 0 0) ∧ (w1.setCell ⟨b, o1, none⟩ u1).frozen? ⟨w.heap.size, 0, none⟩ = false ∧ (w1.setCell ⟨b, o1, none⟩ u1).frozen? ⟨w.heap.size, 1, none⟩ = false ∧ (w1.setCell ⟨b, o1, none⟩ u1).frozen? ⟨w.heap.size, 2, none⟩ = false) := by
      rintro w1 b o1 u1 ⟨k0, k1, k2, k3, k4, k5, k6, k7, k8, k9⟩ hbb
      have hl := cell_lt (HI.out.2.1)
      exact ⟨k0.trans ((Below.refl _ _).setCell (by simp only []; omega) _), (World.cell?_setCell_far _ _ _ _ (by first | (simp only []; omega) | exact (fun e => by have := cell_lt k1; simp only [] at this e; omega))).trans k1, (World.cell?_setCell_far _ _ _ _ (by first | (simp only []; omega) | exact (fun e => by have := cell_lt k2; simp only [] at this e; omega))).trans k2, (World.cell?_setCell_far _ _ _ _ (by first | (simp only []; omega) | exact (fun e => by have := cell_lt k3; simp only [] at this e; omega))).trans k3, (World.cell?_setCell_far _ _ _ _ (by first | (simp only []; omega) | exact (fun e => by have := cell_lt k4; simp only [] at this e; omega))).trans k4, (World.cell?_setCell_far _ _ _ _ (by first | (simp only []; omega) | exact (fun e => by have := cell_lt k5; simp only [] at this e; omega))).trans k5, (World.cell?_setCell_far _ _ _ _ (by first | (simp only []; omega) | exact (fun e => by have := cell_lt k6; simp only [] at this e; omega))).trans k6, (by rw [World.frozen?_setCell]; exact k7), (by rw [World.frozen?_setCell]; exact k8), (by rw [World.frozen?_setCell]; exact k9)⟩
    have KF := Lib.hid kF
    clear kF
    have h1 := HI.out
    go_split_ands
    have hlw1 : w.heap.size < W1.heap.size := cell_lt (a := ⟨w.heap.size, 0, none⟩) (by assumption : W1.cell? ⟨w.heap.size, 0, none⟩ = some (.int .i64 0))
    go_region_held3 (fun w' => Below w.heap.size w w' ∧ w'.cell? ⟨Bb, 1, none⟩ = some (.int .i64 s.nx) ∧ w'.cell? ⟨Bb, 2, none⟩ = some (.slice A s.ls.length c) ∧ w'.cell? ⟨Bb, 3, none⟩ = some (.map (some bm)) ∧ w'.cell? ⟨w.heap.size, 0, none⟩ = some (.int .i64 0) ∧ w'.cell? ⟨w.heap.size, 1, none⟩ = some (.slice none 0 0) ∧ w'.cell? ⟨w.heap.size, 2, none⟩ = some (.slice none 0 0) ∧ w'.frozen? ⟨w.heap.size, 0, none⟩ = false ∧ w'.frozen? ⟨w.heap.size, 1, none⟩ = false ∧ w'.frozen? ⟨w.heap.size, 2, none⟩ = false) (repeat (first | with_reducible assumption | with_reducible exact HI.out | with_reducible refine KD.out _ ?_ | with_reducible refine KA.out _ _ ?_ | with_reducible refine KF.out _ _ _ _ ?_ (by omega) | with_reducible refine KS.out _ _ ?_ (by assumption))) (first | (with_reducible refine (CL.out _ (And.left (by assumption))).mono ?_); rintro e w2 ⟨lv2, rfl, hown2, hb2⟩; obtain ⟨A2, d2, hv2⟩ := row_slice' hown2; subst hv2; obtain ⟨hc2, hf2⟩ := bcell hb2; have hz2 := hb2.size; (try simp at hz2))
    · go_wp2_with (fail)
      go_meet
      have hl1 := own_lt hown2
      refine ⟨w2.heap.size, _, rfl, by omega, by simp, Lib.hid ((hown2.below ((Below.refl _ _).alloc (Nat.le_refl _) _)).less (by simp; omega)), Lib.hid (fun e => by have := hl1 _ e; omega), Lib.hid (by with_reducible assumption), Lib.hid ⟨?_, ?_, ?_, ?_, ?_, ?_⟩⟩ <;> go_simp
    · go_wp2_with (fail)
      go_meet
      have hl1 := own_fresh hown2
      refine ⟨W1.heap.size, _, rfl, by omega, by simp; omega, Lib.hid ?_, Lib.hid (fun e => by have := hl1 _ e; (try simp at this); omega), Lib.hid (by with_reducible assumption), Lib.hid ⟨?_, ?_, ?_, ?_, ?_, ?_⟩⟩
      · exact (((hown2.setc (by first | (simp; done) | (simp; omega) | omega) _).setc (by first | (simp; done) | (simp; omega) | omega) _).setc (by first | (simp; done) | (simp; omega) | omega) _).less (by first | (simp; done) | (simp; omega) | omega)
      all_goals go_simp
  case rest =>
    obtain ⟨BU, lv2, rfl, hU1, hU2, HO2, HNE, HS, HC⟩ := hcut
    obtain ⟨A2, d2, hv2⟩ := row_slice' HO2.out
    subst hv2
    obtain ⟨i0, hi0, hj0, hj1, hj2⟩ := info_parts lk_inf
    have hbw := HS.out.1
    have HBW := Lib.hid hbw
    obtain ⟨D, hown, hD⟩ := HB.out.map.same (hbw.block bm HB.out.map.lt)
    have HD := Lib.hid hD
    have hbml : bm < wc.heap.size := hown.lt
    have kB3 : wc.cell? ⟨Bb, 3, none⟩ = some (.map (some bm)) := HS.out.2.2.2.1
    go_wp2_with (first
      | (at_range; refine wpList_range_own _ rfl _ 44 rfl 64 3 lk_law Try.underlying44 plI bm _ D rfl hown ?_; intro W0 hrg0 hg0 hs0)
      | fail)
    go_frame
    obtain ⟨r, hr⟩ : ∃ r, wc.heap.size = r := ⟨_, rfl⟩
    rw [hr] at hrg0 ⊢
    have hr0 : r < W0.heap.size := hrg0.lt
    have hU0 : BU < r := by omega
    have hb0 : Below wc.heap.size wc W0 := ⟨hg0.os, hg0.tape, hg0.output, hg0.size, fun b hb => hg0.block b hb (by simp)⟩
    have HRG0 := Lib.hid hrg0
    have HB0 := Lib.hid hb0
    have HC0 := Lib.hid HC.out
    have hsz : Maps.size D = s.sv.length := HD.out.size
    have HSZ := Lib.hid hsz
    have hq0 : W0.cell? ⟨BU, 0, none⟩ = some (.int .i64 s.nx) := (hb0.cell (p := ⟨BU, 0, none⟩) hU2).trans HC.out.1
    have hq1 : W0.cell? ⟨BU, 1, none⟩ = some (.slice A2 s.ls.length d2) := (hb0.cell (p := ⟨BU, 1, none⟩) hU2).trans HC.out.2.1
    have hq2 : W0.cell? ⟨BU, 2, none⟩ = some (.slice none 0 0) := (hb0.cell (p := ⟨BU, 2, none⟩) hU2).trans HC.out.2.2.1
    have hq3 : W0.frozen? ⟨BU, 2, none⟩ = false := (hb0.frozen (p := ⟨BU, 2, none⟩) hU2).trans HC.out.2.2.2.2.2
    have HQ : Hid (W0.cell? ⟨BU, 0, none⟩ = some (.int .i64 s.nx) ∧ W0.cell? ⟨BU, 1, none⟩ = some (.slice A2 s.ls.length d2) ∧ W0.cell? ⟨BU, 2, none⟩ = some (.slice none 0 0) ∧ W0.frozen? ⟨BU, 2, none⟩ = false) := Lib.hid ⟨hq0, hq1, hq2, hq3⟩
    have HR := Lib.hid hr
    clear hown hrg0 hg0 hs0 hb0 hsz kB3 hq0 hq1 hq2 hq3 hr
    go_loopw [4] (fun _ w' => ∃ (left : Lit → Bool) (cnt : Nat) (L : List LK) (kv : Value), Hid (w'.ranges Try.prog 64 plI bm r (Maps.size D) D left cnt) ∧ Hid (∀ kl, left kl = true → Maps.has D kl = true) ∧ Hid (∀ x ∈ L, x ∈ s.sv) ∧ Hid (∀ x ∈ s.sv, left (klit x) = false → x ∈ L) ∧ Hid (∀ x ∈ L, left (klit x) = false) ∧ Hid L.Nodup ∧ Hid (L.length + cnt ≤ s.sv.length) ∧ Hid (Turn [BU, r] W0 w') ∧ Hid (OwnE encL 2 64 w' W0.heap.size kv L) ∧ w'.cell? ⟨BU, 0, none⟩ = some (.int .i64 s.nx) ∧ w'.cell? ⟨BU, 1, none⟩ = some (.slice A2 s.ls.length d2) ∧ w'.cell? ⟨BU, 2, none⟩ = some kv ∧ w'.frozen? ⟨BU, 2, none⟩ = false) (fun _ w' => w'.rangeLeft bm r)
    case atStart => exact ⟨_, _, [], .slice none 0 0, HRG0, Lib.hid (fun _ h => h), Lib.hid (fun x h => by cases h), Lib.hid (fun x hx h2 => by
        have := has_klit HD.out HB.out.ok.i64 (HB.out.ok.i64 x hx)
        rw [h2] at this
        simp [hx] at this), Lib.hid (fun x h => by cases h), Lib.hid List.nodup_nil, Lib.hid (by have := HSZ.out; simp; omega), Lib.hid (Turn.refl _ _), Lib.hid (OwnE.nil _ _ _), HQ.out.1, HQ.out.2.1, HQ.out.2.2.1, HQ.out.2.2.2⟩
    case round =>
      obtain ⟨left, cnt, L, kv, HRG, HLD, HL1, HL2, HL3, HLN, HLC, HT, HO, kc0, kc1, kc2, kf2⟩ := hrel
      have hrg := HRG.out
      obtain ⟨Ak, ck, hkv⟩ := row_slice' HO.out
      subst hkv
      have hUw : BU < wr.heap.size := cell_lt kc0
      have hrw : r < wr.heap.size := hrg.lt
      go_wp2_with (first
        | (at_next; refine wpList_next_ranges _ rfl _ rfl 64 lk_law plI lAgg (Value.int .i64) (fun key kl h => (link_inv h).elim fun x hx => ⟨x, hx.1⟩) (fun v y hv => by obtain ⟨c, rfl, _⟩ := plainElem_int_inv Try.underlying3 hv; exact ⟨c, rfl⟩) bm r (Maps.size D) D left cnt rfl hrg ?_ ?_)
        | fail)
      · intro hc0 hl0
        have hmem : ∀ x, x ∈ L ↔ x ∈ s.sv := fun x => ⟨HL1.out x, fun h => HL2.out x h (hl0 _)⟩
        have hlen : L.length < 17592186044416 := by have := wid_lt HM.out; have := HLC.out; omega
        have so := fun W (h : OwnE encL 2 64 W W0.heap.size (.slice Ak L.length ck) L) => sort_any W0.heap.size Ak ck L W h HLN.out hlen
        have SO := Lib.hid so
        have HMEM := Lib.hid hmem
        have HFR := Lib.hid (own_fresh HO.out)
        have hW0r : W0.heap.size ≤ wr.heap.size := HT.out.size
        have hUW : BU < W0.heap.size := by omega
        clear hmem so hl0 hc0 hrg
        go_wp2_with (fail)
        refine (SO.out _ (by exact HO.out)).mono ?_; rintro e w3 ⟨rfl, ts, ho3, hl3, hm3, hrise, hg3⟩
        obtain rfl : ts = s.sv := rise_ext hrise HB.out.ok.sv (fun x => (hm3 x).trans (HMEM.out x))
        have hb3 : Below W0.heap.size wr w3 := row_grown HO.out hg3 hW0r
        have hold : ∀ b, b < W0.heap.size → b ≠ BU → b ≠ r → w3.heap[b]? = W0.heap[b]? := fun b h1 h2 h3 => (hb3.block b h1).trans (HT.out.block b h1 (by simp [h2, h3]))
        have hwc : ∀ b, b < wc.heap.size → b ≠ BU → w3.heap[b]? = wc.heap[b]? := fun b h1 h2 => (hold b (by have := HB0.out.size; omega) h2 (by have := HR.out; omega)).trans (HB0.out.block b h1)
        have p0 : w3.cell? ⟨BU, 0, none⟩ = some (.int .i64 s.nx) := (hb3.cell (p := ⟨BU, 0, none⟩) hUW).trans kc0
        have p1 : w3.cell? ⟨BU, 1, none⟩ = some (.slice A2 s.ls.length d2) := (hb3.cell (p := ⟨BU, 1, none⟩) hUW).trans kc1
        have p2 : w3.cell? ⟨BU, 2, none⟩ = some (.slice Ak L.length ck) := (hb3.cell (p := ⟨BU, 2, none⟩) hUW).trans kc2
        have hhs := HS.out
        have hwl : w.heap.size < wc.heap.size := cell_lt (a := ⟨w.heap.size, 0, none⟩) hhs.2.2.2.2.1
        have hw3 := hwc w.heap.size hwl (by omega)
        have r0 : w3.cell? ⟨w.heap.size, 0, none⟩ = some (.int .i64 0) := (World.cell?_of_block (a := ⟨w.heap.size, 0, none⟩) hw3).trans hhs.2.2.2.2.1
        have r1 : w3.cell? ⟨w.heap.size, 1, none⟩ = some (.slice none 0 0) := (World.cell?_of_block (a := ⟨w.heap.size, 1, none⟩) hw3).trans hhs.2.2.2.2.2.1
        have r2 : w3.cell? ⟨w.heap.size, 2, none⟩ = some (.slice none 0 0) := (World.cell?_of_block (a := ⟨w.heap.size, 2, none⟩) hw3).trans hhs.2.2.2.2.2.2.1
        have f0 : w3.frozen? ⟨w.heap.size, 0, none⟩ = false := (frozen_of_block (p := ⟨w.heap.size, 0, none⟩) hw3).trans hhs.2.2.2.2.2.2.2.1
        have f1 : w3.frozen? ⟨w.heap.size, 1, none⟩ = false := (frozen_of_block (p := ⟨w.heap.size, 1, none⟩) hw3).trans hhs.2.2.2.2.2.2.2.2.1
        have f2 : w3.frozen? ⟨w.heap.size, 2, none⟩ = false := (frozen_of_block (p := ⟨w.heap.size, 2, none⟩) hw3).trans hhs.2.2.2.2.2.2.2.2.2
        have hlv := own_lt HO2.out
        have HLV : Hid (OwnE encD 4 33 w3 (w.heap.size + 1) (.slice A2 s.ls.length d2) s.ls) := Lib.hid (own_keep HO2.out (fun b e => hwc b (hlv b e) (fun e2 => HNE.out (by rw [e, e2]))))
        have HKV := Lib.hid ho3
        have io : SameIO w w3 := (SameIO.below HBW.out).trans ((SameIO.below HB0.out).trans (HT.out.io.trans (SameIO.below hb3)))
        have hbe : Below w.heap.size w w3 := ⟨io.1, io.2.1, io.2.2, by have := HBW.out.size; have := HB0.out.size; have := hb3.size; omega, fun b hb => (hwc b (by omega) (by omega)).trans (HBW.out.block b hb)⟩
        have HBE := Lib.hid hbe
        have HDJ : Hid (∀ b, (Value.slice A2 s.ls.length d2).ownBlock = some b → (Value.slice Ak L.length ck).ownBlock ≠ some b) := Lib.hid (fun b e e2 => by have h1 := hlv b e; have h2 := HFR.out b e2; have h3 := HB0.out.size; omega)
        clear hhs hlv ho3 hl3 hm3 hrise hg3 hb3 hold hwc kc0 kc1 kc2 kf2 hw3 hbe io
        go_wp2
        refine bodyPost_ret (v := mAgg s.nx (.slice A2 s.ls.length d2) (.slice Ak L.length ck)) (by simp [results, Try.results18, go_sem, *]) rfl ⟨_, _, rfl, ?_, ?_, HDJ.out, (by repeat (first | with_reducible refine Below.setCell ?_ (by first | (simp; done) | (simp; omega) | omega) _ | with_reducible refine Below.alloc ?_ (by first | (simp; done) | (simp; omega) | omega) _ | with_reducible refine Below.drew ?_ | with_reducible refine below_drewN ?_ _ | with_reducible exact Below.refl _ _ | with_reducible refine Below.trans ?_ (Below.mono HBE.out (by first | (simp; done) | (simp; omega) | omega))))⟩
        · exact (((HLV.out.setc (by simp) _).setc (by simp) _).setc (by simp) _).less (by omega)
        · have hws0 : w.heap.size < W0.heap.size := by have := HB0.out.size; omega
          exact (((HKV.out.setc hws0 _).setc hws0 _).setc hws0 _).less (by omega)
      · intro x1 x2 cc kl y1 y2 w1 cnt1 hkey hlx hR hat hrg1 hlt hg1 hs1 hen
        obtain ⟨x', hx', hkl, h64⟩ := link_inv hkey
        obtain ⟨z1, z2⟩ := x'
        obtain ⟨rfl, rfl⟩ : x1 = z1 ∧ x2 = z2 := by simpa using hx'
        subst hkl
        have hww := hg1.size
        have hfr := own_fresh HO.out
        have hlo := own_lt HO.out
        have hW0r : W0.heap.size ≤ wr.heap.size := HT.out.size
        have HT1 := Lib.hid (HT.out.grown hg1 (fun j e => by cases e; exact .inl (by simp)))
        have HO1 : Hid (OwnE encL 2 64 w1 W0.heap.size (.slice Ak L.length ck) L) := Lib.hid (own_keep HO.out (fun b e => hg1.block b (hlo b e) (fun e2 => by have := hfr b e; cases e2; omega)))
        have hbU : w1.heap[BU]? = wr.heap[BU]? := hg1.block BU hUw (fun e2 => by cases e2; omega)
        have q0 : w1.cell? ⟨BU, 0, none⟩ = some (.int .i64 s.nx) := (World.cell?_of_block (a := ⟨BU, 0, none⟩) hbU).trans kc0
        have q1 : w1.cell? ⟨BU, 1, none⟩ = some (.slice A2 s.ls.length d2) := (World.cell?_of_block (a := ⟨BU, 1, none⟩) hbU).trans kc1
        have q2 : w1.cell? ⟨BU, 2, none⟩ = some (.slice Ak L.length ck) := (World.cell?_of_block (a := ⟨BU, 2, none⟩) hbU).trans kc2
        have q3 : w1.frozen? ⟨BU, 2, none⟩ = false := (frozen_of_block (p := ⟨BU, 2, none⟩) hbU).trans kf2
        have HRG1 := Lib.hid hrg1
        have hxm : (x1, x2) ∈ s.sv := by
          have := HLD.out _ hlx
          rw [has_klit HD.out HB.out.ok.i64 h64] at this
          simpa using this
        have HXM := Lib.hid hxm
        have HXN : Hid ((x1, x2) ∉ L) := Lib.hid (fun h => by rw [HL3.out _ h] at hlx; cases hlx)
        have HLC1 : Hid ((L ++ [(x1, x2)]).length + cnt1 ≤ s.sv.length) := Lib.hid (by have := HLC.out; rw [List.length_append, List.length_singleton]; omega)
        have HCN : Hid (cnt1 < cnt) := Lib.hid hlt
        have B3 : Hid (L.length + 1 ≤ maxLen) := Lib.hid (wid_ok HM.out (n := L.length + 1) (by have := HLC1.out; rw [List.length_append, List.length_singleton] at this; omega)).1
        have B4 : Hid ((L.length + 1 + (L.length + 1) / 4 + 192) * 16 ≤ 281474976710656) := Lib.hid (wid_ok HM.out (n := L.length + 1) (by have := HLC1.out; rw [List.length_append, List.length_singleton] at this; omega)).2
        have HKL : Hid (WideAt.IsKeyLit (klit (x1, x2)) ∧ (i64B x1 ∧ i64B x2)) := Lib.hid ⟨klit_key h64, h64⟩
        have HFR := Lib.hid hfr
        have hU1w : BU < w1.heap.size := by omega
        have hUW : BU < W0.heap.size := by omega
        have hbmr : bm < r := by have := HR.out; omega
        clear hxm hlx hR hat hrg1 hlt hkey hx' h64 kc0 kc1 kc2 kf2 hrg hbU hfr hlo hg1 hs1
        go_wp2_with (first
          | (at_builtin; refine wpList_append_wide _ rfl (.tmp 29) (.tmp 31) _ rfl W0.heap.size 64 i0 _ 2 16 Try.underlying48 hi0 hj0 hj1 hj2 rfl (by omega) (.slice Ak L.length ck) L.length (flatE encL L) rfl (by exact (HO1.out.below (by repeat (first | with_reducible refine Below.setCell ?_ (by first | (simp; done) | (simp; omega) | omega) _ | with_reducible refine Below.alloc ?_ (by first | (simp; done) | (simp; omega) | omega) _ | with_reducible refine Below.drew ?_ | with_reducible refine below_drewN ?_ _ | with_reducible exact Below.refl _ _)))) (w1.heap.size + 1 + 1) (some ⟨w1.heap.size + 1, 0, none⟩) 1 1 [.int .i64 x1, .int .i64 x2] rfl (by exact lcells_at _ _ (by simp) x1 x2) (by simp [Value.oneCell']) B3.out B4.out (by simp; omega) ?_; intro v3 w3 hown3 hg3; obtain ⟨A3, c3, hv3⟩ := row_slice' hown3; subst hv3; have hb3 := row_grown (v := .slice Ak L.length ck) (base := W0.heap.size) (e := 64) (size := 2) (n := L.length) (xs := flatE encL L) (by exact (HO1.out.below (by repeat (first | with_reducible refine Below.setCell ?_ (by first | (simp; done) | (simp; omega) | omega) _ | with_reducible refine Below.alloc ?_ (by first | (simp; done) | (simp; omega) | omega) _ | with_reducible refine Below.drew ?_ | with_reducible refine below_drewN ?_ _ | with_reducible exact Below.refl _ _)))) hg3 (by simp; omega); have HT3 := Lib.hid ((HT1.out.trans (Turn.below (F := []) (by exact (by repeat (first | with_reducible refine Below.setCell ?_ (by first | (simp; done) | (simp; omega) | omega) _ | with_reducible refine Below.alloc ?_ (by first | (simp; done) | (simp; omega) | omega) _ | with_reducible refine Below.drew ?_ | with_reducible refine below_drewN ?_ _ | with_reducible exact Below.refl _ _)) : Below w1.heap.size w1 _) (Nat.le_refl _)) (by simp)).grown hg3 (fun j e => .inr (HFR.out j e))); have HRG3 := Lib.hid (((HRG1.out.alloc _).alloc _).kept hg3 (fun e => by have := HFR.out _ e.symm; omega) (fun e => by have := HFR.out _ e.symm; omega)); have p0 : w3.cell? ⟨BU, 0, none⟩ = some (.int .i64 s.nx) := (hb3.cell (p := ⟨BU, 0, none⟩) hUW).trans (by go_simp); have p1 : w3.cell? ⟨BU, 1, none⟩ = some (.slice A2 s.ls.length d2) := (hb3.cell (p := ⟨BU, 1, none⟩) hUW).trans (by go_simp); have p2 : w3.cell? ⟨BU, 2, none⟩ = some (.slice Ak L.length ck) := (hb3.cell (p := ⟨BU, 2, none⟩) hUW).trans (by go_simp); have p3 : w3.frozen? ⟨BU, 2, none⟩ = false := (hb3.frozen (p := ⟨BU, 2, none⟩) hUW).trans (by go_simp); have HO3 := Lib.hid hown3; clear hown3 hg3 hb3)
          | fail)
        have ho3 : OwnE encL 2 64 w3 W0.heap.size (.slice A3 (L.length + 1) c3) (L ++ [(x1, x2)]) := by
          unfold OwnE
          rw [flatE_snoc, List.length_append, List.length_singleton]
          exact HO3.out
        have hks : ∀ x ∈ s.sv, (klit (x1, x2)).sameKey (klit x) = true ∨ (klit x).sameKey (klit (x1, x2)) = true → x = (x1, x2) := by
          intro x hx h
          have h1 := HB.out.ok.i64 x hx
          rcases h with h | h
          · exact (klit_inj HKL.out.2 h1 (WideAt.sameKey_eq h)).symm
          · exact klit_inj h1 HKL.out.2 (WideAt.sameKey_eq h)
        have HRG4 := Lib.hid (HRG3.out.kept (w' := w3.setCell ⟨BU, 2, none⟩ (.slice A3 (L.length + 1) c3)) (row := some BU) ⟨rfl, rfl, rfl, by simp, fun b hb hne => Below.heap_setCell _ _ _ _ (fun e => by subst e; exact hne rfl)⟩ (fun e => by have := HB.out.map.lt; cases e; omega) (fun e => by cases e; omega))
        go_roundw
        case rel =>
          refine ⟨_, cnt1, L ++ [(x1, x2)], _, HRG4, Lib.hid (fun kl h => HLD.out kl ?_), Lib.hid (fun x hx => ?_), Lib.hid (fun x hx h => ?_), Lib.hid (fun x hx => ?_), Lib.hid ?_, HLC1, Lib.hid (HT3.out.setCell (.inl (by simp)) _), Lib.hid (ho3.setc hUW _), ?_, ?_, ?_, ?_⟩
          · simp only [Bool.and_eq_true] at h
            exact h.1
          · rcases List.mem_append.1 hx with hx | hx
            · exact HL1.out x hx
            · rw [List.mem_singleton] at hx
              subst hx
              exact HXM.out
          · refine List.mem_append.2 ?_
            cases hl : left (klit x) with
            | false => exact .inl (HL2.out x hx hl)
            | true =>
              rw [hl] at h
              refine .inr (List.mem_singleton.2 (hks x hx ?_))
              simp at h
              first | exact .inr h | exact .inl h
          · rcases List.mem_append.1 hx with hx | hx
            · rw [HL3.out x hx]
              rfl
            · rw [List.mem_singleton] at hx
              subst hx
              rw [WideAt.sameKey_self HKL.out.1]
              simp
          · rw [List.nodup_append]
            refine ⟨HLN.out, by simp, fun a ha b hb e => ?_⟩
            rw [List.mem_singleton] at hb
            subst hb
            subst e
            exact HXN.out ha
          all_goals go_simp
        case measure =>
          rw [HRG4.out.left_eq, HRG.out.left_eq]
          exact HCN.out
end Go.Proofs.Ytdaobbffhfbceaa
