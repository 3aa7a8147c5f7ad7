/- The reference's lose, Forget, Between: what each call computes. -/
import Derived.Test.YtdaobbffhfbceaaRfA
import Derived.Test.YtdaobbffhfbceaaBgW
import Derived.Deep.CutRange
import Derived.Deep.Cut
namespace Go.Proofs.Ytdaobbffhfbceaa
open Go.RowKit Go.Shelf
set_option linter.unusedVariables false
set_option linter.unusedSimpArgs false
set_option maxRecDepth 100000
theorem own_fresh {w : World} {base : Nat} {e : TypeId} {k n : Nat} {v : Value} {xs : List Value} (h : w.ownsRow base e k v n xs) : ∀ b, v.ownBlock = some b → base ≤ b := by
  intro b hb
  rcases h.2 with ⟨rfl, _⟩ | ⟨g, cap, cur, rfl, hg, _, _⟩
  · simp [Value.ownBlock] at hb
  · obtain rfl : g = b := by simpa [Value.ownBlock] using hb
    exact hg
theorem RefAt.relist {w w1 : World} {g : Nat} {lv sv lv' : Value} {s : BS} {ls' : List Dg} {F : List Nat} (h : RefAt w g lv sv s) (t : Turn F w w1) (hg : g ∉ F) (hs : ∀ b, sv.ownBlock = some b → b ∉ F) (hrow : RowD w1 lv' ls') (hne : lv'.ownBlock ≠ some g) (hns : ∀ b, lv'.ownBlock = some b → sv.ownBlock ≠ some b) (hok : OkS ⟨s.nx, ls', s.sv⟩) :
    RefAt (w1.setCell ⟨g, 1, none⟩ lv') g lv' sv ⟨s.nx, ls', s.sv⟩ := by
  have hbb := t.block g (cell_lt h.c0) hg
  have e0 : w1.cell? ⟨g, 0, none⟩ = _ := (World.cell?_of_block (a := ⟨g, 0, none⟩) hbb).trans h.c0
  have e1 : w1.cell? ⟨g, 1, none⟩ = _ := (World.cell?_of_block (a := ⟨g, 1, none⟩) hbb).trans h.c1
  have e2 : w1.cell? ⟨g, 2, none⟩ = _ := (World.cell?_of_block (a := ⟨g, 2, none⟩) hbb).trans h.c2
  refine ⟨?_, World.cell?_setCell_same _ _ _ e1, ?_, ?_, ?_, ?_, row_same hrow (fun b hb => Below.heap_setCell _ _ _ _ (fun e => hne (by rw [hb, e]))), rowK_same (rowK_same h.rs (fun b hb => t.block b (rowK_lt h.rs hb) (hs b hb))) (fun b hb => Below.heap_setCell _ _ _ _ (fun e => h.n2 (by rw [hb, e]))), hne, h.n2, hns, hok⟩
  · rw [World.cell?_setCell_other _ _ _ _ (by simp)]; exact e0
  · rw [World.cell?_setCell_other _ _ _ _ (by simp)]; exact e2
  · rw [World.frozen?_setCell]; exact (frozen_of_block (p := ⟨g, 0, none⟩) hbb).trans h.f0
  · rw [World.frozen?_setCell]; exact (frozen_of_block (p := ⟨g, 1, none⟩) hbb).trans h.f1
  · rw [World.frozen?_setCell]; exact (frozen_of_block (p := ⟨g, 2, none⟩) hbb).trans h.f2
theorem RefAt.resev {w w1 : World} {g : Nat} {lv sv sv' : Value} {s : BS} {ls' : List LK} {F : List Nat} (h : RefAt w g lv sv s) (t : Turn F w w1) (hg : g ∉ F) (hs : ∀ b, lv.ownBlock = some b → b ∉ F) (hrow : RowK w1 sv' ls') (hne : sv'.ownBlock ≠ some g) (hns : ∀ b, lv.ownBlock = some b → sv'.ownBlock ≠ some b) (hok : OkS ⟨s.nx, s.ls, ls'⟩) :
    RefAt (w1.setCell ⟨g, 2, none⟩ sv') g lv sv' ⟨s.nx, s.ls, ls'⟩ := by
  have hbb := t.block g (cell_lt h.c0) hg
  have e0 : w1.cell? ⟨g, 0, none⟩ = _ := (World.cell?_of_block (a := ⟨g, 0, none⟩) hbb).trans h.c0
  have e1 : w1.cell? ⟨g, 1, none⟩ = _ := (World.cell?_of_block (a := ⟨g, 1, none⟩) hbb).trans h.c1
  have e2 : w1.cell? ⟨g, 2, none⟩ = _ := (World.cell?_of_block (a := ⟨g, 2, none⟩) hbb).trans h.c2
  refine ⟨?_, ?_, World.cell?_setCell_same _ _ _ e2, ?_, ?_, ?_, row_same (row_same h.rl (fun b hb => t.block b (row_obj h.rl hb).1 (hs b hb))) (fun b hb => Below.heap_setCell _ _ _ _ (fun e => h.n1 (by rw [hb, e]))), rowK_same hrow (fun b hb => Below.heap_setCell _ _ _ _ (fun e => hne (by rw [hb, e]))), h.n1, hne, hns, hok⟩
  · rw [World.cell?_setCell_other _ _ _ _ (by simp)]; exact e0
  · rw [World.cell?_setCell_other _ _ _ _ (by simp)]; exact e1
  · rw [World.frozen?_setCell]; exact (frozen_of_block (p := ⟨g, 0, none⟩) hbb).trans h.f0
  · rw [World.frozen?_setCell]; exact (frozen_of_block (p := ⟨g, 1, none⟩) hbb).trans h.f1
  · rw [World.frozen?_setCell]; exact (frozen_of_block (p := ⟨g, 2, none⟩) hbb).trans h.f2
theorem RefAt.renum {w : World} {g : Nat} {lv sv : Value} {s : BS} {nx' : Int} (h : RefAt w g lv sv s) (hok : OkS ⟨nx', s.ls, s.sv⟩) : RefAt (w.setCell ⟨g, 0, none⟩ (.int .i64 nx')) g lv sv ⟨nx', s.ls, s.sv⟩ := by
  refine ⟨World.cell?_setCell_same _ _ _ h.c0, ?_, ?_, ?_, ?_, ?_, row_same h.rl (fun b hb => Below.heap_setCell _ _ _ _ (fun e => h.n1 (by rw [hb, e]))), rowK_same h.rs (fun b hb => Below.heap_setCell _ _ _ _ (fun e => h.n2 (by rw [hb, e]))), h.n1, h.n2, h.n3, hok⟩
  · rw [World.cell?_setCell_other _ _ _ _ (by simp)]; exact h.c1
  · rw [World.cell?_setCell_other _ _ _ _ (by simp)]; exact h.c2
  · rw [World.frozen?_setCell]; exact h.f0
  · rw [World.frozen?_setCell]; exact h.f1
  · rw [World.frozen?_setCell]; exact h.f2
theorem okS_filt2 {s : BS} {p : Dg → Bool} (h : OkS s) : OkS ⟨s.nx, s.ls.filter p, s.sv⟩ :=
  ⟨h.nx0, h.nx1, Nat.le_trans (List.length_filter_le ..) h.len, h.sv, h.i64, fun d hd => h.nm d (List.mem_filter.1 hd).1⟩
theorem filt_snoc {P : Dg → Bool} {ls : List Dg} {j : Nat} {x : Dg} (h : ls[j]? = some x) : (ls.take (j + 1)).filter P = (ls.take j).filter P ++ (if P x then [x] else []) := by
  rw [List.take_add_one, h]
  simp [List.filter_append, List.filter_cons]
set_option maxHeartbeats 1000000 in
theorem lose_any (g : Nat) (lv sv : Value) (s : BS) (x0 y0 : Int) (w : World) (h : RefAt w g lv sv s) :
    Calls Try.prog 52 #[.pointer (some ⟨g, 0, none⟩), .int .i64 x0, .int .i64 y0, .bool true, .bool false] w fun e w' => e = .returned (.int .i64 ((s.ls.length : Int) - (s.ls.filter (fun d : Dg => !(d.dst == y0))).length)) ∧ ∃ lv', RefAt w' g lv' sv ⟨s.nx, s.ls.filter (fun d : Dg => !(d.dst == y0)), s.sv⟩ ∧ MovedR w lv sv lv' sv ∧ Turn (footR g lv sv) w w' := by
  obtain ⟨PP, hPP⟩ : ∃ PP : Dg → Bool, PP = (fun d : Dg => !(d.dst == y0)) := ⟨_, rfl⟩
  rw [← hPP]
  have HPP := Lib.hid hPP
  clear hPP
  have c1 := h.c1
  have f1 := h.f1
  have hg := cell_lt c1
  simp only [] at hg
  have HREF := Lib.hid h
  obtain ⟨A, c, rfl, hr⟩ := OwnE.at_ encD_len h.rl
  have hn := h.ok.len
  obtain ⟨ls, hls⟩ : ∃ ls, s.ls = ls := ⟨_, rfl⟩
  rw [hls] at c1 hr hn ⊢
  obtain ⟨n, hnn⟩ : ∃ n, ls.length = n := ⟨_, rfl⟩
  rw [hnn] at c1 hr hn
  have HR := Lib.hid hr
  have HNN := Lib.hid hnn
  have HLS := Lib.hid hls
  clear h hr hls hnn
  obtain ⟨i0, hi0, hj0, hj1, hj2⟩ := info_parts dg_inf
  go_enter Try.func52, Try.ntmps52
  go_wp2
  go_loopg [11, 12, 13] n (fun gk l cc i w' => ∃ (j m : Nat) (A2 : Option Addr) (c2 : Nat) (OL : List Dg), gk + j = n ∧ i = .int .i64 j ∧ l = .slice A2 OL.length c2 ∧ cc = .int .i64 m ∧ m ≤ j ∧ OL.length ≤ j ∧ Hid (m + OL.length = j) ∧ Hid (OL = (ls.take j).filter PP) ∧ Hid (OwnE encD 4 33 w' w.heap.size (.slice A2 OL.length c2) OL) ∧ KeptC w [(⟨g, 1, none⟩, .slice A n c)] [⟨g, 1, none⟩] w')
  case atStart => exact ⟨0, 0, none, 0, [], by omega, rfl, rfl, rfl, by omega, by simp, Lib.hid rfl, Lib.hid rfl, Lib.hid (OwnE.nil _ _ _), (by (repeat' (first | refine KeptC.cons ?_ ?_ | refine KeptC.consF ?_ ?_ ?_ | refine KeptC.mk0 ?_)); all_goals (first | with_reducible assumption | (go_simp; done) | (simp; omega) | exact (by repeat (first | with_reducible refine Below.setCell ?_ (by first | (simp; done) | (simp; omega) | omega) _ | with_reducible refine Below.alloc ?_ (by first | (simp; done) | (simp; omega) | omega) _ | with_reducible refine Below.drew ?_ | with_reducible refine below_drewN ?_ _ | with_reducible exact Below.refl _ _))))⟩
  case round =>
    obtain ⟨j, m, A2, c2, OL, hj, rfl, rfl, rfl, hmj, hoj, HM, HO, HV, hK⟩ := hrel
    simp only [KeptC, List.forall_mem_cons] at hK; obtain ⟨kb0, ⟨kc0_0, _⟩, ⟨kz0_0, kg0_0⟩, _⟩ := hK
    have hs0 := kb0.size
    by_cases hlt : j < n
    rotate_left
    · obtain rfl : j = n := by omega
      go_wp2
      go_ret
      have hfresh := own_fresh HV.out
      have hwz : g < w.heap.size := hg
      have htk : ls.take j = ls := List.take_of_length_le (by have := HNN.out; omega)
      have hol : OL = ls.filter PP := by rw [HO.out, htk]
      refine ⟨?_, .slice A2 OL.length c2, ?_, ?_, ?_⟩
      · rw [HNN.out, ← hol]
        have hmm : (m : Int) = (j : Int) - OL.length := by have := HM.out; omega
        rw [hmm]
        rfl
      · have hh := HREF.out
        rw [← hol]
        exact hh.relist (F := []) (Turn.below kb0 (Nat.le_refl _)) (by simp) (by simp) (HV.out.less (Nat.zero_le _)) (fun e => by have := hfresh _ e; omega) (fun b e e2 => by have h1 := hfresh _ e; have h2 := rowK_lt hh.rs e2; omega) (by rw [hol, ← HLS.out]; exact okS_filt2 (p := PP) hh.ok)
      · intro b hb
        rcases hb with hb | hb
        · exact .inr (hfresh b hb)
        · exact .inl (.inr hb)
      · exact (Turn.below kb0 (Nat.le_refl _)).setCell (.inl (by simp [footR])) _
    · obtain ⟨ad, x, rfl, hab, hx, h4⟩ := HR.out.get hlt
      obtain ⟨P, hP⟩ : ∃ P, ad.add (j * 4) = P := ⟨_, rfl⟩
      have hPb : P.block < w.heap.size := by rw [← hP, block_of_add]; exact hab
      rw [hP] at h4
      have e0 : wr.cell? P = some (.int .i64 x.num) := (kb0.cell (p := P) hPb).trans (by have := h4 0 _ rfl; rwa [add_z P] at this)
      have e1 : wr.cell? ⟨P.block, P.off + 1, none⟩ = some (.int .i64 x.frm) := (kb0.cell (p := ⟨P.block, P.off + 1, none⟩) hPb).trans (by have := h4 1 _ rfl; rwa [add_next P 0] at this)
      have e2 : wr.cell? ⟨P.block, P.off + 2, none⟩ = some (.int .i64 x.dst) := (kb0.cell (p := ⟨P.block, P.off + 2, none⟩) hPb).trans (by have := h4 2 _ rfl; rwa [add_next P 1] at this)
      have e3 : wr.cell? ⟨P.block, P.off + 3, none⟩ = some (.string x.body) := (kb0.cell (p := ⟨P.block, P.off + 3, none⟩) hPb).trans (by have := h4 3 _ rfl; rwa [add_next P 2] at this)
      obtain ⟨xn, xf, xt, xb⟩ := x
      simp only [] at e0 e1 e2 e3
      have HX := Lib.hid hx
      clear h4 hx
      obtain ⟨go, hgo⟩ : ∃ go, go = gk := ⟨_, rfl⟩
      subst hgo
      obtain ⟨wo, hwo⟩ : ∃ wo, wo = wr := ⟨_, rfl⟩
      subst hwo
      go_upto_region 7 with (fail)
      go_cut [60] from 33 to 60 (fun s60 w' => s60 = .bool (!(PP ⟨xn, xf, xt, xb⟩)) ∧ w' = wo.alloc (Obj.cells #[.int .i64 xn, .int .i64 xf, .int .i64 xt, .string xb] 33))
      case first =>
        cases h2 : (xt == y0)
        all_goals (go_wp2_with (fail); go_meet; exact ⟨by rw [HPP.out]; simp [h2], rfl⟩)
      case rest =>
        obtain ⟨rfl, rfl⟩ := hcut
        have hsn := filt_snoc (P := PP) HX.out
        cases hb : PP ⟨xn, xf, xt, xb⟩ with
        | false =>
          rw [hb, if_neg (by simp), List.append_nil] at hsn
          have HSN := Lib.hid hsn
          clear hb hsn
          simp only [Bool.not_false]
          go_wp2
          go_roundg (go - 1)
          case measure => omega
          case rel => exact ⟨j + 1, m + 1, A2, c2, OL, by omega, by simp, rfl, by simp, by omega, by omega, Lib.hid (by have := HM.out; omega), Lib.hid (by rw [HSN.out]; exact HO.out), Lib.hid (HV.out.below (by repeat (first | with_reducible refine Below.setCell ?_ (by first | (simp; done) | (simp; omega) | omega) _ | with_reducible refine Below.alloc ?_ (by first | (simp; done) | (simp; omega) | omega) _ | with_reducible refine Below.drew ?_ | with_reducible refine below_drewN ?_ _ | with_reducible exact Below.refl _ _))), (by (repeat' (first | refine KeptC.cons ?_ ?_ | refine KeptC.consF ?_ ?_ ?_ | refine KeptC.mk0 ?_)); all_goals (first | with_reducible assumption | (go_simp; done) | (simp; omega) | exact (by repeat (first | with_reducible refine Below.setCell ?_ (by first | (simp; done) | (simp; omega) | omega) _ | with_reducible refine Below.alloc ?_ (by first | (simp; done) | (simp; omega) | omega) _ | with_reducible refine Below.drew ?_ | with_reducible refine below_drewN ?_ _ | with_reducible exact Below.refl _ _ | with_reducible refine Below.trans ?_ (Below.mono kb0 (by first | (simp; done) | (simp; omega) | omega))))))⟩
        | true =>
          rw [hb, if_pos rfl, ← HO.out] at hsn
          have HSN := Lib.hid hsn
          clear hb hsn
          simp only [Bool.not_true]
          have hold : w.heap.size ≤ wo.heap.size := hs0
          have q0 : Below wo.heap.size wo (wo.alloc (Obj.cells #[.int .i64 xn, .int .i64 xf, .int .i64 xt, .string xb] 33)) := (by repeat (first | with_reducible refine Below.setCell ?_ (by first | (simp; done) | (simp; omega) | omega) _ | with_reducible refine Below.alloc ?_ (by first | (simp; done) | (simp; omega) | omega) _ | with_reducible refine Below.drew ?_ | with_reducible refine below_drewN ?_ _ | with_reducible exact Below.refl _ _))
          have d0 : (wo.alloc (Obj.cells #[.int .i64 xn, .int .i64 xf, .int .i64 xt, .string xb] 33)).cell? ⟨wo.heap.size, 0, none⟩ = some (.int .i64 xn) := by go_simp
          have d1 : (wo.alloc (Obj.cells #[.int .i64 xn, .int .i64 xf, .int .i64 xt, .string xb] 33)).cell? ⟨wo.heap.size, 1, none⟩ = some (.int .i64 xf) := by go_simp
          have d2 : (wo.alloc (Obj.cells #[.int .i64 xn, .int .i64 xf, .int .i64 xt, .string xb] 33)).cell? ⟨wo.heap.size, 2, none⟩ = some (.int .i64 xt) := by go_simp
          have d3 : (wo.alloc (Obj.cells #[.int .i64 xn, .int .i64 xf, .int .i64 xt, .string xb] 33)).cell? ⟨wo.heap.size, 3, none⟩ = some (.string xb) := by go_simp
          obtain ⟨W1, hW1⟩ : ∃ W, wo.alloc (Obj.cells #[.int .i64 xn, .int .i64 xf, .int .i64 xt, .string xb] 33) = W := ⟨_, rfl⟩
          rw [hW1] at q0 d0 d1 d2 d3
          have hs1 : wo.heap.size < W1.heap.size := cell_lt d0
          rw [hW1]
          have kb1 : Below w.heap.size w W1 := (by repeat (first | with_reducible refine Below.setCell ?_ (by first | (simp; done) | (simp; omega) | omega) _ | with_reducible refine Below.alloc ?_ (by first | (simp; done) | (simp; omega) | omega) _ | with_reducible refine Below.drew ?_ | with_reducible refine below_drewN ?_ _ | with_reducible exact Below.refl _ _ | with_reducible refine Below.trans ?_ (Below.mono q0 (by first | (simp; done) | (simp; omega) | omega)) | with_reducible refine Below.trans ?_ (Below.mono kb0 (by first | (simp; done) | (simp; omega) | omega))))
          have HV1 := Lib.hid (HV.out.below q0)
          have kc1 : W1.cell? ⟨g, 1, none⟩ = some (.slice (some ad) n c) := (q0.cell (p := ⟨g, 1, none⟩) (by show g < _; omega)).trans kc0_0
          have kg1 : W1.frozen? ⟨g, 1, none⟩ = false := (q0.frozen (p := ⟨g, 1, none⟩) (by show g < _; omega)).trans kg0_0
          clear hW1 kc0_0 kg0_0 kz0_0 HV q0 e0 e1 e2 e3
          have HRD : Hid (Reads (W1.alloc (Obj.cells #[.int .i64 xn, .int .i64 xf, .int .i64 xt, .string xb] 33)) (W1.heap.size + 1) 4 (some ⟨W1.heap.size, 0, none⟩) 1 (encD ⟨xn, xf, xt, xb⟩)) := Lib.hid ⟨rfl, fun _ => ⟨_, rfl, Nat.lt_succ_self _, dcells_new W1 ⟨xn, xf, xt, xb⟩⟩⟩
          have HV2 : Hid (OwnE encD 4 33 (W1.alloc (Obj.cells #[.int .i64 xn, .int .i64 xf, .int .i64 xt, .string xb] 33)) w.heap.size (.slice A2 OL.length c2) OL) := Lib.hid (HV1.out.below (by repeat (first | with_reducible refine Below.setCell ?_ (by first | (simp; done) | (simp; omega) | omega) _ | with_reducible refine Below.alloc ?_ (by first | (simp; done) | (simp; omega) | omega) _ | with_reducible refine Below.drew ?_ | with_reducible refine below_drewN ?_ _ | with_reducible exact Below.refl _ _)))
          have hsw : w.heap.size ≤ W1.heap.size := by omega
          have hgW : g < W1.heap.size := by omega
          go_wp2_with (at_builtin; refine wpList_append_any _ rfl (.tmp 63) (.tmp 65) _ rfl w.heap.size 33 i0 _ 4 40 Try.underlying43 hi0 hj0 hj1 hj2 rfl (by omega) (.slice A2 OL.length c2) OL.length (flatE encD OL) rfl (by exact HV2.out) (W1.heap.size + 1) (some ⟨W1.heap.size, 0, none⟩) 1 1 (encD ⟨xn, xf, xt, xb⟩) rfl (by exact HRD.out) (encD_one _) (by simp only [maxLen]; omega) (by omega) (by simp; omega) ?_; intro v6 w6 hown6 hg6 hat6; obtain ⟨A6, c6, hv6⟩ := row_slice' hown6; subst hv6; have HG6 := Lib.hid hg6; have HO6 := Lib.hid hown6; clear hown6 hg6 hat6)
          have hb6 : Below w.heap.size (W1.alloc (Obj.cells #[.int .i64 xn, .int .i64 xf, .int .i64 xt, .string xb] 33)) w6 := row_grown HV2.out HG6.out (by simp; omega)
          have kb6 : Below w.heap.size w w6 := kb1.trans (((by repeat (first | with_reducible refine Below.setCell ?_ (by first | (simp; done) | (simp; omega) | omega) _ | with_reducible refine Below.alloc ?_ (by first | (simp; done) | (simp; omega) | omega) _ | with_reducible refine Below.drew ?_ | with_reducible refine below_drewN ?_ _ | with_reducible exact Below.refl _ _)) : Below w.heap.size W1 (W1.alloc (Obj.cells #[.int .i64 xn, .int .i64 xf, .int .i64 xt, .string xb] 33))).trans hb6)
          have kc6 : w6.cell? ⟨g, 1, none⟩ = some (.slice (some ad) n c) := (hb6.cell (p := ⟨g, 1, none⟩) hg).trans (by go_simp)
          have kg6 : w6.frozen? ⟨g, 1, none⟩ = false := (hb6.frozen (p := ⟨g, 1, none⟩) hg).trans (by go_simp)
          have HOW : Hid (OwnE encD 4 33 w6 w.heap.size (.slice A6 (OL ++ [(⟨xn, xf, xt, xb⟩ : Dg)]).length c6) (OL ++ [⟨xn, xf, xt, xb⟩])) := Lib.hid (by unfold OwnE; rw [flatE_snoc, List.length_append]; exact HO6.out)
          have hgw6 : g < w6.heap.size := cell_lt kc6
          clear HG6 HO6 hb6
          go_wp2
          go_roundg (go - 1)
          case measure => omega
          case rel => exact ⟨j + 1, m, A6, c6, OL ++ [⟨xn, xf, xt, xb⟩], by omega, by simp, by simp, rfl, by omega, by simp; omega, Lib.hid (by have := HM.out; simp; omega), Lib.hid HSN.out.symm, HOW, (by (repeat' (first | refine KeptC.cons ?_ ?_ | refine KeptC.consF ?_ ?_ ?_ | refine KeptC.mk0 ?_)); all_goals (first | with_reducible assumption | (go_simp; done) | (simp; omega) | exact (by repeat (first | with_reducible refine Below.setCell ?_ (by first | (simp; done) | (simp; omega) | omega) _ | with_reducible refine Below.alloc ?_ (by first | (simp; done) | (simp; omega) | omega) _ | with_reducible refine Below.drew ?_ | with_reducible refine below_drewN ?_ _ | with_reducible exact Below.refl _ _ | with_reducible refine Below.trans ?_ (Below.mono kb6 (by first | (simp; done) | (simp; omega) | omega))))))⟩
set_option maxHeartbeats 1000000 in
theorem lose_both (g : Nat) (lv sv : Value) (s : BS) (x0 y0 : Int) (w : World) (h : RefAt w g lv sv s) :
    Calls Try.prog 52 #[.pointer (some ⟨g, 0, none⟩), .int .i64 x0, .int .i64 y0, .bool false, .bool true] w fun e w' => e = .returned (.int .i64 ((s.ls.length : Int) - (s.ls.filter (fun d : Dg => !cutB x0 y0 d)).length)) ∧ ∃ lv', RefAt w' g lv' sv ⟨s.nx, s.ls.filter (fun d : Dg => !cutB x0 y0 d), s.sv⟩ ∧ MovedR w lv sv lv' sv ∧ Turn (footR g lv sv) w w' := by
  obtain ⟨PP, hPP⟩ : ∃ PP : Dg → Bool, PP = (fun d : Dg => !cutB x0 y0 d) := ⟨_, rfl⟩
  rw [← hPP]
  have HPP := Lib.hid hPP
  clear hPP
  have c1 := h.c1
  have f1 := h.f1
  have hg := cell_lt c1
  simp only [] at hg
  have HREF := Lib.hid h
  obtain ⟨A, c, rfl, hr⟩ := OwnE.at_ encD_len h.rl
  have hn := h.ok.len
  obtain ⟨ls, hls⟩ : ∃ ls, s.ls = ls := ⟨_, rfl⟩
  rw [hls] at c1 hr hn ⊢
  obtain ⟨n, hnn⟩ : ∃ n, ls.length = n := ⟨_, rfl⟩
  rw [hnn] at c1 hr hn
  have HR := Lib.hid hr
  have HNN := Lib.hid hnn
  have HLS := Lib.hid hls
  clear h hr hls hnn
  obtain ⟨i0, hi0, hj0, hj1, hj2⟩ := info_parts dg_inf
  go_enter Try.func52, Try.ntmps52
  go_wp2
  go_loopg [11, 12, 13] n (fun gk l cc i w' => ∃ (j m : Nat) (A2 : Option Addr) (c2 : Nat) (OL : List Dg), gk + j = n ∧ i = .int .i64 j ∧ l = .slice A2 OL.length c2 ∧ cc = .int .i64 m ∧ m ≤ j ∧ OL.length ≤ j ∧ Hid (m + OL.length = j) ∧ Hid (OL = (ls.take j).filter PP) ∧ Hid (OwnE encD 4 33 w' w.heap.size (.slice A2 OL.length c2) OL) ∧ KeptC w [(⟨g, 1, none⟩, .slice A n c)] [⟨g, 1, none⟩] w')
  case atStart => exact ⟨0, 0, none, 0, [], by omega, rfl, rfl, rfl, by omega, by simp, Lib.hid rfl, Lib.hid rfl, Lib.hid (OwnE.nil _ _ _), (by (repeat' (first | refine KeptC.cons ?_ ?_ | refine KeptC.consF ?_ ?_ ?_ | refine KeptC.mk0 ?_)); all_goals (first | with_reducible assumption | (go_simp; done) | (simp; omega) | exact (by repeat (first | with_reducible refine Below.setCell ?_ (by first | (simp; done) | (simp; omega) | omega) _ | with_reducible refine Below.alloc ?_ (by first | (simp; done) | (simp; omega) | omega) _ | with_reducible refine Below.drew ?_ | with_reducible refine below_drewN ?_ _ | with_reducible exact Below.refl _ _))))⟩
  case round =>
    obtain ⟨j, m, A2, c2, OL, hj, rfl, rfl, rfl, hmj, hoj, HM, HO, HV, hK⟩ := hrel
    simp only [KeptC, List.forall_mem_cons] at hK; obtain ⟨kb0, ⟨kc0_0, _⟩, ⟨kz0_0, kg0_0⟩, _⟩ := hK
    have hs0 := kb0.size
    by_cases hlt : j < n
    rotate_left
    · obtain rfl : j = n := by omega
      go_wp2
      go_ret
      have hfresh := own_fresh HV.out
      have hwz : g < w.heap.size := hg
      have htk : ls.take j = ls := List.take_of_length_le (by have := HNN.out; omega)
      have hol : OL = ls.filter PP := by rw [HO.out, htk]
      refine ⟨?_, .slice A2 OL.length c2, ?_, ?_, ?_⟩
      · rw [HNN.out, ← hol]
        have hmm : (m : Int) = (j : Int) - OL.length := by have := HM.out; omega
        rw [hmm]
        rfl
      · have hh := HREF.out
        rw [← hol]
        exact hh.relist (F := []) (Turn.below kb0 (Nat.le_refl _)) (by simp) (by simp) (HV.out.less (Nat.zero_le _)) (fun e => by have := hfresh _ e; omega) (fun b e e2 => by have h1 := hfresh _ e; have h2 := rowK_lt hh.rs e2; omega) (by rw [hol, ← HLS.out]; exact okS_filt2 (p := PP) hh.ok)
      · intro b hb
        rcases hb with hb | hb
        · exact .inr (hfresh b hb)
        · exact .inl (.inr hb)
      · exact (Turn.below kb0 (Nat.le_refl _)).setCell (.inl (by simp [footR])) _
    · obtain ⟨ad, x, rfl, hab, hx, h4⟩ := HR.out.get hlt
      obtain ⟨P, hP⟩ : ∃ P, ad.add (j * 4) = P := ⟨_, rfl⟩
      have hPb : P.block < w.heap.size := by rw [← hP, block_of_add]; exact hab
      rw [hP] at h4
      have e0 : wr.cell? P = some (.int .i64 x.num) := (kb0.cell (p := P) hPb).trans (by have := h4 0 _ rfl; rwa [add_z P] at this)
      have e1 : wr.cell? ⟨P.block, P.off + 1, none⟩ = some (.int .i64 x.frm) := (kb0.cell (p := ⟨P.block, P.off + 1, none⟩) hPb).trans (by have := h4 1 _ rfl; rwa [add_next P 0] at this)
      have e2 : wr.cell? ⟨P.block, P.off + 2, none⟩ = some (.int .i64 x.dst) := (kb0.cell (p := ⟨P.block, P.off + 2, none⟩) hPb).trans (by have := h4 2 _ rfl; rwa [add_next P 1] at this)
      have e3 : wr.cell? ⟨P.block, P.off + 3, none⟩ = some (.string x.body) := (kb0.cell (p := ⟨P.block, P.off + 3, none⟩) hPb).trans (by have := h4 3 _ rfl; rwa [add_next P 2] at this)
      obtain ⟨xn, xf, xt, xb⟩ := x
      simp only [] at e0 e1 e2 e3
      have HX := Lib.hid hx
      clear h4 hx
      obtain ⟨go, hgo⟩ : ∃ go, go = gk := ⟨_, rfl⟩
      subst hgo
      obtain ⟨wo, hwo⟩ : ∃ wo, wo = wr := ⟨_, rfl⟩
      subst hwo
      go_upto_region 7 with (fail)
      go_cut [60] from 33 to 60 (fun s60 w' => s60 = .bool (!(PP ⟨xn, xf, xt, xb⟩)) ∧ w' = wo.alloc (Obj.cells #[.int .i64 xn, .int .i64 xf, .int .i64 xt, .string xb] 33))
      case first =>
        cases h1 : (xf == x0) <;> cases h2 : (xt == y0) <;> cases h3 : (xf == y0) <;> cases h4 : (xt == x0)
        all_goals (go_wp2_with (fail); go_meet; exact ⟨by rw [HPP.out]; simp [cutB, h1, h2, h3, h4], rfl⟩)
      case rest =>
        obtain ⟨rfl, rfl⟩ := hcut
        have hsn := filt_snoc (P := PP) HX.out
        cases hb : PP ⟨xn, xf, xt, xb⟩ with
        | false =>
          rw [hb, if_neg (by simp), List.append_nil] at hsn
          have HSN := Lib.hid hsn
          clear hb hsn
          simp only [Bool.not_false]
          go_wp2
          go_roundg (go - 1)
          case measure => omega
          case rel => exact ⟨j + 1, m + 1, A2, c2, OL, by omega, by simp, rfl, by simp, by omega, by omega, Lib.hid (by have := HM.out; omega), Lib.hid (by rw [HSN.out]; exact HO.out), Lib.hid (HV.out.below (by repeat (first | with_reducible refine Below.setCell ?_ (by first | (simp; done) | (simp; omega) | omega) _ | with_reducible refine Below.alloc ?_ (by first | (simp; done) | (simp; omega) | omega) _ | with_reducible refine Below.drew ?_ | with_reducible refine below_drewN ?_ _ | with_reducible exact Below.refl _ _))), (by (repeat' (first | refine KeptC.cons ?_ ?_ | refine KeptC.consF ?_ ?_ ?_ | refine KeptC.mk0 ?_)); all_goals (first | with_reducible assumption | (go_simp; done) | (simp; omega) | exact (by repeat (first | with_reducible refine Below.setCell ?_ (by first | (simp; done) | (simp; omega) | omega) _ | with_reducible refine Below.alloc ?_ (by first | (simp; done) | (simp; omega) | omega) _ | with_reducible refine Below.drew ?_ | with_reducible refine below_drewN ?_ _ | with_reducible exact Below.refl _ _ | with_reducible refine Below.trans ?_ (Below.mono kb0 (by first | (simp; done) | (simp; omega) | omega))))))⟩
        | true =>
          rw [hb, if_pos rfl, ← HO.out] at hsn
          have HSN := Lib.hid hsn
          clear hb hsn
          simp only [Bool.not_true]
          have hold : w.heap.size ≤ wo.heap.size := hs0
          have q0 : Below wo.heap.size wo (wo.alloc (Obj.cells #[.int .i64 xn, .int .i64 xf, .int .i64 xt, .string xb] 33)) := (by repeat (first | with_reducible refine Below.setCell ?_ (by first | (simp; done) | (simp; omega) | omega) _ | with_reducible refine Below.alloc ?_ (by first | (simp; done) | (simp; omega) | omega) _ | with_reducible refine Below.drew ?_ | with_reducible refine below_drewN ?_ _ | with_reducible exact Below.refl _ _))
          have d0 : (wo.alloc (Obj.cells #[.int .i64 xn, .int .i64 xf, .int .i64 xt, .string xb] 33)).cell? ⟨wo.heap.size, 0, none⟩ = some (.int .i64 xn) := by go_simp
          have d1 : (wo.alloc (Obj.cells #[.int .i64 xn, .int .i64 xf, .int .i64 xt, .string xb] 33)).cell? ⟨wo.heap.size, 1, none⟩ = some (.int .i64 xf) := by go_simp
          have d2 : (wo.alloc (Obj.cells #[.int .i64 xn, .int .i64 xf, .int .i64 xt, .string xb] 33)).cell? ⟨wo.heap.size, 2, none⟩ = some (.int .i64 xt) := by go_simp
          have d3 : (wo.alloc (Obj.cells #[.int .i64 xn, .int .i64 xf, .int .i64 xt, .string xb] 33)).cell? ⟨wo.heap.size, 3, none⟩ = some (.string xb) := by go_simp
          obtain ⟨W1, hW1⟩ : ∃ W, wo.alloc (Obj.cells #[.int .i64 xn, .int .i64 xf, .int .i64 xt, .string xb] 33) = W := ⟨_, rfl⟩
          rw [hW1] at q0 d0 d1 d2 d3
          have hs1 : wo.heap.size < W1.heap.size := cell_lt d0
          rw [hW1]
          have kb1 : Below w.heap.size w W1 := (by repeat (first | with_reducible refine Below.setCell ?_ (by first | (simp; done) | (simp; omega) | omega) _ | with_reducible refine Below.alloc ?_ (by first | (simp; done) | (simp; omega) | omega) _ | with_reducible refine Below.drew ?_ | with_reducible refine below_drewN ?_ _ | with_reducible exact Below.refl _ _ | with_reducible refine Below.trans ?_ (Below.mono q0 (by first | (simp; done) | (simp; omega) | omega)) | with_reducible refine Below.trans ?_ (Below.mono kb0 (by first | (simp; done) | (simp; omega) | omega))))
          have HV1 := Lib.hid (HV.out.below q0)
          have kc1 : W1.cell? ⟨g, 1, none⟩ = some (.slice (some ad) n c) := (q0.cell (p := ⟨g, 1, none⟩) (by show g < _; omega)).trans kc0_0
          have kg1 : W1.frozen? ⟨g, 1, none⟩ = false := (q0.frozen (p := ⟨g, 1, none⟩) (by show g < _; omega)).trans kg0_0
          clear hW1 kc0_0 kg0_0 kz0_0 HV q0 e0 e1 e2 e3
          have HRD : Hid (Reads (W1.alloc (Obj.cells #[.int .i64 xn, .int .i64 xf, .int .i64 xt, .string xb] 33)) (W1.heap.size + 1) 4 (some ⟨W1.heap.size, 0, none⟩) 1 (encD ⟨xn, xf, xt, xb⟩)) := Lib.hid ⟨rfl, fun _ => ⟨_, rfl, Nat.lt_succ_self _, dcells_new W1 ⟨xn, xf, xt, xb⟩⟩⟩
          have HV2 : Hid (OwnE encD 4 33 (W1.alloc (Obj.cells #[.int .i64 xn, .int .i64 xf, .int .i64 xt, .string xb] 33)) w.heap.size (.slice A2 OL.length c2) OL) := Lib.hid (HV1.out.below (by repeat (first | with_reducible refine Below.setCell ?_ (by first | (simp; done) | (simp; omega) | omega) _ | with_reducible refine Below.alloc ?_ (by first | (simp; done) | (simp; omega) | omega) _ | with_reducible refine Below.drew ?_ | with_reducible refine below_drewN ?_ _ | with_reducible exact Below.refl _ _)))
          have hsw : w.heap.size ≤ W1.heap.size := by omega
          have hgW : g < W1.heap.size := by omega
          go_wp2_with (at_builtin; refine wpList_append_any _ rfl (.tmp 63) (.tmp 65) _ rfl w.heap.size 33 i0 _ 4 40 Try.underlying43 hi0 hj0 hj1 hj2 rfl (by omega) (.slice A2 OL.length c2) OL.length (flatE encD OL) rfl (by exact HV2.out) (W1.heap.size + 1) (some ⟨W1.heap.size, 0, none⟩) 1 1 (encD ⟨xn, xf, xt, xb⟩) rfl (by exact HRD.out) (encD_one _) (by simp only [maxLen]; omega) (by omega) (by simp; omega) ?_; intro v6 w6 hown6 hg6 hat6; obtain ⟨A6, c6, hv6⟩ := row_slice' hown6; subst hv6; have HG6 := Lib.hid hg6; have HO6 := Lib.hid hown6; clear hown6 hg6 hat6)
          have hb6 : Below w.heap.size (W1.alloc (Obj.cells #[.int .i64 xn, .int .i64 xf, .int .i64 xt, .string xb] 33)) w6 := row_grown HV2.out HG6.out (by simp; omega)
          have kb6 : Below w.heap.size w w6 := kb1.trans (((by repeat (first | with_reducible refine Below.setCell ?_ (by first | (simp; done) | (simp; omega) | omega) _ | with_reducible refine Below.alloc ?_ (by first | (simp; done) | (simp; omega) | omega) _ | with_reducible refine Below.drew ?_ | with_reducible refine below_drewN ?_ _ | with_reducible exact Below.refl _ _)) : Below w.heap.size W1 (W1.alloc (Obj.cells #[.int .i64 xn, .int .i64 xf, .int .i64 xt, .string xb] 33))).trans hb6)
          have kc6 : w6.cell? ⟨g, 1, none⟩ = some (.slice (some ad) n c) := (hb6.cell (p := ⟨g, 1, none⟩) hg).trans (by go_simp)
          have kg6 : w6.frozen? ⟨g, 1, none⟩ = false := (hb6.frozen (p := ⟨g, 1, none⟩) hg).trans (by go_simp)
          have HOW : Hid (OwnE encD 4 33 w6 w.heap.size (.slice A6 (OL ++ [(⟨xn, xf, xt, xb⟩ : Dg)]).length c6) (OL ++ [⟨xn, xf, xt, xb⟩])) := Lib.hid (by unfold OwnE; rw [flatE_snoc, List.length_append]; exact HO6.out)
          have hgw6 : g < w6.heap.size := cell_lt kc6
          clear HG6 HO6 hb6
          go_wp2
          go_roundg (go - 1)
          case measure => omega
          case rel => exact ⟨j + 1, m, A6, c6, OL ++ [⟨xn, xf, xt, xb⟩], by omega, by simp, by simp, rfl, by omega, by simp; omega, Lib.hid (by have := HM.out; simp; omega), Lib.hid HSN.out.symm, HOW, (by (repeat' (first | refine KeptC.cons ?_ ?_ | refine KeptC.consF ?_ ?_ ?_ | refine KeptC.mk0 ?_)); all_goals (first | with_reducible assumption | (go_simp; done) | (simp; omega) | exact (by repeat (first | with_reducible refine Below.setCell ?_ (by first | (simp; done) | (simp; omega) | omega) _ | with_reducible refine Below.alloc ?_ (by first | (simp; done) | (simp; omega) | omega) _ | with_reducible refine Below.drew ?_ | with_reducible refine below_drewN ?_ _ | with_reducible exact Below.refl _ _ | with_reducible refine Below.trans ?_ (Below.mono kb6 (by first | (simp; done) | (simp; omega) | omega))))))⟩
theorem rforget_any (g : Nat) (lv sv : Value) (s : BS) (b : Int) (w : World) (h : RefAt w g lv sv s) :
    Calls Try.prog 42 #[.pointer (some ⟨g, 0, none⟩), .int .i64 b] w fun e w' => e = .returned (.int .i64 (forS s b).2) ∧ ∃ lv' sv', RefAt w' g lv' sv' (forS s b).1 ∧ MovedR w lv sv lv' sv' ∧ Turn (footR g lv sv) w w' := by
  have hc := lose_any g lv sv s 0 b w h
  have HC := Lib.hid hc
  clear hc h
  go_enter Try.func42, Try.ntmps42
  go_wp2_with (fail)
  refine HC.out.mono ?_; rintro e w1 ⟨rfl, lv1, h1, h2, h3⟩
  have H1 := Lib.hid h1
  clear h1
  go_wp2
  go_ret
  exact ⟨rfl, lv1, sv, H1.out, h2, h3⟩
theorem cell_one (W : World) (x : Int) : Reads (W.alloc (Obj.cells #[.int .i64 x] 2)) (W.heap.size + 1) 1 (some ⟨W.heap.size, 0, none⟩) 1 [.int .i64 x] := by
  refine ⟨rfl, fun _ => ⟨_, rfl, Nat.lt_succ_self _, fun j u hu => ?_⟩⟩
  have hj : j < 1 := by have := (List.getElem?_eq_some_iff.1 hu).1; simpa using this
  obtain rfl : j = 0 := by omega
  simp at hu
  subst hu
  rw [Addr.add_lit]
  go_simp
set_option maxHeartbeats 1000000 in
theorem rbetween_any (g : Nat) (lv sv : Value) (s : BS) (x0 y0 : Int) (w : World) (h : RefAt w g lv sv s) :
    Calls Try.prog 39 #[.pointer (some ⟨g, 0, none⟩), .int .i64 x0, .int .i64 y0] w fun e w' => ∃ v, e = .returned v ∧ RowI w' w.heap.size v (btwS s x0 y0) ∧ Below w.heap.size w w' := by
  unfold btwS
  obtain ⟨PP, hPP⟩ : ∃ PP : Dg → Bool, PP = btwB x0 y0 := ⟨_, rfl⟩
  rw [← hPP]
  have HPP := Lib.hid hPP
  clear hPP
  have c1 := h.c1
  have f1 := h.f1
  have hg := cell_lt c1
  simp only [] at hg
  have HREF := Lib.hid h
  obtain ⟨A, c, rfl, hr⟩ := OwnE.at_ encD_len h.rl
  have hn := h.ok.len
  obtain ⟨ls, hls⟩ : ∃ ls, s.ls = ls := ⟨_, rfl⟩
  rw [hls] at c1 hr hn ⊢
  obtain ⟨n, hnn⟩ : ∃ n, ls.length = n := ⟨_, rfl⟩
  rw [hnn] at c1 hr hn
  have HR := Lib.hid hr
  have HNN := Lib.hid hnn
  have HLS := Lib.hid hls
  clear h hr hls hnn
  obtain ⟨i0, hi0, hj0, hj1, hj2⟩ := info_parts (P := Try.prog) (e := 2) (z := .int .i64 0) (size := 1) (bytes := 8) (by kernel_rfl)
  go_enter Try.func39, Try.ntmps39
  go_wp2
  go_loopg [7, 8] n (fun gk l i w' => ∃ (j : Nat) (A2 : Option Addr) (c2 : Nat) (OL : List Int), gk + j = n ∧ i = .int .i64 j ∧ l = .slice A2 OL.length c2 ∧ OL.length ≤ j ∧ Hid (OL = ((ls.take j).filter PP).map Dg.num) ∧ Hid (RowI w' w.heap.size (.slice A2 OL.length c2) OL) ∧ KeptC w [(⟨g, 1, none⟩, .slice A n c)] [⟨g, 1, none⟩] w')
  case atStart => exact ⟨0, none, 0, [], by omega, rfl, rfl, by simp, Lib.hid rfl, Lib.hid ⟨rfl, .inl ⟨rfl, rfl⟩⟩, (by (repeat' (first | refine KeptC.cons ?_ ?_ | refine KeptC.consF ?_ ?_ ?_ | refine KeptC.mk0 ?_)); all_goals (first | with_reducible assumption | (go_simp; done) | (simp; omega) | exact (by repeat (first | with_reducible refine Below.setCell ?_ (by first | (simp; done) | (simp; omega) | omega) _ | with_reducible refine Below.alloc ?_ (by first | (simp; done) | (simp; omega) | omega) _ | with_reducible refine Below.drew ?_ | with_reducible refine below_drewN ?_ _ | with_reducible exact Below.refl _ _))))⟩
  case round =>
    obtain ⟨j, A2, c2, OL, hj, rfl, rfl, hoj, HO, HV, hK⟩ := hrel
    simp only [KeptC, List.forall_mem_cons] at hK; obtain ⟨kb0, ⟨kc0_0, _⟩, ⟨kz0_0, kg0_0⟩, _⟩ := hK
    have hs0 := kb0.size
    by_cases hlt : j < n
    rotate_left
    · obtain rfl : j = n := by omega
      go_wp2
      go_ret
      have htk : ls.take j = ls := List.take_of_length_le (by have := HNN.out; omega)
      have hol : OL = (ls.filter PP).map Dg.num := by rw [HO.out, htk]
      exact ⟨_, rfl, by rw [← hol]; exact HV.out, kb0⟩
    · obtain ⟨ad, x, rfl, hab, hx, h4⟩ := HR.out.get hlt
      obtain ⟨P, hP⟩ : ∃ P, ad.add (j * 4) = P := ⟨_, rfl⟩
      have hPb : P.block < w.heap.size := by rw [← hP, block_of_add]; exact hab
      rw [hP] at h4
      have e0 : wr.cell? P = some (.int .i64 x.num) := (kb0.cell (p := P) hPb).trans (by have := h4 0 _ rfl; rwa [add_z P] at this)
      have e1 : wr.cell? ⟨P.block, P.off + 1, none⟩ = some (.int .i64 x.frm) := (kb0.cell (p := ⟨P.block, P.off + 1, none⟩) hPb).trans (by have := h4 1 _ rfl; rwa [add_next P 0] at this)
      have e2 : wr.cell? ⟨P.block, P.off + 2, none⟩ = some (.int .i64 x.dst) := (kb0.cell (p := ⟨P.block, P.off + 2, none⟩) hPb).trans (by have := h4 2 _ rfl; rwa [add_next P 1] at this)
      have e3 : wr.cell? ⟨P.block, P.off + 3, none⟩ = some (.string x.body) := (kb0.cell (p := ⟨P.block, P.off + 3, none⟩) hPb).trans (by have := h4 3 _ rfl; rwa [add_next P 2] at this)
      obtain ⟨xn, xf, xt, xb⟩ := x
      simp only [] at e0 e1 e2 e3
      have HX := Lib.hid hx
      clear h4 hx
      obtain ⟨go, hgo⟩ : ∃ go, go = gk := ⟨_, rfl⟩
      subst hgo
      obtain ⟨wo, hwo⟩ : ∃ wo, wo = wr := ⟨_, rfl⟩
      subst hwo
      go_upto_region 6 with (fail)
      go_cut [45] from 28 to 45 (fun s45 w' => s45 = .bool (PP ⟨xn, xf, xt, xb⟩) ∧ w' = wo.alloc (Obj.cells #[.int .i64 xn, .int .i64 xf, .int .i64 xt, .string xb] 33))
      case first =>
        cases h1 : (x0 == -1) <;> cases h2 : (xf == x0) <;> cases h3 : (y0 == -1) <;> cases h4 : (xt == y0)
        all_goals (go_wp2_with (fail); go_meet; exact ⟨by rw [HPP.out]; simp [btwB, h1, h2, h3, h4], rfl⟩)
      case rest =>
        obtain ⟨rfl, rfl⟩ := hcut
        have hsn : ((ls.take (j + 1)).filter PP).map Dg.num = OL ++ (if PP ⟨xn, xf, xt, xb⟩ then [xn] else []) := by
          rw [filt_snoc (P := PP) HX.out, HO.out, List.map_append]
          congr 1
          split <;> rfl
        cases hb : PP ⟨xn, xf, xt, xb⟩ with
        | false =>
          rw [hb, if_neg (by simp), List.append_nil] at hsn
          have HSN := Lib.hid hsn
          clear hb hsn
          go_wp2
          go_roundg (go - 1)
          case measure => omega
          case rel => exact ⟨j + 1, A2, c2, OL, by omega, by simp, rfl, by omega, Lib.hid HSN.out.symm, Lib.hid (rowI_below HV.out (by repeat (first | with_reducible refine Below.setCell ?_ (by first | (simp; done) | (simp; omega) | omega) _ | with_reducible refine Below.alloc ?_ (by first | (simp; done) | (simp; omega) | omega) _ | with_reducible refine Below.drew ?_ | with_reducible refine below_drewN ?_ _ | with_reducible exact Below.refl _ _))), (by (repeat' (first | refine KeptC.cons ?_ ?_ | refine KeptC.consF ?_ ?_ ?_ | refine KeptC.mk0 ?_)); all_goals (first | with_reducible assumption | (go_simp; done) | (simp; omega) | exact (by repeat (first | with_reducible refine Below.setCell ?_ (by first | (simp; done) | (simp; omega) | omega) _ | with_reducible refine Below.alloc ?_ (by first | (simp; done) | (simp; omega) | omega) _ | with_reducible refine Below.drew ?_ | with_reducible refine below_drewN ?_ _ | with_reducible exact Below.refl _ _ | with_reducible refine Below.trans ?_ (Below.mono kb0 (by first | (simp; done) | (simp; omega) | omega))))))⟩
        | true =>
          rw [hb, if_pos rfl] at hsn
          have HSN := Lib.hid hsn
          clear hb hsn
          have q0 : Below wo.heap.size wo (wo.alloc (Obj.cells #[.int .i64 xn, .int .i64 xf, .int .i64 xt, .string xb] 33)) := (by repeat (first | with_reducible refine Below.setCell ?_ (by first | (simp; done) | (simp; omega) | omega) _ | with_reducible refine Below.alloc ?_ (by first | (simp; done) | (simp; omega) | omega) _ | with_reducible refine Below.drew ?_ | with_reducible refine below_drewN ?_ _ | with_reducible exact Below.refl _ _))
          have d0 : (wo.alloc (Obj.cells #[.int .i64 xn, .int .i64 xf, .int .i64 xt, .string xb] 33)).cell? ⟨wo.heap.size, 0, none⟩ = some (.int .i64 xn) := by go_simp
          obtain ⟨W1, hW1⟩ : ∃ W, wo.alloc (Obj.cells #[.int .i64 xn, .int .i64 xf, .int .i64 xt, .string xb] 33) = W := ⟨_, rfl⟩
          rw [hW1] at q0 d0
          have hs1 : wo.heap.size < W1.heap.size := cell_lt d0
          rw [hW1]
          have kb1 : Below w.heap.size w W1 := (by repeat (first | with_reducible refine Below.setCell ?_ (by first | (simp; done) | (simp; omega) | omega) _ | with_reducible refine Below.alloc ?_ (by first | (simp; done) | (simp; omega) | omega) _ | with_reducible refine Below.drew ?_ | with_reducible refine below_drewN ?_ _ | with_reducible exact Below.refl _ _ | with_reducible refine Below.trans ?_ (Below.mono q0 (by first | (simp; done) | (simp; omega) | omega)) | with_reducible refine Below.trans ?_ (Below.mono kb0 (by first | (simp; done) | (simp; omega) | omega))))
          have HV1 := Lib.hid (rowI_below HV.out q0)
          have kc1 : W1.cell? ⟨g, 1, none⟩ = some (.slice (some ad) n c) := (q0.cell (p := ⟨g, 1, none⟩) (by show g < _; omega)).trans kc0_0
          have kg1 : W1.frozen? ⟨g, 1, none⟩ = false := (q0.frozen (p := ⟨g, 1, none⟩) (by show g < _; omega)).trans kg0_0
          clear hW1 kc0_0 kg0_0 kz0_0 HV q0 e0 e1 e2 e3
          have HRD : Hid (Reads (W1.alloc (Obj.cells #[.int .i64 xn] 2)) (W1.heap.size + 1) 1 (some ⟨W1.heap.size, 0, none⟩) 1 [.int .i64 xn]) := Lib.hid (cell_one W1 xn)
          have HV2 : Hid (RowI (W1.alloc (Obj.cells #[.int .i64 xn] 2)) w.heap.size (.slice A2 OL.length c2) OL) := Lib.hid (rowI_below HV1.out (by repeat (first | with_reducible refine Below.setCell ?_ (by first | (simp; done) | (simp; omega) | omega) _ | with_reducible refine Below.alloc ?_ (by first | (simp; done) | (simp; omega) | omega) _ | with_reducible refine Below.drew ?_ | with_reducible refine below_drewN ?_ _ | with_reducible exact Below.refl _ _)))
          have hsw : w.heap.size ≤ W1.heap.size := by omega
          have hgW : g < W1.heap.size := by omega
          go_wp2_with (at_builtin; refine wpList_append_any _ rfl (.tmp 46) (.tmp 49) _ rfl w.heap.size 2 i0 _ 1 8 Try.underlying37 hi0 hj0 hj1 hj2 rfl (by omega) (.slice A2 OL.length c2) OL.length (OL.map (Value.int .i64)) rfl (by exact HV2.out) (W1.heap.size + 1) (some ⟨W1.heap.size, 0, none⟩) 1 1 [.int .i64 xn] rfl (by exact HRD.out) (by simp [Value.oneCell']) (by simp only [maxLen]; omega) (by omega) (by simp; omega) ?_; intro v6 w6 hown6 hg6 hat6; obtain ⟨A6, c6, hv6⟩ := row_slice' hown6; subst hv6; have HG6 := Lib.hid hg6; have HO6 := Lib.hid hown6; clear hown6 hg6 hat6)
          have hb6 : Below w.heap.size (W1.alloc (Obj.cells #[.int .i64 xn] 2)) w6 := row_grown HV2.out HG6.out (by simp; omega)
          have kb6 : Below w.heap.size w w6 := kb1.trans (((by repeat (first | with_reducible refine Below.setCell ?_ (by first | (simp; done) | (simp; omega) | omega) _ | with_reducible refine Below.alloc ?_ (by first | (simp; done) | (simp; omega) | omega) _ | with_reducible refine Below.drew ?_ | with_reducible refine below_drewN ?_ _ | with_reducible exact Below.refl _ _)) : Below w.heap.size W1 (W1.alloc (Obj.cells #[.int .i64 xn] 2))).trans hb6)
          have kc6 : w6.cell? ⟨g, 1, none⟩ = some (.slice (some ad) n c) := (hb6.cell (p := ⟨g, 1, none⟩) hg).trans (by go_simp)
          have kg6 : w6.frozen? ⟨g, 1, none⟩ = false := (hb6.frozen (p := ⟨g, 1, none⟩) hg).trans (by go_simp)
          have HOW : Hid (RowI w6 w.heap.size (.slice A6 (OL ++ [xn]).length c6) (OL ++ [xn])) := Lib.hid (by unfold RowI; rw [List.map_append, List.length_append]; exact HO6.out)
          have hgw6 : g < w6.heap.size := cell_lt kc6
          clear HG6 HO6 hb6
          go_wp2
          go_roundg (go - 1)
          case measure => omega
          case rel => exact ⟨j + 1, A6, c6, OL ++ [xn], by omega, by simp, by simp, by simp; omega, Lib.hid HSN.out.symm, HOW, (by (repeat' (first | refine KeptC.cons ?_ ?_ | refine KeptC.consF ?_ ?_ ?_ | refine KeptC.mk0 ?_)); all_goals (first | with_reducible assumption | (go_simp; done) | (simp; omega) | exact (by repeat (first | with_reducible refine Below.setCell ?_ (by first | (simp; done) | (simp; omega) | omega) _ | with_reducible refine Below.alloc ?_ (by first | (simp; done) | (simp; omega) | omega) _ | with_reducible refine Below.drew ?_ | with_reducible refine below_drewN ?_ _ | with_reducible exact Below.refl _ _ | with_reducible refine Below.trans ?_ (Below.mono kb6 (by first | (simp; done) | (simp; omega) | omega))))))⟩
end Go.Proofs.Ytdaobbffhfbceaa
