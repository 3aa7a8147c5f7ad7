/- Chapter 22, parts on the way: VwW VwX VwY VwZ Wb Wc Wd We -/
import Derived.Test.YtkfodkbgmpbmfaaGreatB01
import Derived.Test.YtkfodkbgmpbmfaaGreatB02
import Derived.Test.YtkfodkbgmpbmfaaGreatB19
set_option linter.unusedVariables false
set_option linter.unusedSimpArgs false
namespace Go.Proofs.YtkfodkbgmpbmfaaGreat
open Go.RowKit
set_option linter.unusedVariables false
set_option linter.unusedSimpArgs false
set_option maxRecDepth 100000
theorem heldB_off {x : Wd} {a b : Int} (h : upN x a = none ∨ upN x b = none ∨ a = b) : heldB x a b = false := by
 unfold heldB
 rcases h with h | h | h
 · rw [h]
 · rw [h]
   cases upN x a <;> rfl
 · subst h
   cases upN x a with
   | none => rfl
   | some u => simp
theorem heldB_on {x : Wd} {a b : Int} {u v : Nd} (hu : upN x a = some u) (hv : upN x b = some v) (hab : a ≠ b) : heldB x a b = (namesB u v && namesB v u) := by
 unfold heldB
 rw [hu, hv]
 simp [hab]
theorem ends_any (x : Wd) (a b : Int) (w : World) (hx : WdOk w x) : Calls Tryz.prog 47 #[WdV x, .int .i64 a, .int .i64 b] w (EndsPost x a b w) := by
 have H : ∀ c W, Below w.heap.size w W → Calls Tryz.prog 43 #[WdV x, .int .i64 c] W fun e w' => e = .returned (.tuple #[NdV ((upN x c).getD Nd0), .bool (upN x c).isSome]) ∧ Below W.heap.size W w' := fun c W hb => up_any x c W (hx.below hb)
 have off : ∀ (k1 k2 : Bool), (upN x a).isSome = k1 → (upN x b).isSome = k2 → (k1 = false ∨ (k1 = true ∧ k2 = false) ∨ (k1 = true ∧ k2 = true ∧ (a == b) = true)) → heldB x a b = false → Calls Tryz.prog 47 #[WdV x, .int .i64 a, .int .i64 b] w (EndsPost x a b w) := fun k1 k2 e1 e2 hk hh => by
  have h1 := H a
  have h2 := H b
  rw [e1] at h1
  rw [e2] at h2
  refine (ends_off x a b w _ _ k1 k2 (Lib.hid h1) (Lib.hid h2) hk).mono ?_
  rintro e w' ⟨rfl, hb⟩
  exact ⟨hb, Hf0, Hf0, by rw [hh], fun h => by rw [hh] at h; cases h⟩
 cases hu : upN x a with
 | none => exact off false _ (by rw [hu]; rfl) rfl (.inl rfl) (heldB_off (.inl hu))
 | some u =>
  cases hv : upN x b with
  | none => exact off true false (by rw [hu]; rfl) (by rw [hv]; rfl) (.inr (.inl ⟨rfl, rfl⟩)) (heldB_off (.inr (.inl hv)))
  | some v =>
   by_cases hab : a = b
   · exact off true true (by rw [hu]; rfl) (by rw [hv]; rfl) (.inr (.inr ⟨rfl, rfl, by simpa using hab⟩)) (heldB_off (.inr (.inr hab)))
   · obtain ⟨i, rfl, hi, nu, fu⟩ := hx.at_ hu
     obtain ⟨j, rfl, hj, nv, fv⟩ := hx.at_ hv
     have h1 := H i
     have h2 := H j
     rw [hu] at h1
     rw [hv] at h2
     have h3 : ∀ W, Below w.heap.size w W → Calls Tryz.prog 86 #[NdV u, NdV v] W fun e w' => ∃ g, e = .returned (.tuple #[HfV g, .bool (namesB u v)]) ∧ HSim w' W.heap.size (getH u.halves v.id) (namesB u v) g ∧ Below W.heap.size W w' := fun W hb =>
      (names_any u v i j W ((nu.below hb).more hb.size) ((nv.below hb).more hb.size) fu fv hj).mono fun e w' h => names_sim ((nu.below hb).more hb.size) h
     have h4 : ∀ W, Below w.heap.size w W → Calls Tryz.prog 86 #[NdV v, NdV u] W fun e w' => ∃ g, e = .returned (.tuple #[HfV g, .bool (namesB v u)]) ∧ HSim w' W.heap.size (getH v.halves u.id) (namesB v u) g ∧ Below W.heap.size W w' := fun W hb =>
      (names_any v u j i W ((nv.below hb).more hb.size) ((nu.below hb).more hb.size) fv fu hi).mono fun e w' h => names_sim ((nv.below hb).more hb.size) h
     refine (ends_on x i j w u v (namesB u v) (namesB v u) (getH u.halves v.id) (getH v.halves u.id) (Lib.hid h1) (Lib.hid h2) (by simpa using hab) (Lib.hid h3) (Lib.hid h4)).mono ?_
     rintro e w' ⟨hb, g1, g2, rfl, s1, s2⟩
     refine ⟨hb, g1, g2, by rw [heldB_on hu hv hab], fun hh => ?_⟩
     rw [heldB_on hu hv hab, Bool.and_eq_true] at hh
     rw [hh.1] at s1
     rw [hh.2] at s2
     exact ⟨u, v, hu, hv, s1, s2⟩
set_option maxHeartbeats 4000000 in
theorem held_any (x : Wd) (a b : Int) (w : World) (hx : WdOk w x) : Calls Tryz.prog 12 #[WdV x, .int .i64 a, .int .i64 b] w fun e w' => e = .returned (.bool (heldB x a b)) ∧ Below w.heap.size w w' := by
 have C := Lib.hid (fun W (hb : Below w.heap.size w W) => ends_any x a b W (hx.below hb))
 clear hx
 unfold EndsPost at C
 generalize heldB x a b = r at C ⊢
 go_enter Tryz.func12, Tryz.ntmps12
 go_wp2_with (fail)
 refine (C.out _ Qb).mono ?_; rintro e w1 ⟨hb1, g1, g2, rfl, _⟩
 have kb1 : Below w.heap.size w w1 := (Qb1 hb1)
 have hz1 := kb1.size
 clear hb1 C
 go_wp2
 go_ret
 exact ⟨rfl, (Qb1 kb1)⟩
end Go.Proofs.YtkfodkbgmpbmfaaGreat
namespace Go.Proofs.YtkfodkbgmpbmfaaGreat
open Go.RowKit
set_option linter.unusedVariables false
set_option linter.unusedSimpArgs false
set_option maxRecDepth 100000
@[reducible] def ChV (c : Ch) : Value := .agg #[.string c.name, .int .i64 c.ep, .int .i64 c.who, .bool c.al, .int .i64 c.kd, .int .i64 c.sc]
theorem instS_eq (x : Wd) (a : Int) (nm : ByteArray) : instS x a nm = findS ((upN x a).getD Nd0).chans nm := by
 unfold instS
 cases upN x a <;> rfl
theorem WdOk.chs {w : World} {x : Wd} (h : WdOk w x) (a : Int) : StsAt w w.heap.size ((upN x a).getD Nd0).ca ((upN x a).getD Nd0).cn ((upN x a).getD Nd0).chans ∧ ((upN x a).getD Nd0).cn ≤ 1000 := by
 cases hu : upN x a with
 | none => exact ⟨sts_nil _ _ _, by simp⟩
 | some u =>
  obtain ⟨k, _, _, nu, fu⟩ := h.at_ hu
  exact ⟨nu.2.2.2, (nu.hn fu).2.2⟩
set_option maxHeartbeats 8000000 in
theorem inst_any (x : Wd) (a : Int) (nm : ByteArray) (w : World) (hx : WdOk w x) :
    Calls Tryz.prog 10 #[WdV x, .int .i64 a, .string nm] w fun e w' => e = .returned (.tuple #[ChV ((instS x a nm).getD St0).ch, .bool (instS x a nm).isSome]) ∧ Below w.heap.size w w' := by
 have CU := Lib.hid (fun W (hb : Below w.heap.size w W) => up_any x a W (hx.below hb))
 obtain ⟨hc, hcn⟩ := hx.chs a
 rw [instS_eq]
 generalize (upN x a).getD Nd0 = u at CU hc hcn ⊢
 generalize (upN x a).isSome = k at CU
 have CF := Lib.hid (fun W (hb : Below w.heap.size w W) => sfind_any u.ca u.cn u.cc u.chans nm W ((hc.below hb).more hb.size) (by omega))
 clear hx hc
 generalize (findS u.chans nm).getD St0 = y at CF ⊢
 generalize (findS u.chans nm).isSome = ok at CF ⊢
 obtain ⟨⟨ys, ye, ym, ya, yk, yc⟩, yh, yi, ⟨yp, yv, yo, yg⟩, ⟨yq, yu, yr, yt⟩⟩ := y
 simp only [] at CF ⊢
 go_enter Tryz.func10, Tryz.ntmps10
 go_wp2_with (fail)
 refine (CU.out _ Qb).mono ?_; rintro e w1 ⟨rfl, hb1⟩
 have hk1 : KeptC w [(⟨w.heap.size + 1, 0, none⟩, .string ⟨#[]⟩), (⟨w.heap.size + 1, 1, none⟩, .int .i64 0), (⟨w.heap.size + 1, 2, none⟩, .int .i64 0), (⟨w.heap.size + 1, 3, none⟩, .bool false), (⟨w.heap.size + 1, 4, none⟩, .int .i64 0), (⟨w.heap.size + 1, 5, none⟩, .int .i64 0)] [⟨w.heap.size + 1, 0, none⟩, ⟨w.heap.size + 1, 1, none⟩, ⟨w.heap.size + 1, 2, none⟩, ⟨w.heap.size + 1, 3, none⟩, ⟨w.heap.size + 1, 4, none⟩, ⟨w.heap.size + 1, 5, none⟩] w1 := by
  refine KeptC.below ?_ hb1
  exact Qk
 simp only [KeptC, List.forall_mem_cons] at hk1; obtain ⟨kb1, ⟨kc1_0, kc1_1, kc1_2, kc1_3, kc1_4, kc1_5, _⟩, ⟨kz1_0, kg1_0⟩, ⟨kz1_1, kg1_1⟩, ⟨kz1_2, kg1_2⟩, ⟨kz1_3, kg1_3⟩, ⟨kz1_4, kg1_4⟩, ⟨kz1_5, kg1_5⟩, _⟩ := hk1
 have hz1 : w.heap.size + 1 < w1.heap.size := cell_lt kc1_0
 clear hb1 CU
 go_wp2_with (fail)
 refine (CF.out _ (Qb1 kb1)).mono ?_; rintro e w2 ⟨rfl, hb2⟩
 have hk2 : KeptC w [(⟨w.heap.size + 1, 0, none⟩, .string ⟨#[]⟩), (⟨w.heap.size + 1, 1, none⟩, .int .i64 0), (⟨w.heap.size + 1, 2, none⟩, .int .i64 0), (⟨w.heap.size + 1, 3, none⟩, .bool false), (⟨w.heap.size + 1, 4, none⟩, .int .i64 0), (⟨w.heap.size + 1, 5, none⟩, .int .i64 0)] [⟨w.heap.size + 1, 0, none⟩, ⟨w.heap.size + 1, 1, none⟩, ⟨w.heap.size + 1, 2, none⟩, ⟨w.heap.size + 1, 3, none⟩, ⟨w.heap.size + 1, 4, none⟩, ⟨w.heap.size + 1, 5, none⟩] w2 := by
  refine KeptC.below ?_ hb2
  exact Qk1 kb1
 simp only [KeptC, List.forall_mem_cons] at hk2; obtain ⟨kb2, ⟨kc2_0, kc2_1, kc2_2, kc2_3, kc2_4, kc2_5, _⟩, ⟨kz2_0, kg2_0⟩, ⟨kz2_1, kg2_1⟩, ⟨kz2_2, kg2_2⟩, ⟨kz2_3, kg2_3⟩, ⟨kz2_4, kg2_4⟩, ⟨kz2_5, kg2_5⟩, _⟩ := hk2
 have hz2 : w.heap.size + 1 < w2.heap.size := cell_lt kc2_0
 clear hb2 CF kc1_0 kc1_1 kc1_2 kc1_3 kc1_4 kc1_5 kz1_0 kg1_0 kz1_1 kg1_1 kz1_2 kg1_2 kz1_3 kg1_3 kz1_4 kg1_4 kz1_5 kg1_5
 go_wp2
 refine bodyPost_ret (v := .tuple #[.agg #[.string ys, .int .i64 ye, .int .i64 ym, .bool ya, .int .i64 yk, .int .i64 yc], .bool ok]) (by simp [results, Tryz.results10, go_sem, *]) rfl ⟨rfl, (Qb1 kb2)⟩
end Go.Proofs.YtkfodkbgmpbmfaaGreat
namespace Go.Proofs.YtkfodkbgmpbmfaaGreat
open Go.RowKit
set_option linter.unusedVariables false
set_option linter.unusedSimpArgs false
set_option maxRecDepth 100000
def sameV (ye ym yk ze zm zk : Int) : Bool := (ye == ze) && ((ym == zm) && ((decide (1 ≤ yk) && decide (yk ≤ 3)) && (decide (1 ≤ zk) && decide (zk ≤ 3))))
theorem bothB_eq (x : Wd) (a b : Int) (nm : ByteArray) : bothB x a b nm = ((instS x a nm).isSome && ((instS x b nm).isSome && sameV ((instS x a nm).getD St0).ch.ep ((instS x a nm).getD St0).ch.who ((instS x a nm).getD St0).ch.kd ((instS x b nm).getD St0).ch.ep ((instS x b nm).getD St0).ch.who ((instS x b nm).getD St0).ch.kd)) := by
 unfold bothB
 cases instS x a nm with
 | none => rfl
 | some c =>
  cases instS x b nm with
  | none => rfl
  | some d =>
   simp only [Option.isSome_some, Option.getD_some, Bool.true_and, sameC, sameV, flowsK]
   congr 1
set_option maxHeartbeats 4000000 in
theorem both_any (x : Wd) (a b : Int) (nm : ByteArray) (w : World) (hx : WdOk w x) :
    Calls Tryz.prog 48 #[WdV x, .int .i64 a, .int .i64 b, .string nm] w fun e w' => e = .returned (.bool (bothB x a b nm)) ∧ Below w.heap.size w w' := by
 have C1 := Lib.hid (fun W (hb : Below w.heap.size w W) => inst_any x a nm W (hx.below hb))
 have C2 := Lib.hid (fun W (hb : Below w.heap.size w W) => inst_any x b nm W (hx.below hb))
 clear hx
 rw [bothB_eq]
 generalize (instS x a nm).getD St0 = y at C1 ⊢
 generalize (instS x a nm).isSome = k1 at C1 ⊢
 generalize (instS x b nm).getD St0 = z at C2 ⊢
 generalize (instS x b nm).isSome = k2 at C2 ⊢
 obtain ⟨⟨ys, ye, ym, ya, yk, yc⟩, _, _, _, _⟩ := y
 obtain ⟨⟨zs, ze, zm, za, zk, zc⟩, _, _, _, _⟩ := z
 simp only [] at C1 C2 ⊢
 unfold sameV
 go_enter Tryz.func48, Tryz.ntmps48
 go_wp2_with (fail)
 refine (C1.out _ Qb).mono ?_; rintro e w1 ⟨rfl, hb1⟩
 have hk1 : KeptC w [(⟨w.heap.size, 0, none⟩, .slice x.na x.nn x.nc), (⟨w.heap.size, 1, none⟩, .slice x.ua x.un x.uc), (⟨w.heap.size, 2, none⟩, .slice x.da x.dn x.dc), (⟨w.heap.size, 3, none⟩, .int .i64 x.nx), (⟨w.heap.size, 4, none⟩, .slice x.la x.ll x.lc), (⟨w.heap.size, 5, none⟩, .slice x.sa x.sl x.sc), (⟨w.heap.size, 6, none⟩, .int .i64 x.lost)] [] w1 := by
  refine KeptC.below ?_ hb1
  exact Qk
 simp only [KeptC, List.forall_mem_cons] at hk1; obtain ⟨kb1, ⟨kc1_0, kc1_1, kc1_2, kc1_3, kc1_4, kc1_5, kc1_6, _⟩, _⟩ := hk1
 have hz1 : w.heap.size < w1.heap.size := cell_lt kc1_0
 clear hb1 C1
 go_wp2_with (fail)
 refine (C2.out _ (Qb1 kb1)).mono ?_; rintro e w2 ⟨rfl, hb2⟩
 have hk2 : KeptC w [(⟨w1.heap.size, 0, none⟩, .string ys), (⟨w1.heap.size, 1, none⟩, .int .i64 ye), (⟨w1.heap.size, 2, none⟩, .int .i64 ym), (⟨w1.heap.size, 3, none⟩, .bool ya), (⟨w1.heap.size, 4, none⟩, .int .i64 yk), (⟨w1.heap.size, 5, none⟩, .int .i64 yc)] [] w2 := by
  refine KeptC.below ?_ hb2
  exact Qk1 kb1
 simp only [KeptC, List.forall_mem_cons] at hk2; obtain ⟨kb2, ⟨kc2_0, kc2_1, kc2_2, kc2_3, kc2_4, kc2_5, _⟩, _⟩ := hk2
 have hz2 : w1.heap.size < w2.heap.size := cell_lt kc2_0
 clear hb2 C2 kc1_0 kc1_1 kc1_2 kc1_3 kc1_4 kc1_5 kc1_6
 cases k1 with
 | false =>
  go_wp2
  go_ret
  exact ⟨rfl, (Qb1 kb2)⟩
 | true =>
  cases k2 with
  | false =>
   go_wp2
   go_ret
   exact ⟨rfl, (Qb1 kb2)⟩
  | true =>
   simp only [Bool.true_and]
   cases h1 : (ye == ze) with
   | false =>
    go_wp2
    go_ret
    exact ⟨by first | rfl | (simp only [h1]; rfl), (Qb1 kb2)⟩
   | true =>
    cases h2 : (ym == zm) with
    | false =>
     go_wp2
     go_ret
     exact ⟨by first | rfl | (simp only [h1, h2]; rfl), (Qb1 kb2)⟩
    | true =>
     go_wp2_with (fail)
     refine (sflows_any yk _).mono ?_; rintro e w3 ⟨rfl, hb3⟩
     have hk3 : KeptC w [(⟨w2.heap.size, 4, none⟩, .int .i64 zk)] [] w3 := by
      refine KeptC.below ?_ hb3
      exact Qk1 kb2
     simp only [KeptC, List.forall_mem_cons] at hk3; obtain ⟨kb3, ⟨kc3_0, _⟩, _⟩ := hk3
     clear hb3
     obtain ⟨F1, hF1⟩ : ∃ F, (decide (1 ≤ yk) && decide (yk ≤ 3)) = F := ⟨_, rfl⟩
     rw [hF1]
     have HF1 := Lib.hid hF1
     clear hF1
     cases F1 with
     | false =>
      go_wp2
      go_ret
      exact ⟨by first | (simp only [HF1.out]; rfl) | (simp only [h1, h2, HF1.out]; rfl), (Qb1 kb3)⟩
     | true =>
      go_wp2_with (fail)
      refine (sflows_any zk _).mono ?_; rintro e w4 ⟨rfl, hb4⟩
      have hs3 := kb3.size
      have kb4 : Below w.heap.size w w4 := (Qb2 hb4 kb3)
      clear hb4
      obtain ⟨F2, hF2⟩ : ∃ F, (decide (1 ≤ zk) && decide (zk ≤ 3)) = F := ⟨_, rfl⟩
      rw [hF2]
      have HF2 := Lib.hid hF2
      clear hF2
      go_wp2
      go_ret
      exact ⟨by first | (simp only [HF1.out, HF2.out]; rfl) | (simp only [h1, h2, HF1.out, HF2.out]; rfl), (Qb1 kb4)⟩
end Go.Proofs.YtkfodkbgmpbmfaaGreat
namespace Go.Proofs.YtkfodkbgmpbmfaaGreat
open Go.RowKit
set_option linter.unusedVariables false
set_option linter.unusedSimpArgs false
set_option maxRecDepth 100000
theorem regEq_off {x : Wd} {a b : Int} {nm : ByteArray} (h : heldB x a b = false ∨ bothB x a b nm = false) : agreedB x a b nm = false := by
 unfold agreedB
 cases upN x a with
 | none => rfl
 | some u =>
  cases upN x b with
  | none => rfl
  | some v => rcases h with h | h <;> simp [h]
theorem agreedB_on {x : Wd} {a b : Int} {nm : ByteArray} {u v : Nd} (hu : upN x a = some u) (hv : upN x b = some v) (hh : heldB x a b = true) (hb : bothB x a b nm = true) : agreedB x a b nm = regEq (regN u v.id nm) (regN v u.id nm) := by
 unfold agreedB
 rw [hu, hv]
 simp [hh, hb]
theorem HSim.reg {w : World} {base : Nat} {u : Nd} {p : Int} {i : Nat} {nm : ByteArray} {g : Hf} (h : HSim w base (getH u.halves p) true g) (fu : FitNd i u) : getLn g.lines nm = regN u p nm ∧ g.lines.Pairwise (fun a b => ltN a.name b.name = true) ∧ g.ln ≤ 1000 := by
 obtain ⟨h0, e, hl⟩ := h.2.2 rfl
 have hk := (fu.hs.2 h0 (getH_mem e).1).2
 refine ⟨by unfold regN; rw [e, hl]; rfl, by rw [hl]; exact hk.2.1, ?_⟩
 have h1 := h.lns.1.1
 have h2 := hk.1
 rw [hl] at h1
 omega
set_option maxHeartbeats 8000000 in
theorem agreed_any (x : Wd) (a b : Int) (nm : ByteArray) (w : World) (hx : WdOk w x) :
    Calls Tryz.prog 13 #[WdV x, .int .i64 a, .int .i64 b, .string nm] w fun e w' => e = .returned (.bool (agreedB x a b nm)) ∧ Below w.heap.size w w' := by
 have CE := Lib.hid (fun W (hb : Below w.heap.size w W) => ends_any x a b W (hx.below hb))
 have CB := Lib.hid (fun W (hb : Below w.heap.size w W) => both_any x a b nm W (hx.below hb))
 have HXX := Lib.hid hx
 clear hx
 go_enter Tryz.func13, Tryz.ntmps13
 go_wp2_with (fail)
 refine (CE.out _ Qb).mono ?_; rintro e w1 ⟨hb1, g1, g2, rfl, hg⟩
 have hk1 : KeptC w [(⟨w.heap.size, 0, none⟩, .slice x.na x.nn x.nc), (⟨w.heap.size, 1, none⟩, .slice x.ua x.un x.uc), (⟨w.heap.size, 2, none⟩, .slice x.da x.dn x.dc), (⟨w.heap.size, 3, none⟩, .int .i64 x.nx), (⟨w.heap.size, 4, none⟩, .slice x.la x.ll x.lc), (⟨w.heap.size, 5, none⟩, .slice x.sa x.sl x.sc), (⟨w.heap.size, 6, none⟩, .int .i64 x.lost)] [] w1 := by
  refine KeptC.below ?_ hb1
  exact Qk
 simp only [KeptC, List.forall_mem_cons] at hk1; obtain ⟨kb1, ⟨kc1_0, kc1_1, kc1_2, kc1_3, kc1_4, kc1_5, kc1_6, _⟩, _⟩ := hk1
 have hz1 : w.heap.size < w1.heap.size := cell_lt kc1_0
 have HG := Lib.hid hg
 clear hb1 hg CE
 cases hh : heldB x a b with
 | false =>
  have HA : Hid (agreedB x a b nm = false) := Lib.hid (regEq_off (.inl hh))
  go_wp2_with (fail)
  refine wp_region_quietC_lit (KeptC w [(⟨w.heap.size, 0, none⟩, .slice x.na x.nn x.nc), (⟨w.heap.size, 1, none⟩, .slice x.ua x.un x.uc), (⟨w.heap.size, 2, none⟩, .slice x.da x.dn x.dc), (⟨w.heap.size, 3, none⟩, .int .i64 x.nx), (⟨w.heap.size, 4, none⟩, .slice x.la x.ll x.lc), (⟨w.heap.size, 5, none⟩, .slice x.sa x.sl x.sc), (⟨w.heap.size, 6, none⟩, .int .i64 x.lost)] []) (by kernel_rfl) (by kernel_rfl) ?_ ?_
  · refine KeptC.drewn ?_
    exact Qk1 kb1
  repeat (first
   | go_big_quiet_skip
   | (go_big_quiet_want; (apply quietC_run); (· intro w' hw'; (have hk' := hw'; simp only [KeptC, List.forall_mem_cons] at hk'; go_split_ands); go_simp; first | done | rfl); (simp only [Act.put, List.setIfInBounds_toArray, List.set_cons_zero, List.set_cons_succ]; go_big_quiet_on))
   | (go_big_quiet_want; (apply quietC_call); (· intro w' hw'; go_simp; first | done | exact ⟨rfl, rfl⟩ | rfl); (· intro w' hw'; first | ((with_reducible refine (fail).mono ?_); rintro e w2 ⟨rfl, hb⟩; exact ⟨rfl, hw'.below hb⟩)); (simp only [Act.put, List.setIfInBounds_toArray, List.set_cons_zero, List.set_cons_succ]; go_big_quiet_on)))
  refine wpQuiet_nil ?_
  intro w9 hk9
  (have hk' := hk9; simp only [KeptC, List.forall_mem_cons] at hk'; go_split_ands); have hkB9 := hk9.1
  go_wp2
  go_ret
  exact ⟨by rw [HA.out]; rfl, hkB9⟩
 | true =>
  obtain ⟨u, v, hu, hv, s1, s2⟩ := HG.out hh
  obtain ⟨i, hai, hi, nu, fu⟩ := HXX.out.at_ hu
  obtain ⟨j, hbj, hj, nv, fv⟩ := HXX.out.at_ hv
  obtain ⟨r1, p1, n1⟩ := s1.reg (nm := nm) fu
  obtain ⟨r2, p2, n2⟩ := s2.reg (nm := nm) fv
  cases hbo : bothB x a b nm with
  | false =>
   have HA : Hid (agreedB x a b nm = false) := Lib.hid (regEq_off (.inr hbo))
   rw [hbo] at CB
   clear hu hv s1 s2 hai hbj nu nv fu fv r1 r2 p1 p2 n1 n2
   go_wp2_with (fail)
   refine wp_region_quietC_lit (KeptC w [(⟨w.heap.size, 0, none⟩, .slice x.na x.nn x.nc), (⟨w.heap.size, 1, none⟩, .slice x.ua x.un x.uc), (⟨w.heap.size, 2, none⟩, .slice x.da x.dn x.dc), (⟨w.heap.size, 3, none⟩, .int .i64 x.nx), (⟨w.heap.size, 4, none⟩, .slice x.la x.ll x.lc), (⟨w.heap.size, 5, none⟩, .slice x.sa x.sl x.sc), (⟨w.heap.size, 6, none⟩, .int .i64 x.lost)] []) (by kernel_rfl) (by kernel_rfl) ?_ ?_
   · refine KeptC.drewn ?_
     exact Qk1 kb1
   repeat (first
    | go_big_quiet_skip
    | (go_big_quiet_want; (apply quietC_run); (· intro w' hw'; (have hk' := hw'; simp only [KeptC, List.forall_mem_cons] at hk'; go_split_ands); go_simp; first | done | rfl); (simp only [Act.put, List.setIfInBounds_toArray, List.set_cons_zero, List.set_cons_succ]; go_big_quiet_on))
    | (go_big_quiet_want; (apply quietC_call); (· intro w' hw'; go_simp; first | done | exact ⟨rfl, rfl⟩ | rfl); (· intro w' hw'; first | ((with_reducible refine (CB.out _ hw'.lowV).mono ?_); rintro e w2 ⟨rfl, hb⟩; exact ⟨rfl, hw'.below hb⟩)); (simp only [Act.put, List.setIfInBounds_toArray, List.set_cons_zero, List.set_cons_succ]; go_big_quiet_on)))
   refine wpQuiet_nil ?_
   intro w9 hk9
   (have hk' := hk9; simp only [KeptC, List.forall_mem_cons] at hk'; go_split_ands); have hkB9 := hk9.1
   go_wp2
   go_ret
   exact ⟨by rw [HA.out]; rfl, hkB9⟩
  | true =>
   have HA : Hid (agreedB x a b nm = regEq (getLn g1.lines nm) (getLn g2.lines nm)) := Lib.hid (by rw [agreedB_on hu hv hh hbo, r1, r2])
   rw [hbo] at CB
   have CR1 := Lib.hid (fun W (hb : Below w1.heap.size w1 W) => reg_any g1 nm W (s1.below hb).lns p1 n1)
   have CR2 := Lib.hid (fun W (hb : Below w1.heap.size w1 W) => reg_any g2 nm W (s2.below hb).lns p2 n2)
   have CB1 := Lib.hid (fun W (hb : Below w1.heap.size w1 W) => CB.out W (kb1.trans (hb.mono kb1.size)))
   clear hu hv s1 s2 hai hbj nu nv fu fv r1 r2 p1 p2 n1 n2 CB HG HXX
   generalize getLn g1.lines nm = l1 at CR1 HA
   generalize getLn g2.lines nm = l2 at CR2 HA
   obtain ⟨m1, v1, q1, f1⟩ := l1
   obtain ⟨m2, v2, q2, f2⟩ := l2
   have CA := Lib.hid (fun W => Rg.agree_any v1 q1 f1 v2 q2 f2 W)
   go_wp2_with (fail)
   refine wp_region_quietC_lit (KeptC w1 [(⟨w.heap.size, 0, none⟩, .slice x.na x.nn x.nc), (⟨w.heap.size, 1, none⟩, .slice x.ua x.un x.uc), (⟨w.heap.size, 2, none⟩, .slice x.da x.dn x.dc), (⟨w.heap.size, 3, none⟩, .int .i64 x.nx), (⟨w.heap.size, 4, none⟩, .slice x.la x.ll x.lc), (⟨w.heap.size, 5, none⟩, .slice x.sa x.sl x.sc), (⟨w.heap.size, 6, none⟩, .int .i64 x.lost), (⟨w1.heap.size, 0, none⟩, .int .i64 g1.peer), (⟨w1.heap.size, 1, none⟩, .int .i64 g1.boot), (⟨w1.heap.size, 2, none⟩, .int .i64 g1.life), (⟨w1.heap.size, 3, none⟩, .slice g1.la g1.ln g1.lc), (⟨w1.heap.size, 4, none⟩, .bool g1.pend), (⟨w1.heap.size, 5, none⟩, .int .i64 g1.miss), (⟨w1.heap.size + 1, 0, none⟩, .int .i64 g2.peer), (⟨w1.heap.size + 1, 1, none⟩, .int .i64 g2.boot), (⟨w1.heap.size + 1, 2, none⟩, .int .i64 g2.life), (⟨w1.heap.size + 1, 3, none⟩, .slice g2.la g2.ln g2.lc), (⟨w1.heap.size + 1, 4, none⟩, .bool g2.pend), (⟨w1.heap.size + 1, 5, none⟩, .int .i64 g2.miss)] []) (by kernel_rfl) (by kernel_rfl) ?_ ?_
   · refine KeptC.drewn ?_
     exact Qk
   repeat (first
    | go_big_quiet_skip
    | (go_big_quiet_want; (apply quietC_run); (· intro w' hw'; (have hk' := hw'; simp only [KeptC, List.forall_mem_cons] at hk'; go_split_ands); go_simp; first | done | rfl); (simp only [Act.put, List.setIfInBounds_toArray, List.set_cons_zero, List.set_cons_succ]; go_big_quiet_on))
    | (go_big_quiet_want; (apply quietC_call); (· intro w' hw'; go_simp; first | done | exact ⟨rfl, rfl⟩ | rfl); (· intro w' hw'; first | ((with_reducible refine (CB1.out _ hw'.lowV).mono ?_); rintro e w2 ⟨rfl, hb⟩; exact ⟨rfl, hw'.below hb⟩) | ((with_reducible refine (CR1.out _ hw'.lowV).mono ?_); rintro e w2 ⟨rfl, hb⟩; exact ⟨rfl, hw'.below hb⟩) | ((with_reducible refine (CR2.out _ hw'.lowV).mono ?_); rintro e w2 ⟨rfl, hb⟩; exact ⟨rfl, hw'.below hb⟩) | ((with_reducible refine (CA.out _).mono ?_); rintro e w2 ⟨rfl, hb⟩; exact ⟨rfl, hw'.below hb⟩)); (simp only [Act.put, List.setIfInBounds_toArray, List.set_cons_zero, List.set_cons_succ]; go_big_quiet_on)))
   refine wpQuiet_nil ?_
   intro w9 hk9
   (have hk' := hk9; simp only [KeptC, List.forall_mem_cons] at hk'; go_split_ands); have hkB9 := hk9.1
   go_wp2
   go_ret
   exact ⟨by rw [HA.out]; unfold regEq; rw [← Bool.and_assoc]; rfl, kb1.trans (hkB9.mono kb1.size)⟩
end Go.Proofs.YtkfodkbgmpbmfaaGreat
namespace Go.Proofs.YtkfodkbgmpbmfaaGreat
open Go.RowKit
set_option linter.unusedVariables false
set_option linter.unusedSimpArgs false
set_option maxRecDepth 100000
theorem link_inf : (Tryz.prog.info? 62).map (fun i => (i.zero, i.size, i.bytes)) = some (some (.agg #[.int .i64 0, .int .i64 0]), 2, 16) := by kernel_rfl
theorem link_cells {w : World} {g : Nat} {x y : Int} (h0 : w.cell? ⟨g, 0, none⟩ = some (.int .i64 x)) (h1 : w.cell? ⟨g, 1, none⟩ = some (.int .i64 y)) : CellsE Bg.encL w ⟨g, 0, none⟩ (x, y) := by
 intro i u hu
 have hj : i < 2 := by have := (List.getElem?_eq_some_iff.1 hu).1; simpa [Bg.encL] using this
 rw [Addr.add_lit]
 match i, hj with
 | 0, _ | 1, _ => simp [Bg.encL] at hu; subst hu; first | simpa using h0 | simpa using h1
end Go.Proofs.YtkfodkbgmpbmfaaGreat
namespace Go.Proofs.YtkfodkbgmpbmfaaGreat
open Go.RowKit
set_option linter.unusedVariables false
set_option linter.unusedSimpArgs false
set_option maxRecDepth 100000
def rowE (p : Nat → Nat → Bool) (i b : Nat) : List (Int × Int) := ((List.range b).filter fun j => decide (i < j) && p i j).map fun j => (((i : Nat) : Int), ((j : Nat) : Int))
def allE (p : Nat → Nat → Bool) (n a : Nat) : List (Int × Int) := (List.range a).flatMap fun i => rowE p i n
theorem rowE_start (p : Nat → Nat → Bool) (i b : Nat) (h : b ≤ i + 1) : rowE p i b = [] := by
 unfold rowE
 rw [List.map_eq_nil_iff, List.filter_eq_nil_iff]
 intro j hj
 rw [List.mem_range] at hj
 simp only [Bool.and_eq_true, decide_eq_true_eq, not_and]
 omega
theorem rowE_next (p : Nat → Nat → Bool) (i b : Nat) (h : i < b) : rowE p i (b + 1) = rowE p i b ++ if p i b = true then [((i : Int), (b : Int))] else [] := by
 unfold rowE
 rw [List.range_succ, List.filter_append, List.map_append]
 congr 1
 simp only [List.filter_cons, List.filter_nil, h, decide_true, Bool.true_and]
 split <;> simp
theorem allE_next (p : Nat → Nat → Bool) (n a : Nat) : allE p n (a + 1) = allE p n a ++ rowE p a n := by
 unfold allE
 rw [List.range_succ, List.flatMap_append]
 simp
def heldN (x : Wd) (i j : Nat) : Bool := heldB x i j
end Go.Proofs.YtkfodkbgmpbmfaaGreat
namespace Go.Proofs.YtkfodkbgmpbmfaaGreat
open Go.RowKit
set_option linter.unusedVariables false
set_option linter.unusedSimpArgs false
set_option maxRecDepth 100000
def openP (x : Wd) (nm : ByteArray) (e : Int × Int) : Bool := bothB x e.1 e.2 nm && !agreedB x e.1 e.2 nm
end Go.Proofs.YtkfodkbgmpbmfaaGreat
namespace Go.Proofs.YtkfodkbgmpbmfaaGreat
open Go.RowKit Go.Shelf
set_option linter.unusedVariables false
set_option linter.unusedSimpArgs false
set_option maxRecDepth 100000
def KeepB (B : Nat) (w w' : World) : Prop := ∀ (p : Addr) (v : Value), p.block < B → w.cell? p = some v → w'.cell? p = some v
section
variable {w w' : World} {B : Nat}
theorem RowsE.keep {α : Type} {enc : α → List Value} {k n : Nat} {A : Option Addr} {rs : List α} (h : RowsE enc k w B A n rs) (hk : KeepB B w w') : RowsE enc k w' B A n rs :=
 ⟨h.1, fun hn => by
  obtain ⟨ad, e, hB, hc⟩ := h.2 hn
  exact ⟨ad, e, hB, fun j x hx i u hu => hk _ _ (by rw [block_of_add, block_of_add]; exact hB) (hc j x hx i u hu)⟩⟩
theorem NdAt.keep {x : Nd} (h : NdAt w B x) (hk : KeepB B w w') : NdAt w' B x := ⟨h.1.keep hk, h.2.1.keep hk, ⟨h.2.2.1.1.keep hk, fun y hy => ⟨(h.2.2.1.2 y hy).1.keep hk, (h.2.2.1.2 y hy).2⟩⟩, ⟨h.2.2.2.1.keep hk, h.2.2.2.2⟩⟩
theorem WdAt.keep {x : Wd} (h : WdAt w B x) (hk : KeepB B w w') : WdAt w' B x := ⟨⟨h.1.1.keep hk, fun y hy => (h.1.2 y hy).keep hk⟩, h.2.keep hk⟩
end
theorem LiesV.keepB {D Bo Bw B : Nat} {w w' : World} (h : LiesV D Bo Bw w w') (hD : B ≤ D) (ho : B ≤ Bo) (hw : B ≤ Bw) : KeepB B w w' := fun p v hp hc => h p v (by omega) (by omega) (by omega) hc
def encsY (x : Int × Int) : Array Value := #[.int .i64 x.1, .int .i64 x.2]
def PtY (_ : Int × Int) (_ : World) : Prop := True
def colE (p : Nat → Nat → Bool) (b a : Nat) : List (Int × Int) := ((List.range a).filter fun i => p i b).map fun i => (((i : Nat) : Int), ((b : Nat) : Int))
def colsE (p : Nat → Nat → Bool) (b : Nat) : List (Int × Int) := (List.range b).flatMap fun i => colE p i i
theorem colE_next (p : Nat → Nat → Bool) (b a : Nat) : colE p b (a + 1) = colE p b a ++ if p a b = true then [((a : Int), (b : Int))] else [] := by
 unfold colE
 rw [List.range_succ, List.filter_append, List.map_append]
 congr 1
 simp only [List.filter_cons, List.filter_nil]
 split <;> simp
theorem colsE_next (p : Nat → Nat → Bool) (b : Nat) : colsE p (b + 1) = colsE p b ++ colE p b b := by
 unfold colsE
 rw [List.range_succ, List.flatMap_append]
 simp
theorem colE_len (p : Nat → Nat → Bool) (b a : Nat) : (colE p b a).length ≤ a := by
 unfold colE
 rw [List.length_map]
 have := List.length_filter_le (fun i => p i b) (List.range a)
 simpa using this
theorem colsE_len (p : Nat → Nat → Bool) : ∀ b, (colsE p b).length ≤ 16 * b ∨ 16 < b
 | 0 => .inl (by simp [colsE])
 | b + 1 => by
  rcases Nat.lt_or_ge 16 (b + 1) with h | h
  · exact .inr h
  · left
    rw [colsE_next, List.length_append]
    have h1 := colE_len p b b
    rcases colsE_len p b with h2 | h2 <;> omega
set_option maxHeartbeats 8000000 in
theorem edges_seq (k : Nat) (hk : 1 ≤ k) (B1 Bo Bw B : Nat) (x : Wd) (w : World) (hBo : Bo < w.heap.size) (hBw : Bw < w.heap.size) (hbx : KeptC w [(⟨B1, 0, none⟩, .slice x.na x.nn x.nc), (⟨B1, 1, none⟩, .slice x.ua x.un x.uc), (⟨B1, 2, none⟩, .slice x.da x.dn x.dc), (⟨B1, 3, none⟩, .int .i64 x.nx), (⟨B1, 4, none⟩, .slice x.la x.ll x.lc), (⟨B1, 5, none⟩, .slice x.sa x.sl x.sc), (⟨B1, 6, none⟩, .int .i64 x.lost)] [] w)
    (d1 : B1 ≠ Bo ∧ B1 ≠ Bw) (hx : WdAt w B x) (hf : FitW x) (hBB : B ≤ w.heap.size ∧ B ≤ Bo ∧ B ≤ Bw) :
    SeqP k Tryz.prog 125 #[.pointer (some ⟨B1, 0, none⟩)] encsY PtY Bo Bw 256 (fun ys => ys = colsE (heldN x) x.nn) w := by
 intro l J W hW hJr hJF hY h0
 have hn : x.nn ≤ 16 := by have h1 := hx.1.1.1; have := hf.n1; omega
 simp only [KeptC, List.forall_mem_cons] at hbx
 obtain ⟨_, ⟨b0, b1, b2, b3, b4, b5, b6, _⟩, _⟩ := hbx
 have hB1 := cell_lt b0
 simp only [] at hB1
 have hws := hW.size
 have L0 : LiesV w.heap.size Bo Bw w W := LiesV.of_below hW
 have q0 := L0 _ _ hB1 d1.1 d1.2 b0
 have HX := Lib.hid hx
 have HC : Hid (∀ A : World, w.heap.size ≤ A.heap.size → LiesV w.heap.size Bo Bw w A → ∀ i j : Nat, Calls Tryz.prog 12 #[WdV x, .int .i64 i, .int .i64 j] A fun e w' => e = .returned (.bool (heldN x i j)) ∧ Below A.heap.size A w') := Lib.hid fun A hA hL i j =>
  held_any x i j A ⟨(hx.keep (hL.keepB hBB.1 hBB.2.1 hBB.2.2)).more (by omega), hf⟩
 refine callsIn_of_wp Tryz.func125 rfl trivial ?_ rfl
 simp only [Tryz.ntmps125, List.size_toArray, List.length_cons, List.length_nil, Nat.reduceAdd, Nat.reduceSub, Array.replicate_succ, Array.replicate_zero, List.push_toArray, List.append_toArray, List.nil_append, List.cons_append]
 have HY := Lib.hid hY; have HJR := Lib.hid hJr; have HJF := Lib.hid hJF; have H0 := Lib.hid h0
 have B0 := Lib.hid b0; have BX1 := Lib.hid b1; have BX2 := Lib.hid b2; have BX3 := Lib.hid b3; have BX4 := Lib.hid b4; have BX5 := Lib.hid b5; have BX6 := Lib.hid b6
 clear hY hJr hJF h0 b0 b1 b2 b3 b4 b5 b6 hx hf
 gi_wp2
 gi_loopw [8] (fun i W' => ∃ (b : Nat) (pre : List (Int × Int)), i = .int .i64 b ∧ b ≤ x.nn ∧ Hid (pre = colsE (heldN x) b) ∧ Hid (J pre W') ∧ Hid (LiesV w.heap.size Bo Bw w W')) (fun i _ => x.nn - (intOf i).toNat)
 case atStart => exact ⟨0, [], rfl, Nat.zero_le _, Lib.hid rfl, H0, Lib.hid L0⟩
 case round =>
  obtain ⟨b, pre, rfl, hb, HP, HJ, HLi⟩ := hrel
  clear L0 H0 q0
  have hsz0 : w.heap.size ≤ wr.heap.size := (HJR.out _ _ HJ.out).1
  by_cases hlt : b < x.nn
  rotate_left
  · obtain rfl : b = x.nn := by omega
    gi_wp2
    go_end0
    exact ⟨⟨_, rfl⟩, pre, HP.out, HJ.out⟩
  · obtain ⟨wo, hwo⟩ : ∃ wo, wo = wr := ⟨_, rfl⟩
    subst hwo
    gi_wp2
    gi_loopw [12] (fun i W' => ∃ (a : Nat) (pr : List (Int × Int)), i = .int .i64 a ∧ a ≤ b ∧ Hid (pr = colsE (heldN x) b ++ colE (heldN x) b a) ∧ Hid (J pr W') ∧ Hid (LiesV w.heap.size Bo Bw w W')) (fun i _ => b - (intOf i).toNat)
    case atStart => exact ⟨0, pre, rfl, Nat.zero_le _, Lib.hid (by rw [HP.out]; simp [colE]), HJ, HLi⟩
    case round =>
     obtain ⟨a, pr, rfl, ha, HPr, HJ1, HL1⟩ := hrel
     have hsz1 : w.heap.size ≤ wr.heap.size := (HJR.out _ _ HJ1.out).1
     by_cases hlt2 : a < b
     rotate_left
     · obtain rfl : a = b := by omega
       have HP2 : Hid (pr = colsE (heldN x) (a + 1)) := Lib.hid (by rw [HPr.out, colsE_next])
       gi_wp2
       go_roundw
       case rel => exact ⟨a + 1, pr, by go_num, by omega, HP2, HJ1, HL1⟩
       case measure => simp [intOf]; omega
     · have q0 := HL1.out _ _ hB1 d1.1 d1.2 B0.out
       have q1 := HL1.out _ _ hB1 d1.1 d1.2 BX1.out
       have q2 := HL1.out _ _ hB1 d1.1 d1.2 BX2.out
       have q3 := HL1.out _ _ hB1 d1.1 d1.2 BX3.out
       have q4 := HL1.out _ _ hB1 d1.1 d1.2 BX4.out
       have q5 := HL1.out _ _ hB1 d1.1 d1.2 BX5.out
       have q6 := HL1.out _ _ hB1 d1.1 d1.2 BX6.out
       gi_wp2_with (fail)
       refine ⟨trivial, ?_⟩
       refine (callsIn_wide.2 (HC.out wr hsz1 HL1.out a b)).mono ?_; rintro e w1 ⟨rfl, hb1⟩
       obtain ⟨q, hq⟩ : ∃ q, heldN x a b = q := ⟨_, rfl⟩
       rw [hq]
       have HQ := Lib.hid hq
       have HL9 := Lib.hid (HL1.out.below hb1)
       have hj9 := HJF.out _ _ w1 HJ1.out (Fr.below hb1)
       have hpl : pr.length < 256 := by
        rw [HPr.out, List.length_append]
        have h1 := colE_len (heldN x) b a
        rcases colsE_len (heldN x) b with h2 | h2 <;> omega
       cases q with
       | false =>
        have HP2 : Hid (pr = colsE (heldN x) b ++ colE (heldN x) b (a + 1)) := Lib.hid (by rw [colE_next, HQ.out, HPr.out]; simp)
        have HJ9 := Lib.hid hj9
        clear hq hj9 hpl
        gi_wp2
        refine ⟨fun f h => (by cases h), ?_⟩
        gi_wp2
        go_roundw
        case rel => exact ⟨a + 1, pr, by go_num, by omega, HP2, HJ9, HL9⟩
        case measure => simp [intOf]; omega
       | true =>
        have HP2 : Hid (pr ++ [((a : Int), (b : Int))] = colsE (heldN x) b ++ colE (heldN x) b (a + 1)) := Lib.hid (by rw [colE_next, HQ.out, HPr.out]; simp)
        obtain ⟨fn', tm', as', bo', hy, hR'⟩ := HY.out pr ((a : Int), (b : Int)) w1 hj9 trivial hpl
        simp only [encsY] at hy
        have HRR := Lib.hid hR'
        clear hq hj9 hR' hpl
        gi_wp2
        refine HRR.out.mono ?_
        rintro e' W3 ⟨rfl, hJ3, hK3⟩
        have HJ3 := Lib.hid hJ3
        have HL3 := Lib.hid (HL9.out.kp hK3)
        clear hJ3 hK3
        gi_wp2
        go_roundw
        case rel => exact ⟨a + 1, pr ++ [((a : Int), (b : Int))], by go_num, by omega, HP2, HJ3, HL3⟩
        case measure => simp [intOf]; omega
end Go.Proofs.YtkfodkbgmpbmfaaGreat
