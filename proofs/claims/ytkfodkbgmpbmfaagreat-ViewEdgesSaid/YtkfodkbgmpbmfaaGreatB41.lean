/- Chapter 22, parts on the way: Yy -/
import Derived.Test.YtkfodkbgmpbmfaaGreatB01
import Derived.Test.YtkfodkbgmpbmfaaGreatB22
import Derived.Test.YtkfodkbgmpbmfaaGreatB36
import Derived.Test.YtkfodkbgmpbmfaaGreatB37
import Derived.Test.YtkfodkbgmpbmfaaGreatB40
set_option linter.unusedVariables false
set_option linter.unusedSimpArgs false
namespace Go.Proofs.YtkfodkbgmpbmfaaGreat
open Go.RowKit Go.Shelf
set_option linter.unusedVariables false
set_option linter.unusedSimpArgs false
set_option maxRecDepth 100000
def awW (g3 g4 : Nat) (A7 : Option Addr) (u v : Nd) : Wd := ⟨some ⟨g3, 0, none⟩, 2, 2, some ⟨g4, 0, none⟩, 2, 2, A7, 2, 2, 0, none, 0, 0, none, 0, 0, 0, [u, v], [true, true]⟩
def awM : ByteArray := ⟨#[109]⟩
abbrev aw2 (g3 g4 : Nat) (A7 : Option Addr) (a b c d e a' b' c' d' e' : Nat) : Wd := awW g3 g4 A7 (awNd 0 1 true 10 a b c d e) (awNd 1 0 false 0 a' b' c' d' e')
section
variable (g3 g4 : Nat) (A7 : Option Addr) (a b c d e a' b' c' d' e' : Nat)
theorem aw_sums : sumsB (aw2 g3 g4 A7 a b c d e a' b' c' d' e') awM [1, 0] 0 0 = (10, 10, 0) := by kernel_rfl
theorem aw_held : heldB (aw2 g3 g4 A7 a b c d e a' b' c' d' e') 0 1 = true := by kernel_rfl
theorem aw_agr : agreedB (aw2 g3 g4 A7 a b c d e a' b' c' d' e') 1 0 awM = true := by kernel_rfl
theorem aw_vE : valE (seatsB (aw2 g3 g4 A7 a b c d e a' b' c' d' e') awM) = 0 := by kernel_rfl
theorem aw_vL : valL (seatsB (aw2 g3 g4 A7 a b c d e a' b' c' d' e') awM) = [5, 5] := by kernel_rfl
theorem aw_sq : Rg.sqL [5, 5] = ⟨0, 50⟩ := by kernel_rfl
theorem aw_seats : (seatsB (aw2 g3 g4 A7 a b c d e a' b' c' d' e') awM).length = 2 := by kernel_rfl
theorem aw_every : everyB (aw2 g3 g4 A7 a b c d e a' b' c' d' e') awM = true := by kernel_rfl
theorem aw_cl1 : closedB (aw2 g3 g4 A7 a b c d e a' b' c' d' e') [1, 0] awM = true := by kernel_rfl
theorem aw_cl2 : closedB (aw2 g3 g4 A7 a b c d e a' b' c' d' e') [0] awM = false := by kernel_rfl
theorem aw_edges : (allE (heldN (aw2 g3 g4 A7 a b c d e a' b' c' d' e')) 2 2).length = 1 := by kernel_rfl
theorem aw_open : ((allE (heldN (aw2 g3 g4 A7 a b c d e a' b' c' d' e')) 2 2).filter (openP (aw2 g3 g4 A7 a b c d e a' b' c' d' e') awM)).length = 0 := by kernel_rfl
theorem aw_h01 : heldN (aw2 g3 g4 A7 a b c d e a' b' c' d' e') 0 1 = true := by kernel_rfl
theorem aw_up : ∀ i, i < 2 → upB (aw2 g3 g4 A7 a b c d e a' b' c' d' e') i = true := by
 intro i hi
 have : i = 0 ∨ i = 1 := by omega
 rcases this with rfl | rfl <;> rfl
theorem aw_fit : FitW (aw2 g3 g4 A7 a b c d e a' b' c' d' e') := by
 refine ⟨Nat.le_succ 1, (by show 2 ≤ 16; omega), rfl, ?_, ?_⟩
 · intro i y hy
   have hi : i < 2 := (List.getElem?_eq_some_iff.1 hy).1
   have : i = 0 ∨ i = 1 := by omega
   rcases this with rfl | rfl
   · obtain rfl := Option.some.inj hy
     refine ⟨rfl, ⟨List.pairwise_singleton _ _, fun h hh => ?_⟩, ?_, by rfl⟩
     · rw [List.mem_singleton.1 hh]
       refine ⟨⟨(by show (0 : Int) ≤ 1; decide), (by show (1 : Int) < 16; decide)⟩, (by show 1 ≤ 8; decide), List.pairwise_singleton _ _, fun l hl => ?_⟩
       rw [List.mem_singleton.1 hl]
       rfl
     · refine ⟨List.pairwise_singleton _ _, fun s hs => ?_⟩
       rw [List.mem_singleton.1 hs]
       exact ⟨by decide, by decide⟩
   · obtain rfl := Option.some.inj hy
     refine ⟨rfl, ⟨List.pairwise_singleton _ _, fun h hh => ?_⟩, ?_, by rfl⟩
     · rw [List.mem_singleton.1 hh]
       refine ⟨⟨(by show (0 : Int) ≤ 0; decide), (by show (0 : Int) < 16; decide)⟩, (by show 1 ≤ 8; decide), List.pairwise_singleton _ _, fun l hl => ?_⟩
       rw [List.mem_singleton.1 hl]
       rfl
     · refine ⟨List.pairwise_singleton _ _, fun s hs => ?_⟩
       rw [List.mem_singleton.1 hs]
       exact ⟨by decide, by decide⟩
 · intro i y hy hb
   have hi : i < 2 := (List.getElem?_eq_some_iff.1 hy).1
   have : i = 0 ∨ i = 1 := by omega
   rcases this with rfl | rfl <;> cases hb
theorem aw_groups : (groupsB (aw2 g3 g4 A7 a b c d e a' b' c' d' e')).length = 1 := by
 have h1 : grps 2 (heldN (aw2 g3 g4 A7 a b c d e a' b' c' d' e')) (upB (aw2 g3 g4 A7 a b c d e a' b' c' d' e')) 1 = [grp 2 (heldN (aw2 g3 g4 A7 a b c d e a' b' c' d' e')) 0] := grps_next_yes (k := 0) (aw_up g3 g4 A7 a b c d e a' b' c' d' e' 0 (by decide)) rfl
 have h2 : inG (grps 2 (heldN (aw2 g3 g4 A7 a b c d e a' b' c' d' e')) (upB (aw2 g3 g4 A7 a b c d e a' b' c' d' e')) 1) 1 = true := by
  rw [h1, inG_mem]
  exact ⟨_, List.mem_cons_self, mem_grp.2 ⟨by decide, (Rch.refl _ _ _).step (by decide) (aw_h01 ..)⟩⟩
 show (grps 2 (heldN (aw2 g3 g4 A7 a b c d e a' b' c' d' e')) (upB (aw2 g3 g4 A7 a b c d e a' b' c' d' e')) 2).length = 1
 rw [grps_next_no (.inr h2), h1]
 rfl
end
theorem rows_two {w : World} {B g : Nat} {u v : Nd} (h : LocX encNN w g (u, v)) (hB : g < B) : RowsE encN 8 w B (some ⟨g, 0, none⟩) 2 [u, v] := by
 refine ⟨rfl, fun _ => ⟨_, rfl, hB, fun j x hx i t ht => ?_⟩⟩
 have hj : j < 2 := (List.getElem?_eq_some_iff.1 hx).1
 have hi : i < 8 := (List.getElem?_eq_some_iff.1 ht).1
 rw [Addr.add_lit, Addr.add_lit, Nat.zero_add]
 have : j = 0 ∨ j = 1 := by omega
 rcases this with rfl | rfl
 · obtain rfl := Option.some.inj hx
   rw [Nat.zero_mul, Nat.zero_add]
   exact (h.2 i t (by show (encN u ++ encN v)[i]? = _; rw [List.getElem?_append_left (by exact hi)]; exact ht)).1
 · obtain rfl := Option.some.inj hx
   rw [Nat.one_mul]
   exact (h.2 (8 + i) t (by show (encN u ++ encN v)[8 + i]? = _; rw [List.getElem?_append_right (by show 8 ≤ 8 + i; omega)]; have e : 8 + i - (encN u).length = i := by (show 8 + i - 8 = i); omega
                            rw [e]; exact ht)).1
theorem rows_ups {w : World} {B g : Nat} (h : LocX encBs w g [true, true]) (hB : g < B) : RowsE encB 1 w B (some ⟨g, 0, none⟩) 2 [true, true] := by
 refine ⟨rfl, fun _ => ⟨_, rfl, hB, fun j x hx i t ht => ?_⟩⟩
 have hj : j < 2 := (List.getElem?_eq_some_iff.1 hx).1
 have hi : i < 1 := (List.getElem?_eq_some_iff.1 ht).1
 obtain rfl : i = 0 := by omega
 rw [Addr.add_lit, Addr.add_lit, Nat.zero_add, Nat.mul_one]
 have : j = 0 ∨ j = 1 := by omega
 rcases this with rfl | rfl
 · obtain rfl := Option.some.inj hx; exact (h.2 0 t ht).1
 · obtain rfl := Option.some.inj hx; exact (h.2 1 t ht).1
section
variable (g3 g4 : Nat) (A7 : Option Addr) (a b c d e a' b' c' d' e' : Nat)
theorem awc_sums (W : World) (hx : WdOk W (aw2 g3 g4 A7 a b c d e a' b' c' d' e')) (A : Option Addr) (cp : Nat) (hr : RowsE encI 1 W W.heap.size A 2 [1, 0]) : Calls Tryz.prog 21 #[(.agg #[.slice (some ⟨g3, 0, none⟩) 2 2, .slice (some ⟨g4, 0, none⟩) 2 2, .slice A7 2 2, .int .i64 0, .slice none 0 0, .slice none 0 0, .int .i64 0]), .slice A 2 cp, .string ⟨#[109]⟩] W fun e w' => e = .returned (.tuple #[.int .i64 10, .int .i64 10, .int .i64 0]) ∧ Below W.heap.size W w' := by
 have h := vsums_any _ awM A 2 cp [1, 0] W hx hr (by decide)
 rw [aw_sums] at h
 exact h
theorem awc_sq (W : World) (hx : WdOk W (aw2 g3 g4 A7 a b c d e a' b' c' d' e')) : Calls Tryz.prog 32 #[(.agg #[.slice (some ⟨g3, 0, none⟩) 2 2, .slice (some ⟨g4, 0, none⟩) 2 2, .slice A7 2 2, .int .i64 0, .slice none 0 0, .slice none 0 0, .int .i64 0]), .string ⟨#[109]⟩] W fun e w' => e = .returned (.tuple #[.agg #[.int .u64 0, .int .u64 50], .int .i64 0]) ∧ Below W.heap.size W w' := by
 have h := vsquares_any _ awM W hx
 rw [aw_vE, aw_vL, aw_sq] at h
 exact h
theorem awc_held (W : World) (hx : WdOk W (aw2 g3 g4 A7 a b c d e a' b' c' d' e')) : Calls Tryz.prog 12 #[(.agg #[.slice (some ⟨g3, 0, none⟩) 2 2, .slice (some ⟨g4, 0, none⟩) 2 2, .slice A7 2 2, .int .i64 0, .slice none 0 0, .slice none 0 0, .int .i64 0]), .int .i64 0, .int .i64 1] W fun e w' => e = .returned (.bool true) ∧ Below W.heap.size W w' := by
 have h := held_any _ 0 1 W hx
 rw [aw_held] at h
 exact h
theorem awc_agr (W : World) (hx : WdOk W (aw2 g3 g4 A7 a b c d e a' b' c' d' e')) : Calls Tryz.prog 13 #[(.agg #[.slice (some ⟨g3, 0, none⟩) 2 2, .slice (some ⟨g4, 0, none⟩) 2 2, .slice A7 2 2, .int .i64 0, .slice none 0 0, .slice none 0 0, .int .i64 0]), .int .i64 1, .int .i64 0, .string ⟨#[109]⟩] W fun e w' => e = .returned (.bool true) ∧ Below W.heap.size W w' := by
 have h := agreed_any _ 1 0 awM W hx
 rw [aw_agr] at h
 exact h
theorem awc_every (W : World) (hx : WdOk W (aw2 g3 g4 A7 a b c d e a' b' c' d' e')) : Calls Tryz.prog 37 #[(.agg #[.slice (some ⟨g3, 0, none⟩) 2 2, .slice (some ⟨g4, 0, none⟩) 2 2, .slice A7 2 2, .int .i64 0, .slice none 0 0, .slice none 0 0, .int .i64 0]), .string ⟨#[109]⟩] W fun e w' => e = .returned (.bool true) ∧ Below W.heap.size W w' := by
 have h := vevery_any _ awM W hx
 rw [aw_every] at h
 exact h
theorem awc_cl1 (W : World) (hx : WdOk W (aw2 g3 g4 A7 a b c d e a' b' c' d' e')) (A : Option Addr) (cp : Nat) (hc : 2 ≤ cp) (hr : RowsE encI 1 W W.heap.size A 2 [1, 0]) : Calls Tryz.prog 23 #[(.agg #[.slice (some ⟨g3, 0, none⟩) 2 2, .slice (some ⟨g4, 0, none⟩) 2 2, .slice A7 2 2, .int .i64 0, .slice none 0 0, .slice none 0 0, .int .i64 0]), .slice A 2 cp, .string ⟨#[109]⟩] W fun e w' => e = .returned (.bool true) ∧ Below W.heap.size W w' := by
 have h := vclosed_any _ awM A 2 cp [1, 0] W hx hr hc (by decide)
 rw [aw_cl1] at h
 exact h
theorem awc_cl2 (W : World) (hx : WdOk W (aw2 g3 g4 A7 a b c d e a' b' c' d' e')) (A : Option Addr) (cp : Nat) (hc : 1 ≤ cp) (hr : RowsE encI 1 W W.heap.size A 1 [0]) : Calls Tryz.prog 23 #[(.agg #[.slice (some ⟨g3, 0, none⟩) 2 2, .slice (some ⟨g4, 0, none⟩) 2 2, .slice A7 2 2, .int .i64 0, .slice none 0 0, .slice none 0 0, .int .i64 0]), .slice A 1 cp, .string ⟨#[109]⟩] W fun e w' => e = .returned (.bool false) ∧ Below W.heap.size W w' := by
 have h := vclosed_any _ awM A 1 cp [0] W hx hr hc (by decide)
 rw [aw_cl2] at h
 exact h
theorem awc_edges (W : World) (hx : WdOk W (aw2 g3 g4 A7 a b c d e a' b' c' d' e')) : Calls Tryz.prog 17 #[(.agg #[.slice (some ⟨g3, 0, none⟩) 2 2, .slice (some ⟨g4, 0, none⟩) 2 2, .slice A7 2 2, .int .i64 0, .slice none 0 0, .slice none 0 0, .int .i64 0])] W fun e w' => (∃ A c, e = .returned (.slice A 1 c)) ∧ Below W.heap.size W w' := by
 have h : Calls Tryz.prog 17 #[WdV (aw2 g3 g4 A7 a b c d e a' b' c' d' e')] W fun e w' => (∃ A c, e = .returned (.slice A 1 c)) ∧ Below W.heap.size W w' := by
  refine Calls.mono (P := Tryz.prog) (edges_any _ W hx) ?_
  rintro en w' ⟨A, cq, he, _, hb⟩
  refine ⟨⟨A, cq, ?_⟩, hb⟩
  rw [he]
  rw [show (allE (heldN (aw2 g3 g4 A7 a b c d e a' b' c' d' e')) (Wd.nn (aw2 g3 g4 A7 a b c d e a' b' c' d' e')) (Wd.nn (aw2 g3 g4 A7 a b c d e a' b' c' d' e'))).length = 1 from aw_edges ..]
 exact h
theorem awc_open (W : World) (hx : WdOk W (aw2 g3 g4 A7 a b c d e a' b' c' d' e')) : Calls Tryz.prog 19 #[(.agg #[.slice (some ⟨g3, 0, none⟩) 2 2, .slice (some ⟨g4, 0, none⟩) 2 2, .slice A7 2 2, .int .i64 0, .slice none 0 0, .slice none 0 0, .int .i64 0]), .string ⟨#[109]⟩] W fun e w' => (∃ A c, e = .returned (.slice A 0 c)) ∧ Below W.heap.size W w' := by
 have h : Calls Tryz.prog 19 #[WdV (aw2 g3 g4 A7 a b c d e a' b' c' d' e'), .string awM] W fun e w' => (∃ A c, e = .returned (.slice A 0 c)) ∧ Below W.heap.size W w' := by
  refine Calls.mono (P := Tryz.prog) (open_any _ awM W hx) ?_
  rintro en w' ⟨A, cq, he, _, hb⟩
  refine ⟨⟨A, cq, ?_⟩, hb⟩
  rw [he]
  rw [show ((allE (heldN (aw2 g3 g4 A7 a b c d e a' b' c' d' e')) (Wd.nn (aw2 g3 g4 A7 a b c d e a' b' c' d' e')) (Wd.nn (aw2 g3 g4 A7 a b c d e a' b' c' d' e'))).filter (openP (aw2 g3 g4 A7 a b c d e a' b' c' d' e') awM)).length = 0 from aw_open ..]
 exact h
theorem awc_groups (W : World) (hx : WdOk W (aw2 g3 g4 A7 a b c d e a' b' c' d' e')) : Calls Tryz.prog 26 #[(.agg #[.slice (some ⟨g3, 0, none⟩) 2 2, .slice (some ⟨g4, 0, none⟩) 2 2, .slice A7 2 2, .int .i64 0, .slice none 0 0, .slice none 0 0, .int .i64 0])] W fun e w' => (∃ A c, e = .returned (.slice A 1 c)) ∧ Below W.heap.size W w' := by
 have h : Calls Tryz.prog 26 #[WdV (aw2 g3 g4 A7 a b c d e a' b' c' d' e')] W fun e w' => (∃ A c, e = .returned (.slice A 1 c)) ∧ Below W.heap.size W w' := by
  refine Calls.mono (P := Tryz.prog) (vgroups_any _ W hx) ?_
  rintro en w' ⟨A, N, c, gs, he, hg, hgs, hb⟩
  refine ⟨⟨A, c, ?_⟩, hb⟩
  have h1 : gs.length = N := hgs.1.1
  have h2 : gs.length = 1 := by rw [← List.length_map (f := Gr.mem), hg, aw_groups]
  rw [he, ← h1, h2]
 exact h
theorem awc_seats (W : World) (hx : WdOk W (aw2 g3 g4 A7 a b c d e a' b' c' d' e')) : Calls Tryz.prog 35 #[(.agg #[.slice (some ⟨g3, 0, none⟩) 2 2, .slice (some ⟨g4, 0, none⟩) 2 2, .slice A7 2 2, .int .i64 0, .slice none 0 0, .slice none 0 0, .int .i64 0]), .string ⟨#[109]⟩] W fun e w' => (∃ A c, e = .returned (.slice A 2 c)) ∧ Below W.heap.size W w' := by
 have h : Calls Tryz.prog 35 #[WdV (aw2 g3 g4 A7 a b c d e a' b' c' d' e'), .string awM] W fun e w' => (∃ A c, e = .returned (.slice A 2 c)) ∧ Below W.heap.size W w' := by
  refine Calls.mono (P := Tryz.prog) (vseats_any _ awM W hx) ?_
  rintro en w' ⟨A, n, c, he, hn, _, hb⟩
  refine ⟨⟨A, c, ?_⟩, hb⟩
  rw [aw_seats] at hn
  rw [he, ← hn]
 exact h
end
theorem rows_lit2 {w : World} {x y : Int} {t : TypeId} : RowsE encI 1 (w.alloc (.cells #[.int .i64 x, .int .i64 y] t)) (w.alloc (.cells #[.int .i64 x, .int .i64 y] t)).heap.size (some ⟨w.heap.size, 0, none⟩) 2 [x, y] := by
 have h := World.ownsRow_lit (base := w.heap.size) (e := t) (size := 1) w #[.int .i64 x, .int .i64 y] 2 (Nat.le_refl _) (by decide) rfl
 have h2 : OwnE encI 1 t (w.alloc (.cells #[.int .i64 x, .int .i64 y] t)) w.heap.size (.slice (some ⟨w.heap.size, 0, none⟩) 2 2) [x, y] := h
 obtain ⟨A, c, e, h3⟩ := OwnE.at_ encI_len h2
 injection e with e1 e2 e3
 rw [e1]
 exact h3
theorem rows_lit1 {w : World} {x : Int} {t : TypeId} : RowsE encI 1 (w.alloc (.cells #[.int .i64 x] t)) (w.alloc (.cells #[.int .i64 x] t)).heap.size (some ⟨w.heap.size, 0, none⟩) 1 [x] := by
 have h := World.ownsRow_lit (base := w.heap.size) (e := t) (size := 1) w #[.int .i64 x] 1 (Nat.le_refl _) (by decide) rfl
 have h2 : OwnE encI 1 t (w.alloc (.cells #[.int .i64 x] t)) w.heap.size (.slice (some ⟨w.heap.size, 0, none⟩) 1 1) [x] := h
 obtain ⟨A, c, e, h3⟩ := OwnE.at_ encI_len h2
 injection e with e1 e2 e3
 rw [e1]
 exact h3
end Go.Proofs.YtkfodkbgmpbmfaaGreat
