/- Chapter 22, parts on the way: VwU -/
import Derived.Test.YtkfodkbgmpbmfaaGreatB01
import Derived.Test.YtkfodkbgmpbmfaaGreatB14
import Derived.Test.YtkfodkbgmpbmfaaGreatB16
import Derived.Test.YtkfodkbgmpbmfaaGreatB17
set_option linter.unusedVariables false
set_option linter.unusedSimpArgs false
namespace Go.Proofs.YtkfodkbgmpbmfaaGreat
open Go.RowKit
set_option linter.unusedVariables false
set_option linter.unusedSimpArgs false
set_option maxRecDepth 100000
theorem KeptC.lowV {w W : World} {l : List (Addr × Value)} {F : List Addr} (h : KeptC w l F W) : Below w.heap.size w W := h.1
theorem HfOk.ln {w : World} {B : Nat} {A : Option Addr} {n : Nat} {hs : List Hf} {i : Int} (h : HfsAt w B A n hs) (hk : HfsOk i hs) : ∀ x ∈ hs, x.ln ≤ 1000 := fun x hx => by
 have h1 := (h.2 x hx).1.1
 have h2 := (hk.2 x hx).2.1
 omega
theorem NdAt.hn {w : World} {B i : Nat} {x : Nd} (h : NdAt w B x) (f : FitNd i x) : x.hn ≤ 1000 ∧ x.sn ≤ 1000 ∧ x.cn ≤ 1000 := by
 have h1 := h.2.2.1.1.1
 have h2 := f.hs.len
 have h3 := h.2.1.1
 have h4 := f.sn.len
 have h5 := h.2.2.2.1.1
 have h6 : fitsB (x.chans.map St.ch) = true := by have := f.ch; unfold stsB at this; simp only [Bool.and_eq_true] at this; exact this.2.2.1
 have h7 := (fit_of_fits h6).1
 rw [List.length_map] at h7
 omega
def NamesPost (u v : Nd) (w : World) (e : Ending) (w' : World) : Prop := Below w.heap.size w w' ∧ match getH u.halves v.id with
 | none => e = .returned (.tuple #[HfV Hf0, .bool false])
 | some h => ∃ A2 c2, e = .returned (.tuple #[HfV { h with la := A2, lc := c2 }, .bool (namesB u v)]) ∧ OwnE encLn 4 92 w' w.heap.size (.slice A2 h.ln c2) h.lines
set_option maxHeartbeats 8000000 in
theorem names_any (u v : Nd) (i j : Nat) (w : World) (hu : NdAt w w.heap.size u) (hv : NdAt w w.heap.size v) (fu : FitNd i u) (fv : FitNd j v) (hj : j < 16) :
    Calls Tryz.prog 86 #[NdV u, NdV v] w (NamesPost u v w) := by
 have hnu := hu.hn fu
 have hnv := hv.hn fv
 have CF := Lib.hid (fun W (hb : Below w.heap.size w W) => hfind_any u.ha u.hn u.hc u.halves v.id W ((hu.2.2.1.below hb).more hb.size) fu.hs.1 hnu.1 (HfOk.ln hu.2.2.1 fu.hs) (fun h hh => (fu.hs.2 h hh).1) (by rw [fv.id]; omega) (by rw [fv.id]; omega))
 have CG := Lib.hid (fun W (hb : Below w.heap.size w W) => sget_any v.sa v.sn v.sc v.seen u.id W ((hv.2.1.below hb).more hb.size) fv.sn.1 hnv.2.1)
 have HN : Hid (namesB u v = match getH u.halves v.id with | none => false | some h => decide (h.boot = v.boot) && decide (h.life = (getSn v.seen u.id).mine)) := Lib.hid (by unfold namesB; cases getH u.halves v.id <;> rfl)
 unfold NamesPost
 rw [HN.out]
 clear HN hu hv fu fv hnu hnv
 generalize getH u.halves v.id = o at CF ⊢
 generalize getSn v.seen u.id = s at CG ⊢
 go_enter Tryz.func86, Tryz.ntmps86
 go_wp2_with (fail)
 refine (CF.out _ Qb).mono ?_; intro e w1 hf
 clear CF
 cases o with
 | none =>
  obtain ⟨rfl, hb1⟩ := hf
  have hk1 : KeptC w [(⟨w.heap.size, 0, none⟩, .int .i64 u.id), (⟨w.heap.size + 1, 1, none⟩, .int .i64 v.boot), (⟨w.heap.size + 1, 5, none⟩, .slice v.sa v.sn v.sc), (⟨w.heap.size + 2, 0, none⟩, .int .i64 0), (⟨w.heap.size + 2, 1, none⟩, .int .i64 0), (⟨w.heap.size + 2, 2, none⟩, .int .i64 0), (⟨w.heap.size + 2, 3, none⟩, .slice none 0 0), (⟨w.heap.size + 2, 4, none⟩, .bool false), (⟨w.heap.size + 2, 5, none⟩, .int .i64 0)] [⟨w.heap.size + 2, 0, none⟩, ⟨w.heap.size + 2, 1, none⟩, ⟨w.heap.size + 2, 2, none⟩, ⟨w.heap.size + 2, 3, none⟩, ⟨w.heap.size + 2, 4, none⟩, ⟨w.heap.size + 2, 5, none⟩] w1 := by
   refine KeptC.below ?_ hb1
   exact Qk
  simp only [KeptC, List.forall_mem_cons] at hk1; obtain ⟨kb1, ⟨kc1_0, kc1_1, kc1_2, kc1_3, kc1_4, kc1_5, kc1_6, kc1_7, kc1_8, _⟩, ⟨kz1_0, kg1_0⟩, ⟨kz1_1, kg1_1⟩, ⟨kz1_2, kg1_2⟩, ⟨kz1_3, kg1_3⟩, ⟨kz1_4, kg1_4⟩, ⟨kz1_5, kg1_5⟩, _⟩ := hk1
  have hz1 : w.heap.size < w1.heap.size := cell_lt kc1_0
  have hz2 : w.heap.size + 1 < w1.heap.size := cell_lt kc1_1
  have hz3 : w.heap.size + 2 < w1.heap.size := cell_lt kc1_3
  clear hb1
  go_wp2_with (fail)
  have HOB : Hid (∀ A C : World, True → Below A.heap.size A C → True) := Lib.hid (fun _ _ h _ => h); have HOS : Hid (∀ (A : World) (i : Nat) (v : Value), True → True) := Lib.hid (fun _ _ _ h => h); have HOI : Hid True := Lib.hid trivial
  have NL1 : Hid (∀ x ∈ ([(⟨w.heap.size, 0, none⟩, .int .i64 u.id), (⟨w.heap.size + 1, 1, none⟩, .int .i64 v.boot), (⟨w.heap.size + 1, 5, none⟩, .slice v.sa v.sn v.sc), (⟨w1.heap.size, 0, none⟩, .int .i64 0), (⟨w1.heap.size, 1, none⟩, .int .i64 0), (⟨w1.heap.size, 2, none⟩, .int .i64 0), (⟨w1.heap.size, 3, none⟩, .slice none 0 0), (⟨w1.heap.size, 4, none⟩, .bool false), (⟨w1.heap.size, 5, none⟩, .int .i64 0)] : List (Addr × Value)), x.1.block ≠ w.heap.size + 2) := Lib.hid (by intro x hx; simp only [List.mem_cons, List.not_mem_nil, or_false] at hx; rcases hx with rfl | rfl | rfl | rfl | rfl | rfl | rfl | rfl | rfl <;> first | (simp only []; omega) | (simp; omega))
  have NB1 : Hid (w.heap.size ≤ w.heap.size + 2) := Lib.hid (by omega)
  have NB2 : Hid (w.heap.size ≤ w.heap.size + 2) := Lib.hid (by omega)
  refine wp_region_S (KS w [(⟨w.heap.size, 0, none⟩, .int .i64 u.id), (⟨w.heap.size + 1, 1, none⟩, .int .i64 v.boot), (⟨w.heap.size + 1, 5, none⟩, .slice v.sa v.sn v.sc), (⟨w1.heap.size, 0, none⟩, .int .i64 0), (⟨w1.heap.size, 1, none⟩, .int .i64 0), (⟨w1.heap.size, 2, none⟩, .int .i64 0), (⟨w1.heap.size, 3, none⟩, .slice none 0 0), (⟨w1.heap.size, 4, none⟩, .bool false), (⟨w1.heap.size, 5, none⟩, .int .i64 0)] [⟨w.heap.size + 2, 0, none⟩, ⟨w.heap.size + 2, 1, none⟩, ⟨w.heap.size + 2, 2, none⟩, ⟨w.heap.size + 2, 3, none⟩, ⟨w.heap.size + 2, 4, none⟩, ⟨w.heap.size + 2, 5, none⟩] [(⟨w.heap.size + 2, 0, none⟩, .int .i64 0), (⟨w.heap.size + 2, 1, none⟩, .int .i64 0), (⟨w.heap.size + 2, 2, none⟩, .int .i64 0), (⟨w.heap.size + 2, 3, none⟩, .slice none 0 0), (⟨w.heap.size + 2, 4, none⟩, .bool false), (⟨w.heap.size + 2, 5, none⟩, .int .i64 0)] [(⟨w.heap.size + 2, 0, none⟩, .int .i64 0), (⟨w.heap.size + 2, 1, none⟩, .int .i64 0), (⟨w.heap.size + 2, 2, none⟩, .int .i64 0), (⟨w.heap.size + 2, 3, none⟩, .slice none 0 0), (⟨w.heap.size + 2, 4, none⟩, .bool false), (⟨w.heap.size + 2, 5, none⟩, .int .i64 0)] [] [] (fun _ => True)) (20, 20) (by kernel_rfl) (by kernel_rfl) (by simp) ?_ ?_
  · refine ⟨KeptC.drewn ?_, KeptC.drewn ?_, KeptC.drewn ?_, ?_⟩
    · exact Qk1 kb1
    · simp only [Bool.false_eq_true, if_false]; exact Qk1 kb1
    · simp only [Bool.false_eq_true, if_false]; exact Qk1 kb1
    · exact trivial
  try simp only [List.append_eq, List.cons_append, List.nil_append]
  repeat (first
   | (refine S_skip rfl rfl ?_; (simp only [Act.put, List.setIfInBounds_toArray, List.set_cons_zero, List.set_cons_succ]))
   | (apply S_run rfl rfl; (· intro b w' hw'; (have hk' := hw'.1; simp only [KeptC, List.forall_mem_cons] at hk'; go_split_ands); go_simp; first | done | rfl); (simp only [Act.put, List.setIfInBounds_toArray, List.set_cons_zero, List.set_cons_succ]))
   | (apply S_call rfl rfl; (· intro b w' hw'; go_simp; first | done | exact ⟨rfl, rfl⟩ | rfl); (· intro b w' hw'; first | ((with_reducible refine (fail).mono ?_); rintro e w2 ⟨rfl, hb⟩; exact ⟨rfl, hw'.below HOB.out hb⟩)); (simp only [Act.put, List.setIfInBounds_toArray, List.set_cons_zero, List.set_cons_succ]))
   | (refine S_store rfl ?_ ?_; (· intro b w' hw'; (have hk' := hw'.1; simp only [KeptC, List.forall_mem_cons] at hk'; go_split_ands); have hr' := hw'.2.1; have hq' := hw'.2.2.1; have hb' := hw'.1.1; obtain ⟨b1, b2⟩ := b; cases b1 <;> cases b2 <;> (simp only [Bool.false_eq_true, if_false, if_true] at hr' hq'; have hr3 := hr'; have hq3 := hq'; simp only [KeptC, List.forall_mem_cons] at hr' hq'; go_split_ands; apply Exists.intro; apply And.intro; (· go_simp; first | done | rfl); refine ⟨?_, ?_, ?_, ?_⟩; (· (repeat (first | with_reducible refine KeptC.setN ?_ NB1.out NL1.out)); exact hw'.1); (· simp only [sgS, Nat.reduceBEq, Bool.or_true, Bool.or_false, Bool.true_or, Bool.false_or, Bool.false_eq_true, if_true, if_false]; first | (skip; with_reducible exact hr3) | (exact Qk1 hb')); (· simp only [sgS, Nat.reduceBEq, Bool.or_true, Bool.or_false, Bool.true_or, Bool.false_or, Bool.false_eq_true, if_true, if_false]; first | (skip; with_reducible exact hq3) | (exact Qk1 hb')); (· (repeat (first | with_reducible refine HOS.out _ _ _ ?_ | with_reducible refine HOT.out _ _ _ ?_)); exact hw'.2.2.2))); (simp only [Act.put, List.setIfInBounds_toArray, List.set_cons_zero, List.set_cons_succ])))
  unfold wpQuietS
  intro w9 hw'
  obtain ⟨hk9, hr9, hs9, ho9⟩ := hw'
  have HO9 := Lib.hid ho9
  clear ho9
  simp only [if_true] at hr9 hs9
  (have hk' := hk9; simp only [KeptC, List.forall_mem_cons] at hk'; go_split_ands); (have hr' := hr9; simp only [KeptC, List.forall_mem_cons] at hr'; go_split_ands); (have hs' := hs9; simp only [KeptC, List.forall_mem_cons] at hs'; go_split_ands); have hkB9 := hk9.1
  go_wp2
  refine bodyPost_ret (v := .tuple #[HfV Hf0, .bool false]) (by simp [results, Tryz.results86, go_sem, *]) rfl ⟨hkB9, rfl⟩
 | some h =>
  obtain ⟨A2, c2, rfl, ho, hb1⟩ := hf
  have hk1 : KeptC w [(⟨w.heap.size, 0, none⟩, .int .i64 u.id), (⟨w.heap.size + 1, 1, none⟩, .int .i64 v.boot), (⟨w.heap.size + 1, 5, none⟩, .slice v.sa v.sn v.sc), (⟨w.heap.size + 2, 0, none⟩, .int .i64 0), (⟨w.heap.size + 2, 1, none⟩, .int .i64 0), (⟨w.heap.size + 2, 2, none⟩, .int .i64 0), (⟨w.heap.size + 2, 3, none⟩, .slice none 0 0), (⟨w.heap.size + 2, 4, none⟩, .bool false), (⟨w.heap.size + 2, 5, none⟩, .int .i64 0)] [⟨w.heap.size + 2, 0, none⟩, ⟨w.heap.size + 2, 1, none⟩, ⟨w.heap.size + 2, 2, none⟩, ⟨w.heap.size + 2, 3, none⟩, ⟨w.heap.size + 2, 4, none⟩, ⟨w.heap.size + 2, 5, none⟩] w1 := by
   refine KeptC.below ?_ hb1
   exact Qk
  simp only [KeptC, List.forall_mem_cons] at hk1; obtain ⟨kb1, ⟨kc1_0, kc1_1, kc1_2, kc1_3, kc1_4, kc1_5, kc1_6, kc1_7, kc1_8, _⟩, ⟨kz1_0, kg1_0⟩, ⟨kz1_1, kg1_1⟩, ⟨kz1_2, kg1_2⟩, ⟨kz1_3, kg1_3⟩, ⟨kz1_4, kg1_4⟩, ⟨kz1_5, kg1_5⟩, _⟩ := hk1
  have hz1 : w.heap.size < w1.heap.size := cell_lt kc1_0
  have hz2 : w.heap.size + 1 < w1.heap.size := cell_lt kc1_1
  have hz3 : w.heap.size + 2 < w1.heap.size := cell_lt kc1_3
  obtain ⟨B4, hB4, hl3⟩ : ∃ B4, w.heap.size + 2 < B4 ∧ OwnE encLn 4 92 w1 B4 (.slice A2 h.ln c2) h.lines := ⟨_, by simp, ho⟩
  obtain ⟨pe, bo, li, hla, hln, hlc, pd, mi, ls⟩ := h
  obtain ⟨sp, sb, sl2, sm⟩ := s
  have HOI : Hid (OwnE encLn 4 92 (w1.alloc (Obj.cells #[.int .i64 pe, .int .i64 bo, .int .i64 li, .slice A2 hln c2, .bool pd, .int .i64 mi] 59)) B4 (.slice A2 hln c2) ls) := Lib.hid (OwnE.below hl3 ((Below.refl _ _).alloc (Nat.le_refl _) _))
  have HOB : Hid (∀ A C : World, OwnE encLn 4 92 A B4 (.slice A2 hln c2) ls → Below A.heap.size A C → OwnE encLn 4 92 C B4 (.slice A2 hln c2) ls) := Lib.hid (fun _ _ h hb => OwnE.below h hb)
  have HOS : Hid (∀ (A : World) (i : Nat) (x : Value), OwnE encLn 4 92 A B4 (.slice A2 hln c2) ls → OwnE encLn 4 92 (A.setCell ⟨w.heap.size + 1 + 1, i, none⟩ x) B4 (.slice A2 hln c2) ls) := Lib.hid (fun _ _ _ h => OwnE.setc' h (by show w.heap.size + 1 + 1 < B4; omega) _)
  simp only [] at CG ⊢
  clear hb1 ho hl3
  have hd1 : (bo == v.boot) = decide (bo = v.boot) := rfl
  have hd2 : (li == sm) = decide (li = sm) := rfl
  cases h1 : decide (bo = v.boot) with
  | false =>
   rw [h1] at hd1
   go_wp2_with (fail)
   have NL1 : Hid (∀ x ∈ ([(⟨w.heap.size, 0, none⟩, .int .i64 u.id), (⟨w.heap.size + 1, 1, none⟩, .int .i64 v.boot), (⟨w.heap.size + 1, 5, none⟩, .slice v.sa v.sn v.sc), (⟨w1.heap.size, 0, none⟩, .int .i64 pe), (⟨w1.heap.size, 1, none⟩, .int .i64 bo), (⟨w1.heap.size, 2, none⟩, .int .i64 li), (⟨w1.heap.size, 3, none⟩, .slice A2 hln c2), (⟨w1.heap.size, 4, none⟩, .bool pd), (⟨w1.heap.size, 5, none⟩, .int .i64 mi)] : List (Addr × Value)), x.1.block ≠ w.heap.size + 2) := Lib.hid (by intro x hx; simp only [List.mem_cons, List.not_mem_nil, or_false] at hx; rcases hx with rfl | rfl | rfl | rfl | rfl | rfl | rfl | rfl | rfl <;> first | (simp only []; omega) | (simp; omega))
   have NB1 : Hid (w.heap.size ≤ w.heap.size + 2) := Lib.hid (by omega)
   have NB2 : Hid (w.heap.size ≤ w.heap.size + 2) := Lib.hid (by omega)
   refine wp_region_S (KS w [(⟨w.heap.size, 0, none⟩, .int .i64 u.id), (⟨w.heap.size + 1, 1, none⟩, .int .i64 v.boot), (⟨w.heap.size + 1, 5, none⟩, .slice v.sa v.sn v.sc), (⟨w1.heap.size, 0, none⟩, .int .i64 pe), (⟨w1.heap.size, 1, none⟩, .int .i64 bo), (⟨w1.heap.size, 2, none⟩, .int .i64 li), (⟨w1.heap.size, 3, none⟩, .slice A2 hln c2), (⟨w1.heap.size, 4, none⟩, .bool pd), (⟨w1.heap.size, 5, none⟩, .int .i64 mi)] [⟨w.heap.size + 2, 0, none⟩, ⟨w.heap.size + 2, 1, none⟩, ⟨w.heap.size + 2, 2, none⟩, ⟨w.heap.size + 2, 3, none⟩, ⟨w.heap.size + 2, 4, none⟩, ⟨w.heap.size + 2, 5, none⟩] [(⟨w.heap.size + 2, 0, none⟩, .int .i64 0), (⟨w.heap.size + 2, 1, none⟩, .int .i64 0), (⟨w.heap.size + 2, 2, none⟩, .int .i64 0), (⟨w.heap.size + 2, 3, none⟩, .slice none 0 0), (⟨w.heap.size + 2, 4, none⟩, .bool false), (⟨w.heap.size + 2, 5, none⟩, .int .i64 0)] [(⟨w.heap.size + 2, 0, none⟩, .int .i64 pe), (⟨w.heap.size + 2, 1, none⟩, .int .i64 bo), (⟨w.heap.size + 2, 2, none⟩, .int .i64 li), (⟨w.heap.size + 2, 3, none⟩, .slice A2 hln c2), (⟨w.heap.size + 2, 4, none⟩, .bool pd), (⟨w.heap.size + 2, 5, none⟩, .int .i64 mi)] [] [] (fun W => OwnE encLn 4 92 W B4 (.slice A2 hln c2) ls)) (20, 20) (by kernel_rfl) (by kernel_rfl) (by simp) ?_ ?_
   · refine ⟨KeptC.drewn ?_, KeptC.drewn ?_, KeptC.drewn ?_, ?_⟩
     · exact Qk1 kb1
     · simp only [Bool.false_eq_true, if_false]; exact Qk1 kb1
     · simp only [Bool.false_eq_true, if_false]; exact Qk1 kb1
     · exact HOB.out _ _ HOI.out (Below.drew (Below.refl _ _))
   try simp only [List.append_eq, List.cons_append, List.nil_append]
   repeat (first
    | (refine S_skip rfl rfl ?_; (simp only [Act.put, List.setIfInBounds_toArray, List.set_cons_zero, List.set_cons_succ]))
    | (apply S_run rfl rfl; (· intro b w' hw'; (have hk' := hw'.1; simp only [KeptC, List.forall_mem_cons] at hk'; go_split_ands); go_simp; first | done | rfl); (simp only [Act.put, List.setIfInBounds_toArray, List.set_cons_zero, List.set_cons_succ]))
    | (apply S_call rfl rfl; (· intro b w' hw'; go_simp; first | done | exact ⟨rfl, rfl⟩ | rfl); (· intro b w' hw'; first | ((with_reducible refine (fail).mono ?_); rintro e w2 ⟨rfl, hb⟩; exact ⟨rfl, hw'.below HOB.out hb⟩)); (simp only [Act.put, List.setIfInBounds_toArray, List.set_cons_zero, List.set_cons_succ]))
    | (refine S_store rfl ?_ ?_; (· intro b w' hw'; (have hk' := hw'.1; simp only [KeptC, List.forall_mem_cons] at hk'; go_split_ands); have hr' := hw'.2.1; have hq' := hw'.2.2.1; have hb' := hw'.1.1; obtain ⟨b1, b2⟩ := b; cases b1 <;> cases b2 <;> (simp only [Bool.false_eq_true, if_false, if_true] at hr' hq'; have hr3 := hr'; have hq3 := hq'; simp only [KeptC, List.forall_mem_cons] at hr' hq'; go_split_ands; apply Exists.intro; apply And.intro; (· go_simp; first | done | rfl); refine ⟨?_, ?_, ?_, ?_⟩; (· (repeat (first | with_reducible refine KeptC.setN ?_ NB1.out NL1.out)); exact hw'.1); (· simp only [sgS, Nat.reduceBEq, Bool.or_true, Bool.or_false, Bool.true_or, Bool.false_or, Bool.false_eq_true, if_true, if_false]; first | (skip; with_reducible exact hr3) | (exact Qk1 hb')); (· simp only [sgS, Nat.reduceBEq, Bool.or_true, Bool.or_false, Bool.true_or, Bool.false_or, Bool.false_eq_true, if_true, if_false]; first | (skip; with_reducible exact hq3) | (exact Qk1 hb')); (· (repeat (first | with_reducible refine HOS.out _ _ _ ?_ | with_reducible refine HOT.out _ _ _ ?_)); exact hw'.2.2.2))); (simp only [Act.put, List.setIfInBounds_toArray, List.set_cons_zero, List.set_cons_succ])))
   unfold wpQuietS
   intro w9 hw'
   obtain ⟨hk9, hr9, hs9, ho9⟩ := hw'
   have HO9 := Lib.hid ho9
   clear ho9
   simp only [if_true] at hr9 hs9
   (have hk' := hk9; simp only [KeptC, List.forall_mem_cons] at hk'; go_split_ands); (have hr' := hr9; simp only [KeptC, List.forall_mem_cons] at hr'; go_split_ands); (have hs' := hs9; simp only [KeptC, List.forall_mem_cons] at hs'; go_split_ands); have hkB9 := hk9.1
   go_wp2
   refine bodyPost_ret (v := .tuple #[HfV ⟨pe, bo, li, A2, hln, c2, pd, mi, ls⟩, .bool false]) (by simp [results, Tryz.results86, go_sem, *]) rfl ⟨hkB9, A2, c2, rfl, OwnE.less HO9.out (by omega)⟩
  | true =>
   rw [h1] at hd1
   cases h2 : decide (li = sm) with
   | false =>
    rw [h2] at hd2
    go_wp2_with (fail)
    have NL1 : Hid (∀ x ∈ ([(⟨w.heap.size, 0, none⟩, .int .i64 u.id), (⟨w.heap.size + 1, 1, none⟩, .int .i64 v.boot), (⟨w.heap.size + 1, 5, none⟩, .slice v.sa v.sn v.sc), (⟨w1.heap.size, 0, none⟩, .int .i64 pe), (⟨w1.heap.size, 1, none⟩, .int .i64 bo), (⟨w1.heap.size, 2, none⟩, .int .i64 li), (⟨w1.heap.size, 3, none⟩, .slice A2 hln c2), (⟨w1.heap.size, 4, none⟩, .bool pd), (⟨w1.heap.size, 5, none⟩, .int .i64 mi)] : List (Addr × Value)), x.1.block ≠ w.heap.size + 2) := Lib.hid (by intro x hx; simp only [List.mem_cons, List.not_mem_nil, or_false] at hx; rcases hx with rfl | rfl | rfl | rfl | rfl | rfl | rfl | rfl | rfl <;> first | (simp only []; omega) | (simp; omega))
    have NB1 : Hid (w.heap.size ≤ w.heap.size + 2) := Lib.hid (by omega)
    have NB2 : Hid (w.heap.size ≤ w.heap.size + 2) := Lib.hid (by omega)
    refine wp_region_S (KS w [(⟨w.heap.size, 0, none⟩, .int .i64 u.id), (⟨w.heap.size + 1, 1, none⟩, .int .i64 v.boot), (⟨w.heap.size + 1, 5, none⟩, .slice v.sa v.sn v.sc), (⟨w1.heap.size, 0, none⟩, .int .i64 pe), (⟨w1.heap.size, 1, none⟩, .int .i64 bo), (⟨w1.heap.size, 2, none⟩, .int .i64 li), (⟨w1.heap.size, 3, none⟩, .slice A2 hln c2), (⟨w1.heap.size, 4, none⟩, .bool pd), (⟨w1.heap.size, 5, none⟩, .int .i64 mi)] [⟨w.heap.size + 2, 0, none⟩, ⟨w.heap.size + 2, 1, none⟩, ⟨w.heap.size + 2, 2, none⟩, ⟨w.heap.size + 2, 3, none⟩, ⟨w.heap.size + 2, 4, none⟩, ⟨w.heap.size + 2, 5, none⟩] [(⟨w.heap.size + 2, 0, none⟩, .int .i64 0), (⟨w.heap.size + 2, 1, none⟩, .int .i64 0), (⟨w.heap.size + 2, 2, none⟩, .int .i64 0), (⟨w.heap.size + 2, 3, none⟩, .slice none 0 0), (⟨w.heap.size + 2, 4, none⟩, .bool false), (⟨w.heap.size + 2, 5, none⟩, .int .i64 0)] [(⟨w.heap.size + 2, 0, none⟩, .int .i64 pe), (⟨w.heap.size + 2, 1, none⟩, .int .i64 bo), (⟨w.heap.size + 2, 2, none⟩, .int .i64 li), (⟨w.heap.size + 2, 3, none⟩, .slice A2 hln c2), (⟨w.heap.size + 2, 4, none⟩, .bool pd), (⟨w.heap.size + 2, 5, none⟩, .int .i64 mi)] [] [] (fun W => OwnE encLn 4 92 W B4 (.slice A2 hln c2) ls)) (20, 20) (by kernel_rfl) (by kernel_rfl) (by simp) ?_ ?_
    · refine ⟨KeptC.drewn ?_, KeptC.drewn ?_, KeptC.drewn ?_, ?_⟩
      · exact Qk1 kb1
      · simp only [Bool.false_eq_true, if_false]; exact Qk1 kb1
      · simp only [Bool.false_eq_true, if_false]; exact Qk1 kb1
      · exact HOB.out _ _ HOI.out (Below.drew (Below.refl _ _))
    try simp only [List.append_eq, List.cons_append, List.nil_append]
    repeat (first
     | (refine S_skip rfl rfl ?_; (simp only [Act.put, List.setIfInBounds_toArray, List.set_cons_zero, List.set_cons_succ]))
     | (apply S_run rfl rfl; (· intro b w' hw'; (have hk' := hw'.1; simp only [KeptC, List.forall_mem_cons] at hk'; go_split_ands); go_simp; first | done | rfl); (simp only [Act.put, List.setIfInBounds_toArray, List.set_cons_zero, List.set_cons_succ]))
     | (apply S_call rfl rfl; (· intro b w' hw'; go_simp; first | done | exact ⟨rfl, rfl⟩ | rfl); (· intro b w' hw'; first | ((with_reducible refine (CG.out _ hw'.lowS).mono ?_); rintro e w2 ⟨rfl, hb⟩; exact ⟨rfl, hw'.below HOB.out hb⟩)); (simp only [Act.put, List.setIfInBounds_toArray, List.set_cons_zero, List.set_cons_succ]))
     | (refine S_store rfl ?_ ?_; (· intro b w' hw'; (have hk' := hw'.1; simp only [KeptC, List.forall_mem_cons] at hk'; go_split_ands); have hr' := hw'.2.1; have hq' := hw'.2.2.1; have hb' := hw'.1.1; obtain ⟨b1, b2⟩ := b; cases b1 <;> cases b2 <;> (simp only [Bool.false_eq_true, if_false, if_true] at hr' hq'; have hr3 := hr'; have hq3 := hq'; simp only [KeptC, List.forall_mem_cons] at hr' hq'; go_split_ands; apply Exists.intro; apply And.intro; (· go_simp; first | done | rfl); refine ⟨?_, ?_, ?_, ?_⟩; (· (repeat (first | with_reducible refine KeptC.setN ?_ NB1.out NL1.out)); exact hw'.1); (· simp only [sgS, Nat.reduceBEq, Bool.or_true, Bool.or_false, Bool.true_or, Bool.false_or, Bool.false_eq_true, if_true, if_false]; first | (skip; with_reducible exact hr3) | (exact Qk1 hb')); (· simp only [sgS, Nat.reduceBEq, Bool.or_true, Bool.or_false, Bool.true_or, Bool.false_or, Bool.false_eq_true, if_true, if_false]; first | (skip; with_reducible exact hq3) | (exact Qk1 hb')); (· (repeat (first | with_reducible refine HOS.out _ _ _ ?_ | with_reducible refine HOT.out _ _ _ ?_)); exact hw'.2.2.2))); (simp only [Act.put, List.setIfInBounds_toArray, List.set_cons_zero, List.set_cons_succ])))
    unfold wpQuietS
    intro w9 hw'
    obtain ⟨hk9, hr9, hs9, ho9⟩ := hw'
    have HO9 := Lib.hid ho9
    clear ho9
    simp only [if_true] at hr9 hs9
    (have hk' := hk9; simp only [KeptC, List.forall_mem_cons] at hk'; go_split_ands); (have hr' := hr9; simp only [KeptC, List.forall_mem_cons] at hr'; go_split_ands); (have hs' := hs9; simp only [KeptC, List.forall_mem_cons] at hs'; go_split_ands); have hkB9 := hk9.1
    go_wp2
    refine bodyPost_ret (v := .tuple #[HfV ⟨pe, bo, li, A2, hln, c2, pd, mi, ls⟩, .bool false]) (by simp [results, Tryz.results86, go_sem, *]) rfl ⟨hkB9, A2, c2, rfl, OwnE.less HO9.out (by omega)⟩
   | true =>
    rw [h2] at hd2
    go_wp2_with (fail)
    have NL1 : Hid (∀ x ∈ ([(⟨w.heap.size, 0, none⟩, .int .i64 u.id), (⟨w.heap.size + 1, 1, none⟩, .int .i64 v.boot), (⟨w.heap.size + 1, 5, none⟩, .slice v.sa v.sn v.sc), (⟨w1.heap.size, 0, none⟩, .int .i64 pe), (⟨w1.heap.size, 1, none⟩, .int .i64 bo), (⟨w1.heap.size, 2, none⟩, .int .i64 li), (⟨w1.heap.size, 3, none⟩, .slice A2 hln c2), (⟨w1.heap.size, 4, none⟩, .bool pd), (⟨w1.heap.size, 5, none⟩, .int .i64 mi)] : List (Addr × Value)), x.1.block ≠ w.heap.size + 2) := Lib.hid (by intro x hx; simp only [List.mem_cons, List.not_mem_nil, or_false] at hx; rcases hx with rfl | rfl | rfl | rfl | rfl | rfl | rfl | rfl | rfl <;> first | (simp only []; omega) | (simp; omega))
    have NB1 : Hid (w.heap.size ≤ w.heap.size + 2) := Lib.hid (by omega)
    have NB2 : Hid (w.heap.size ≤ w.heap.size + 2) := Lib.hid (by omega)
    refine wp_region_S (KS w [(⟨w.heap.size, 0, none⟩, .int .i64 u.id), (⟨w.heap.size + 1, 1, none⟩, .int .i64 v.boot), (⟨w.heap.size + 1, 5, none⟩, .slice v.sa v.sn v.sc), (⟨w1.heap.size, 0, none⟩, .int .i64 pe), (⟨w1.heap.size, 1, none⟩, .int .i64 bo), (⟨w1.heap.size, 2, none⟩, .int .i64 li), (⟨w1.heap.size, 3, none⟩, .slice A2 hln c2), (⟨w1.heap.size, 4, none⟩, .bool pd), (⟨w1.heap.size, 5, none⟩, .int .i64 mi)] [⟨w.heap.size + 2, 0, none⟩, ⟨w.heap.size + 2, 1, none⟩, ⟨w.heap.size + 2, 2, none⟩, ⟨w.heap.size + 2, 3, none⟩, ⟨w.heap.size + 2, 4, none⟩, ⟨w.heap.size + 2, 5, none⟩] [(⟨w.heap.size + 2, 0, none⟩, .int .i64 0), (⟨w.heap.size + 2, 1, none⟩, .int .i64 0), (⟨w.heap.size + 2, 2, none⟩, .int .i64 0), (⟨w.heap.size + 2, 3, none⟩, .slice none 0 0), (⟨w.heap.size + 2, 4, none⟩, .bool false), (⟨w.heap.size + 2, 5, none⟩, .int .i64 0)] [(⟨w.heap.size + 2, 0, none⟩, .int .i64 pe), (⟨w.heap.size + 2, 1, none⟩, .int .i64 bo), (⟨w.heap.size + 2, 2, none⟩, .int .i64 li), (⟨w.heap.size + 2, 3, none⟩, .slice A2 hln c2), (⟨w.heap.size + 2, 4, none⟩, .bool pd), (⟨w.heap.size + 2, 5, none⟩, .int .i64 mi)] [] [] (fun W => OwnE encLn 4 92 W B4 (.slice A2 hln c2) ls)) (20, 20) (by kernel_rfl) (by kernel_rfl) (by simp) ?_ ?_
    · refine ⟨KeptC.drewn ?_, KeptC.drewn ?_, KeptC.drewn ?_, ?_⟩
      · exact Qk1 kb1
      · simp only [Bool.false_eq_true, if_false]; exact Qk1 kb1
      · simp only [Bool.false_eq_true, if_false]; exact Qk1 kb1
      · exact HOB.out _ _ HOI.out (Below.drew (Below.refl _ _))
    try simp only [List.append_eq, List.cons_append, List.nil_append]
    repeat (first
     | (refine S_skip rfl rfl ?_; (simp only [Act.put, List.setIfInBounds_toArray, List.set_cons_zero, List.set_cons_succ]))
     | (apply S_run rfl rfl; (· intro b w' hw'; (have hk' := hw'.1; simp only [KeptC, List.forall_mem_cons] at hk'; go_split_ands); go_simp; first | done | rfl); (simp only [Act.put, List.setIfInBounds_toArray, List.set_cons_zero, List.set_cons_succ]))
     | (apply S_call rfl rfl; (· intro b w' hw'; go_simp; first | done | exact ⟨rfl, rfl⟩ | rfl); (· intro b w' hw'; first | ((with_reducible refine (CG.out _ hw'.lowS).mono ?_); rintro e w2 ⟨rfl, hb⟩; exact ⟨rfl, hw'.below HOB.out hb⟩)); (simp only [Act.put, List.setIfInBounds_toArray, List.set_cons_zero, List.set_cons_succ]))
     | (refine S_store rfl ?_ ?_; (· intro b w' hw'; (have hk' := hw'.1; simp only [KeptC, List.forall_mem_cons] at hk'; go_split_ands); have hr' := hw'.2.1; have hq' := hw'.2.2.1; have hb' := hw'.1.1; obtain ⟨b1, b2⟩ := b; cases b1 <;> cases b2 <;> (simp only [Bool.false_eq_true, if_false, if_true] at hr' hq'; have hr3 := hr'; have hq3 := hq'; simp only [KeptC, List.forall_mem_cons] at hr' hq'; go_split_ands; apply Exists.intro; apply And.intro; (· go_simp; first | done | rfl); refine ⟨?_, ?_, ?_, ?_⟩; (· (repeat (first | with_reducible refine KeptC.setN ?_ NB1.out NL1.out)); exact hw'.1); (· simp only [sgS, Nat.reduceBEq, Bool.or_true, Bool.or_false, Bool.true_or, Bool.false_or, Bool.false_eq_true, if_true, if_false]; first | (skip; with_reducible exact hr3) | (exact Qk1 hb')); (· simp only [sgS, Nat.reduceBEq, Bool.or_true, Bool.or_false, Bool.true_or, Bool.false_or, Bool.false_eq_true, if_true, if_false]; first | (skip; with_reducible exact hq3) | (exact Qk1 hb')); (· (repeat (first | with_reducible refine HOS.out _ _ _ ?_ | with_reducible refine HOT.out _ _ _ ?_)); exact hw'.2.2.2))); (simp only [Act.put, List.setIfInBounds_toArray, List.set_cons_zero, List.set_cons_succ])))
    unfold wpQuietS
    intro w9 hw'
    obtain ⟨hk9, hr9, hs9, ho9⟩ := hw'
    have HO9 := Lib.hid ho9
    clear ho9
    simp only [if_true] at hr9 hs9
    (have hk' := hk9; simp only [KeptC, List.forall_mem_cons] at hk'; go_split_ands); (have hr' := hr9; simp only [KeptC, List.forall_mem_cons] at hr'; go_split_ands); (have hs' := hs9; simp only [KeptC, List.forall_mem_cons] at hs'; go_split_ands); have hkB9 := hk9.1
    go_wp2
    refine bodyPost_ret (v := .tuple #[HfV ⟨pe, bo, li, A2, hln, c2, pd, mi, ls⟩, .bool true]) (by simp [results, Tryz.results86, go_sem, *]) rfl ⟨hkB9, A2, c2, rfl, OwnE.less HO9.out (by omega)⟩
end Go.Proofs.YtkfodkbgmpbmfaaGreat
