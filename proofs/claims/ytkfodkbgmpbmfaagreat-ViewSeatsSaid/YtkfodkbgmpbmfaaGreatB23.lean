/- Chapter 22, parts on the way: Wk Wl -/
import Derived.Test.YtkfodkbgmpbmfaaGreatB01
import Derived.Test.YtkfodkbgmpbmfaaGreatB12
import Derived.Test.YtkfodkbgmpbmfaaGreatB22
set_option linter.unusedVariables false
set_option linter.unusedSimpArgs false
namespace Go.Proofs.YtkfodkbgmpbmfaaGreat
open Go.RowKit Go.Shelf
set_option linter.unusedVariables false
set_option linter.unusedSimpArgs false
set_option maxRecDepth 100000
set_option maxHeartbeats 8000000 in
theorem nsame_any (y : Nd) (i : Int) (w : World) (hy : NdAt w w.heap.size y) (hm : y.cn * 136 ≤ 140737488351232) :
    Calls Tryz.prog 40 #[NdV y, .agg #[.int .i64 i, .int .i64 0, .int .i64 0, .slice none 0 0, .int .i64 0, .slice none 0 0, .slice none 0 0, .slice none 0 0]] w (FitPost (y.id = i ∧ y.sn = 0 ∧ y.hn = 0 ∧ y.cn = 0) w) := by
 have CW := Lib.hid (fun W => noints_any y.wa y.wn y.wc 0 W)
 have CS := Lib.hid (fun W => noseen_any y.sa y.sn y.sc 0 W)
 have CH := Lib.hid (fun W => nohalf_any y.ha y.hn y.hc 0 W)
 have CC := Lib.hid (fun W (hb : Below w.heap.size w W) => srsame_any y.ca y.cn y.cc y.chans none 0 0 [] W ((hy.2.2.2.below hb).more hb.size) ⟨⟨rfl, fun h => absurd h (by decide)⟩, fun _ h => (by cases h)⟩ hm (by decide))
 have HL := Lib.hid hy.2.2.2.1.1
 obtain ⟨id, boot, ticks, wa, wn, wc, turn, sa, sn, sc, ha, hn, hc, ca, cn, cc, want, seen, halves, chans⟩ := y
 simp only [] at CW CS CH CC HL ⊢
 clear hy hm
 by_cases h1 : id = i
 rotate_left
 · have hq : (id == i) = false := by simpa using h1
   clear h1
   go_enter Tryz.func40, Tryz.ntmps40
   go_wp2
   go_ret
   exact FitPost.no Qb
 by_cases h2 : boot = 0
 rotate_left
 · have hq : (boot == 0) = false := by simpa using h2
   clear h2
   subst h1
   go_enter Tryz.func40, Tryz.ntmps40
   go_wp2
   go_ret
   exact FitPost.no Qb
 by_cases h3 : ticks = 0
 rotate_left
 · have hq : (ticks == 0) = false := by simpa using h3
   clear h3
   subst_vars
   go_enter Tryz.func40, Tryz.ntmps40
   go_wp2
   go_ret
   exact FitPost.no Qb
 by_cases h4 : turn = 0
 rotate_left
 · have hq : (turn == 0) = false := by simpa using h4
   clear h4
   subst_vars
   go_enter Tryz.func40, Tryz.ntmps40
   go_wp2
   go_ret
   exact FitPost.no Qb
 subst h1 h2 h3 h4
 obtain ⟨D1, hD1⟩ : ∃ D, decide (wn = 0) = D := ⟨_, rfl⟩
 obtain ⟨D2, hD2⟩ : ∃ D, decide (sn = 0) = D := ⟨_, rfl⟩
 obtain ⟨D3, hD3⟩ : ∃ D, decide (hn = 0) = D := ⟨_, rfl⟩
 rw [hD1] at CW
 rw [hD2] at CS
 rw [hD3] at CH
 have HD2 := Lib.hid hD2
 have HD3 := Lib.hid hD3
 obtain ⟨D4, hD4⟩ : ∃ D, sameS chans [] = D := ⟨_, rfl⟩
 rw [hD4] at CC
 have HD4 : Hid (D4 = true → cn = 0) := Lib.hid (fun h => by
  subst h
  have := HL.out
  cases chans with
  | nil => simpa using this.symm
  | cons c cs => simp [sameS] at hD4)
 clear hD1 hD2 hD3 hD4 HL
 go_enter Tryz.func40, Tryz.ntmps40
 go_wp2_with (fail)
 refine (CW.out _).mono ?_; rintro e w1 ⟨rfl, rfl⟩
 cases D1 with
 | false =>
  go_wp2
  go_ret
  exact FitPost.no Qb
 | true =>
  go_wp2_with (fail)
  refine (CS.out _).mono ?_; rintro e w1 ⟨rfl, rfl⟩
  cases D2 with
  | false =>
   go_wp2
   go_ret
   exact FitPost.no Qb
  | true =>
   go_wp2_with (fail)
   refine (CH.out _).mono ?_; rintro e w1 ⟨rfl, rfl⟩
   cases D3 with
   | false =>
    go_wp2
    go_ret
    exact FitPost.no Qb
   | true =>
    go_wp2_with (fail)
    refine (CC.out _ Qb).mono ?_; rintro e w1 ⟨rfl, hb1⟩
    have HB : Hid (Below w.heap.size w w1) := Lib.hid (Qb1 hb1)
    clear hb1
    go_wp2
    go_ret
    exact ⟨D4, rfl, fun h => ⟨by first | rfl | trivial, by simpa using HD2.out, by simpa using HD3.out, HD4.out h⟩, HB.out⟩
end Go.Proofs.YtkfodkbgmpbmfaaGreat
namespace Go.Proofs.YtkfodkbgmpbmfaaGreat
open Go.RowKit Go.Shelf
set_option linter.unusedVariables false
set_option linter.unusedSimpArgs false
set_option maxRecDepth 100000
theorem wchar_cases (x : Int) : (charB x = true ∧ ((97 ≤ x ∧ x ≤ 122) ∨ (¬ 97 ≤ x ∧ 48 ≤ x ∧ x ≤ 57) ∨ (¬ 97 ≤ x ∧ 48 ≤ x ∧ ¬ x ≤ 57 ∧ (x == 95) = true))) ∨
    (charB x = false ∧ ((¬ 97 ≤ x ∧ ¬ 48 ≤ x ∧ (x == 95) = false) ∨ (¬ 97 ≤ x ∧ 48 ≤ x ∧ ¬ x ≤ 57 ∧ (x == 95) = false) ∨ (97 ≤ x ∧ ¬ x ≤ 122 ∧ 48 ≤ x ∧ ¬ x ≤ 57 ∧ (x == 95) = false))) := by
 unfold charB
 simp only [beq_iff_eq, beq_eq_false_iff_ne, Bool.or_eq_true, Bool.and_eq_true, decide_eq_true_eq, Bool.or_eq_false_iff, Bool.and_eq_false_iff, decide_eq_false_iff_not]
 omega
set_option maxRecDepth 100000 in
set_option maxHeartbeats 4000000 in
theorem wname_any (s : ByteArray) (w : World) : Calls Tryz.prog 144 #[.string s] w fun x w' => x = .returned (.bool (nameB s.data.toList)) ∧ Below w.heap.size w w' := by
 have hl : s.data.toList.length = s.size := rfl
 have h3 : ((s.size : Int) < 1) ∨ (¬ (s.size : Int) < 1 ∧ 16 < (s.size : Int)) ∨ (¬ (s.size : Int) < 1 ∧ ¬ 16 < (s.size : Int)) := by omega
 have hn : s.size < 1 ∨ 16 < s.size → nameB s.data.toList = false := by
  intro h
  unfold nameB
  rw [hl]
  rcases h with h | h
  · rw [decide_eq_false (by omega)]; rfl
  · rw [decide_eq_false (show ¬ s.size ≤ 16 by omega), Bool.and_false]; rfl
 have HN := Lib.hid hn
 clear hn hl
 rcases h3 with h1 | ⟨h1, h2⟩ | ⟨h1, h2⟩
 · go_enter Tryz.func144, Tryz.ntmps144
   go_wp2
   go_ret
   exact ⟨by rw [HN.out (by omega)]; rfl, Below.refl _ _⟩
 · go_enter Tryz.func144, Tryz.ntmps144
   go_wp2
   go_ret
   exact ⟨by rw [HN.out (by omega)]; rfl, Below.refl _ _⟩
 · go_enter Tryz.func144, Tryz.ntmps144
   go_wp2
   go_loopw [3] (fun i w' => ∃ k : Nat, k ≤ s.size ∧ i = .int .i64 k ∧ Hid (((s.data.toList.take k).all fun c => charB c.toNat) = true) ∧ KeptC w [] [] w') (fun i _ => s.size - (intOf i).toNat)
   case atStart => exact ⟨0, Nat.zero_le _, rfl, rfl, Qk⟩
   case round =>
    obtain ⟨k, hk, rfl, HA, hK⟩ := hrel
    simp only [KeptC, List.forall_mem_cons] at hK; obtain ⟨kb0, _, _⟩ := hK
    by_cases hlt : k < s.size
    · have hst := all_next s.data.toList k hlt
      have hsp := all_stop s.data.toList k hlt
      rw [show s.data.toList[k] = s[k] from rfl] at hst hsp
      have HS := Lib.hid hst; have HP := Lib.hid hsp
      clear hst hsp
      rcases wchar_cases (s[k].toNat : Int) with ⟨hc, h5⟩ | ⟨hc, h5⟩
      · have HC := Lib.hid hc
        clear hc
        rcases h5 with ⟨g1, g2⟩ | ⟨g1, g2, g3⟩ | ⟨g1, g2, g3, g4⟩
        all_goals
         go_wp2
         go_roundw
         case rel => exact ⟨k + 1, by omega, by go_num, (by have h := HS.out; rw [HA.out, HC.out] at h; exact h), (Qk1 kb0)⟩
         case measure => simp [intOf]; omega
      · have HC := Lib.hid hc
        clear hc
        rcases h5 with ⟨g1, g2, g3⟩ | ⟨g1, g2, g3, g4⟩ | ⟨g1, g2, g3, g4, g5⟩
        all_goals
         go_wp2
         go_ret
         exact ⟨by unfold nameB; rw [HP.out HC.out, Bool.and_false]; rfl, kb0⟩
    · obtain rfl : k = s.size := by omega
      go_wp2
      go_ret
      refine ⟨?_, kb0⟩
      have h := HA.out
      rw [show s.data.toList.take s.size = s.data.toList from List.take_of_length_le (Nat.le_of_eq rfl)] at h
      have e : nameB s.data.toList = true := by
       unfold nameB
       rw [h, show s.data.toList.length = s.size from rfl, decide_eq_true (by omega), decide_eq_true (show s.size ≤ 16 by omega)]
       rfl
      rw [e]
      rfl
end Go.Proofs.YtkfodkbgmpbmfaaGreat
