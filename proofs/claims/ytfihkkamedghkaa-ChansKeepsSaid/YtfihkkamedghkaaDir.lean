/- The functions of layer 17 (dir) and of its reference over one record: Name, Scale, Fit, Newer: what each call computes, for every argument. -/
import Derived.Test.YtfihkkamedghkaaQuiet
import Derived.Test.YtfihkkamedghkaaRows
import Derived.WalkKit
import Derived.WalkSpells
import Derived.WalkLawsBesides
import Derived.WalkMore
import Derived.Deep.QuietTactic
import Derived.BigQuiet
import Derived.Lib.Hide
import Derived.Laws.Strings
namespace Go.Proofs.Ytfihkkamedghkaa
open Go.RowKit
theorem bcell {W w1 : World} (hb : Below W.heap.size W w1) : (∀ b o, b < W.heap.size → w1.cell? ⟨b, o, none⟩ = W.cell? ⟨b, o, none⟩) ∧ (∀ b o, b < W.heap.size → w1.frozen? ⟨b, o, none⟩ = W.frozen? ⟨b, o, none⟩) :=
  ⟨fun b o h => hb.cell (p := ⟨b, o, none⟩) h, fun b o h => hb.frozen (p := ⟨b, o, none⟩) h⟩
/-- A channel's record. -/
structure Ch where
  name : ByteArray
  ep : Int
  who : Int
  al : Bool
  kd : Int
  sc : Int
@[reducible] def Ch0 : Ch := ⟨⟨#[]⟩, 0, 0, false, 0, 0⟩
def kindB (k : Int) : Bool := decide (1 ≤ k) && decide (k ≤ 4)
def scB (k s : Int) : Bool := (decide (1 ≤ s) && decide (s ≤ 1048576)) && (!decide (k = 4) || decide (s = 1))
def stampB (e m e2 m2 : Int) : Bool := decide (e2 < e) || decide (e = e2) && decide (m < m2)
theorem kind_any (k : Int) (w : World) : Calls Try.prog 68 #[.int .i64 k] w fun e w' => e = .returned (.bool (kindB k)) ∧ Below w.heap.size w w' := by
  go_enter Try.func68, Try.ntmps68
  go_wp2
  all_goals go_ret
  all_goals exact ⟨by simp_all [kindB] <;> omega, Below.refl _ _⟩
theorem scaled_any (k s : Int) (w : World) : Calls Try.prog 69 #[.int .i64 k, .int .i64 s] w fun e w' => e = .returned (.bool (scB k s)) ∧ Below w.heap.size w w' := by
  by_cases hk : k = 4
  · subst hk
    by_cases h1 : s = 1
    · subst h1
      go_enter Try.func69, Try.ntmps69
      go_wp2
      all_goals go_ret
      all_goals exact ⟨rfl, Below.refl _ _⟩
    · have h1' : (s == 1) = false := beq_false_of_ne h1
      go_enter Try.func69, Try.ntmps69
      go_wp2
      all_goals go_ret
      all_goals exact ⟨by simp [scB, h1], Below.refl _ _⟩
  · have hk' : (k == 4) = false := beq_false_of_ne hk
    have h2 : s < 1 ∨ (¬ s < 1 ∧ 1048576 < s) ∨ (¬ s < 1 ∧ ¬ 1048576 < s) := by omega
    rcases h2 with h2 | ⟨h2, h3⟩ | ⟨h2, h3⟩
    all_goals
      go_enter Try.func69, Try.ntmps69
      go_wp2
    all_goals go_ret
    · exact ⟨by rw [show scB k s = false by unfold scB; rw [decide_eq_false (by omega)]; rfl]; rfl, Below.refl _ _⟩
    · exact ⟨by rw [show scB k s = false by unfold scB; rw [decide_eq_false (show ¬ s ≤ 1048576 by omega), Bool.and_false]; rfl]; rfl, Below.refl _ _⟩
    · exact ⟨by rw [show scB k s = true by unfold scB; rw [decide_eq_true (show 1 ≤ s by omega), decide_eq_true (show s ≤ 1048576 by omega), decide_eq_false hk]; rfl]; rfl, Below.refl _ _⟩
theorem rscale_any (k s : Int) (w : World) : Calls Try.prog 54 #[.int .i64 k, .int .i64 s] w fun e w' => e = .returned (.bool (scB k s)) ∧ Below w.heap.size w w' := by
  by_cases hk : k = 4
  · subst hk
    by_cases h1 : s = 1
    · subst h1
      go_enter Try.func54, Try.ntmps54
      go_wp2
      all_goals go_ret
      all_goals exact ⟨rfl, Below.refl _ _⟩
    · have h1' : (s == 1) = false := beq_false_of_ne h1
      go_enter Try.func54, Try.ntmps54
      go_wp2
      all_goals go_ret
      all_goals exact ⟨by simp [scB, h1], Below.refl _ _⟩
  · have hk' : (k == 4) = false := beq_false_of_ne hk
    have h2 : s < 1 ∨ (¬ s < 1 ∧ 1048576 < s) ∨ (¬ s < 1 ∧ ¬ 1048576 < s) := by omega
    rcases h2 with h2 | ⟨h2, h3⟩ | ⟨h2, h3⟩
    all_goals
      go_enter Try.func54, Try.ntmps54
      go_wp2
    all_goals go_ret
    · exact ⟨by rw [show scB k s = false by unfold scB; rw [decide_eq_false (by omega)]; rfl]; rfl, Below.refl _ _⟩
    · exact ⟨by rw [show scB k s = false by unfold scB; rw [decide_eq_false (show ¬ s ≤ 1048576 by omega), Bool.and_false]; rfl]; rfl, Below.refl _ _⟩
    · exact ⟨by rw [show scB k s = true by unfold scB; rw [decide_eq_true (show 1 ≤ s by omega), decide_eq_true (show s ≤ 1048576 by omega), decide_eq_false hk]; rfl]; rfl, Below.refl _ _⟩
theorem stamp_any (e m e2 m2 : Int) (w : World) : Calls Try.prog 89 #[.agg #[.int .i64 e, .int .i64 m], .agg #[.int .i64 e2, .int .i64 m2]] w fun x w' => x = .returned (.bool (stampB e m e2 m2)) ∧ Below w.heap.size w w' := by
  go_enter Try.func89, Try.ntmps89
  go_wp2
  all_goals go_ret
  all_goals exact ⟨by simp_all [stampB] <;> omega, (by repeat (first | with_reducible refine Below.setCell ?_ (by first | (simp; done) | (simp; omega) | omega) _ | with_reducible refine Below.alloc ?_ (by first | (simp; done) | (simp; omega) | omega) _ | with_reducible refine Below.drew ?_ | with_reducible refine below_drewN ?_ _ | with_reducible exact Below.refl _ _))⟩
set_option maxHeartbeats 1000000 in
theorem of_any (s : ByteArray) (e m : Int) (al : Bool) (k c : Int) (w : World) : Calls Try.prog 88 #[.agg #[.string s, .int .i64 e, .int .i64 m, .bool al, .int .i64 k, .int .i64 c]] w fun x w' => x = .returned (.agg #[.int .i64 e, .int .i64 m, .string s, .int .i64 e, .int .i64 m, .bool al, .int .i64 k, .int .i64 c]) ∧ Below w.heap.size w w' := by
  go_enter Try.func88, Try.ntmps88
  go_wp2
  exact bodyPost_ret (v := .agg #[.int .i64 e, .int .i64 m, .string s, .int .i64 e, .int .i64 m, .bool al, .int .i64 k, .int .i64 c]) (by simp [results, Try.results88, go_sem]) rfl ⟨rfl, (by repeat (first | with_reducible refine Below.setCell ?_ (by first | (simp; done) | (simp; omega) | omega) _ | with_reducible refine Below.alloc ?_ (by first | (simp; done) | (simp; omega) | omega) _ | with_reducible refine Below.drew ?_ | with_reducible refine below_drewN ?_ _ | with_reducible exact Below.refl _ _))⟩
set_option maxHeartbeats 1000000 in
theorem rnewerC_any (s : ByteArray) (e m : Int) (al : Bool) (k c : Int) (s2 : ByteArray) (e2 m2 : Int) (al2 : Bool) (k2 c2 : Int) (w : World) : Calls Try.prog 90 #[.agg #[.string s, .int .i64 e, .int .i64 m, .bool al, .int .i64 k, .int .i64 c], .agg #[.string s2, .int .i64 e2, .int .i64 m2, .bool al2, .int .i64 k2, .int .i64 c2]] w fun x w' => x = .returned (.bool (stampB e m e2 m2)) ∧ Below w.heap.size w w' := by
  by_cases h : e = e2
  · subst h
    go_enter Try.func90, Try.ntmps90
    go_wp2
    go_ret
    exact ⟨by simp [stampB], (by repeat (first | with_reducible refine Below.setCell ?_ (by first | (simp; done) | (simp; omega) | omega) _ | with_reducible refine Below.alloc ?_ (by first | (simp; done) | (simp; omega) | omega) _ | with_reducible refine Below.drew ?_ | with_reducible refine below_drewN ?_ _ | with_reducible exact Below.refl _ _))⟩
  · have h' : (e == e2) = false := beq_false_of_ne h
    go_enter Try.func90, Try.ntmps90
    go_wp2
    go_ret
    exact ⟨by simp [stampB, h], (by repeat (first | with_reducible refine Below.setCell ?_ (by first | (simp; done) | (simp; omega) | omega) _ | with_reducible refine Below.alloc ?_ (by first | (simp; done) | (simp; omega) | omega) _ | with_reducible refine Below.drew ?_ | with_reducible refine below_drewN ?_ _ | with_reducible exact Below.refl _ _))⟩
def charB (x : Int) : Bool := (decide (97 ≤ x) && decide (x ≤ 122)) || (decide (48 ≤ x) && decide (x ≤ 57)) || decide (x = 95)
def nameB (l : List UInt8) : Bool := (decide (1 ≤ l.length) && decide (l.length ≤ 16)) && l.all fun c => charB c.toNat
theorem char_cases (x : Int) : (charB x = true ∧ ((¬ x < 97 ∧ ¬ 122 < x) ∨ (x < 97 ∧ ¬ x < 48 ∧ ¬ 57 < x) ∨ (x < 97 ∧ ¬ x < 48 ∧ 57 < x ∧ (x == 95) = true))) ∨
    (charB x = false ∧ ((x < 97 ∧ x < 48 ∧ (x == 95) = false) ∨ (x < 97 ∧ ¬ x < 48 ∧ 57 < x ∧ (x == 95) = false) ∨ (¬ x < 97 ∧ 122 < x ∧ ¬ x < 48 ∧ 57 < x ∧ (x == 95) = false))) := by
  unfold charB
  simp only [beq_iff_eq, beq_eq_false_iff_ne, Bool.or_eq_true, Bool.and_eq_true, decide_eq_true_eq, Bool.or_eq_false_iff, Bool.and_eq_false_iff, decide_eq_false_iff_not]
  omega
theorem all_next (l : List UInt8) (k : Nat) (h : k < l.length) : ((l.take (k + 1)).all fun c => charB c.toNat) = (((l.take k).all fun c => charB c.toNat) && charB (l[k].toNat)) := by
  rw [List.take_succ_eq_append_getElem h, List.all_append]
  simp
theorem all_stop (l : List UInt8) (k : Nat) (h : k < l.length) (hc : charB (l[k].toNat) = false) : (l.all fun c => charB c.toNat) = false := by
  rw [List.all_eq_false]
  exact ⟨l[k], List.getElem_mem h, by simp [hc]⟩
set_option maxRecDepth 100000 in
set_option maxHeartbeats 4000000 in
theorem name_any (s : ByteArray) (w : World) : Calls Try.prog 67 #[.string s] w fun x w' => x = .returned (.bool (nameB s.data.toList)) ∧ Below w.heap.size w w' := by
  have hl : s.data.toList.length = s.size := rfl
  have h3 : ((s.size : Int) < 1) ∨ (¬ (s.size : Int) < 1 ∧ 16 < (s.size : Int)) ∨ (¬ (s.size : Int) < 1 ∧ ¬ 16 < (s.size : Int)) := by omega
  have hn : s.size < 1 ∨ 16 < s.size → nameB s.data.toList = false := by
    intro h
    unfold nameB
    rw [hl]
    rcases h with h | h
    · rw [decide_eq_false (by omega)]; rfl
    · rw [decide_eq_false (show ¬ s.size ≤ 16 by omega), Bool.and_false]; rfl
  have HN := Lib.hid hn
  clear hn hl
  rcases h3 with h1 | ⟨h1, h2⟩ | ⟨h1, h2⟩
  · go_enter Try.func67, Try.ntmps67
    go_wp2
    go_ret
    exact ⟨by rw [HN.out (by omega)]; rfl, Below.refl _ _⟩
  · go_enter Try.func67, Try.ntmps67
    go_wp2
    go_ret
    exact ⟨by rw [HN.out (by omega)]; rfl, Below.refl _ _⟩
  · go_enter Try.func67, Try.ntmps67
    go_wp2
    go_loopw [15] (fun i w' => ∃ k : Nat, k ≤ s.size ∧ i = .int .i64 k ∧ Hid (((s.data.toList.take k).all fun c => charB c.toNat) = true) ∧ KeptC w [] [] w') (fun i _ => s.size - (intOf i).toNat)
    case atStart => exact ⟨0, Nat.zero_le _, rfl, rfl, (by (repeat' (first | refine KeptC.cons ?_ ?_ | refine KeptC.consF ?_ ?_ ?_ | refine KeptC.mk0 ?_)); all_goals (first | with_reducible assumption | (go_simp; done) | (simp; omega) | exact (by repeat (first | with_reducible refine Below.setCell ?_ (by first | (simp; done) | (simp; omega) | omega) _ | with_reducible refine Below.alloc ?_ (by first | (simp; done) | (simp; omega) | omega) _ | with_reducible refine Below.drew ?_ | with_reducible refine below_drewN ?_ _ | with_reducible exact Below.refl _ _))))⟩
    case round =>
      obtain ⟨k, hk, rfl, HA, hK⟩ := hrel
      simp only [KeptC, List.forall_mem_cons] at hK; obtain ⟨kb0, _, _⟩ := hK
      by_cases hlt : k < s.size
      · have hst := all_next s.data.toList k hlt
        have hsp := all_stop s.data.toList k hlt
        rw [show s.data.toList[k] = s[k] from rfl] at hst hsp
        have HS := Lib.hid hst; have HP := Lib.hid hsp
        clear hst hsp
        rcases char_cases (s[k].toNat : Int) with ⟨hc, h5⟩ | ⟨hc, h5⟩
        · have HC := Lib.hid hc
          clear hc
          rcases h5 with ⟨g1, g2⟩ | ⟨g1, g2, g3⟩ | ⟨g1, g2, g3, g4⟩
          all_goals
            go_wp2
            go_roundw
            case rel => exact ⟨k + 1, by omega, by go_num, (by have h := HS.out; rw [HA.out, HC.out] at h; exact h), (by (repeat' (first | refine KeptC.cons ?_ ?_ | refine KeptC.consF ?_ ?_ ?_ | refine KeptC.mk0 ?_)); all_goals (first | with_reducible assumption | (go_simp; done) | (simp; omega) | exact (by repeat (first | with_reducible refine Below.setCell ?_ (by first | (simp; done) | (simp; omega) | omega) _ | with_reducible refine Below.alloc ?_ (by first | (simp; done) | (simp; omega) | omega) _ | with_reducible refine Below.drew ?_ | with_reducible refine below_drewN ?_ _ | with_reducible exact Below.refl _ _ | with_reducible refine Below.trans ?_ (Below.mono kb0 (by first | (simp; done) | (simp; omega) | omega))))))⟩
            case measure => simp [intOf]; omega
        · have HC := Lib.hid hc
          clear hc
          rcases h5 with ⟨g1, g2, g3⟩ | ⟨g1, g2, g3, g4⟩ | ⟨g1, g2, g3, g4, g5⟩
          all_goals
            go_wp2
            go_ret
            exact ⟨by unfold nameB; rw [HP.out HC.out, Bool.and_false]; rfl, kb0⟩
      · obtain rfl : k = s.size := by omega
        go_wp2
        go_ret
        refine ⟨?_, kb0⟩
        have h := HA.out
        rw [show s.data.toList.take s.size = s.data.toList from List.take_of_length_le (Nat.le_of_eq rfl)] at h
        have e : nameB s.data.toList = true := by
          unfold nameB
          rw [h, show s.data.toList.length = s.size from rfl, decide_eq_true (by omega), decide_eq_true (show s.size ≤ 16 by omega)]
          rfl
        rw [e]
        rfl
set_option maxRecDepth 100000 in
set_option maxHeartbeats 4000000 in
theorem rname_any (s : ByteArray) (hs : s.size ≤ maxLen) (w : World) : Calls Try.prog 53 #[.string s] w fun x w' => x = .returned (.bool (nameB s.data.toList)) ∧ Below w.heap.size w w' := by
  have HZ := Lib.hid hs
  clear hs
  go_enter Try.func53, Try.ntmps53
  go_wp2
  go_loopw [3] (fun i w' => ∃ k : Nat, k ≤ s.size ∧ i = .int .i64 k ∧ Hid (((s.data.toList.take k).all fun c => charB c.toNat) = true) ∧ KeptC w [] [] w') (fun i _ => s.size - (intOf i).toNat)
  case atStart => exact ⟨0, Nat.zero_le _, rfl, rfl, (by (repeat' (first | refine KeptC.cons ?_ ?_ | refine KeptC.consF ?_ ?_ ?_ | refine KeptC.mk0 ?_)); all_goals (first | with_reducible assumption | (go_simp; done) | (simp; omega) | exact (by repeat (first | with_reducible refine Below.setCell ?_ (by first | (simp; done) | (simp; omega) | omega) _ | with_reducible refine Below.alloc ?_ (by first | (simp; done) | (simp; omega) | omega) _ | with_reducible refine Below.drew ?_ | with_reducible refine below_drewN ?_ _ | with_reducible exact Below.refl _ _))))⟩
  case round =>
    obtain ⟨k, hk, rfl, HA, hK⟩ := hrel
    simp only [KeptC, List.forall_mem_cons] at hK; obtain ⟨kb0, _, _⟩ := hK
    by_cases hlt : k < s.size
    · have hst := all_next s.data.toList k hlt
      have hsp := all_stop s.data.toList k hlt
      rw [show s.data.toList[k] = s[k] from rfl] at hst hsp
      have HS := Lib.hid hst; have HP := Lib.hid hsp
      clear hst hsp
      have hw : IntKind.i64.wrap ((k : Int) + 1) = (k : Int) + 1 := by have h := HZ.out; unfold maxLen at h; rw [IntKind.wrap_i64]; omega
      rcases char_cases (s[k].toNat : Int) with ⟨hc, h5⟩ | ⟨hc, h5⟩
      · have HC := Lib.hid hc
        clear hc
        rcases h5 with ⟨g1, g2⟩ | ⟨g1, g2, g3⟩ | ⟨g1, g2, g3, g4⟩
        all_goals
          go_wp2
          go_roundw
          case rel => exact ⟨k + 1, by omega, by go_num, (by have h := HS.out; rw [HA.out, HC.out] at h; exact h), (by (repeat' (first | refine KeptC.cons ?_ ?_ | refine KeptC.consF ?_ ?_ ?_ | refine KeptC.mk0 ?_)); all_goals (first | with_reducible assumption | (go_simp; done) | (simp; omega) | exact (by repeat (first | with_reducible refine Below.setCell ?_ (by first | (simp; done) | (simp; omega) | omega) _ | with_reducible refine Below.alloc ?_ (by first | (simp; done) | (simp; omega) | omega) _ | with_reducible refine Below.drew ?_ | with_reducible refine below_drewN ?_ _ | with_reducible exact Below.refl _ _ | with_reducible refine Below.trans ?_ (Below.mono kb0 (by first | (simp; done) | (simp; omega) | omega))))))⟩
          case measure => simp [intOf]; omega
      · have HC := Lib.hid hc
        clear hc
        rcases h5 with ⟨g1, g2, g3⟩ | ⟨g1, g2, g3, g4⟩ | ⟨g1, g2, g3, g4, g5⟩
        all_goals
          go_wp2
          go_ret
          exact ⟨by unfold nameB; rw [HP.out HC.out, Bool.and_false]; rfl, kb0⟩
    · obtain rfl : k = s.size := by omega
      have h := HA.out
      rw [show s.data.toList.take s.size = s.data.toList from List.take_of_length_le (Nat.le_of_eq rfl)] at h
      have e : nameB s.data.toList = (decide (1 ≤ s.size) && decide (s.size ≤ 16)) := by
        unfold nameB
        rw [h, Bool.and_true]
        rfl
      have h3 : ((s.size : Int) < 1) ∨ (¬ (s.size : Int) < 1 ∧ 16 < (s.size : Int)) ∨ (¬ (s.size : Int) < 1 ∧ ¬ 16 < (s.size : Int)) := by omega
      have HE := Lib.hid e
      clear e h HA
      rcases h3 with h1 | ⟨h1, h2⟩ | ⟨h1, h2⟩
      all_goals
        go_wp2
        go_ret
      · exact ⟨by rw [HE.out, decide_eq_false (by omega)]; rfl, kb0⟩
      · refine ⟨?_, kb0⟩
        show Ending.returned (.bool (decide ((s.size : Int) ≤ 16))) = _
        rw [HE.out, decide_eq_false (show ¬ s.size ≤ 16 by omega), Bool.and_false, decide_eq_false (show ¬ (s.size : Int) ≤ 16 by omega)]
      · exact ⟨by rw [HE.out, decide_eq_true (show 1 ≤ s.size by omega), decide_eq_true (show s.size ≤ 16 by omega)]; rfl, kb0⟩
/-- Is a record one? -/
def chFit (s : ByteArray) (e m k c : Int) : Bool := (nameB s.data.toList && (decide (1 ≤ e) && decide (e ≤ 1099511627776) && (decide (0 ≤ m) && decide (m < 16)))) && (kindB k && scB k c)
theorem fit_cases (s : ByteArray) (e m k c : Int) :
    (nameB s.data.toList = false ∧ chFit s e m k c = false) ∨
    (nameB s.data.toList = true ∧ (((e < 1) ∨ (¬ e < 1 ∧ 1099511627776 < e) ∨ (¬ e < 1 ∧ ¬ 1099511627776 < e ∧ m < 0) ∨ (¬ e < 1 ∧ ¬ 1099511627776 < e ∧ ¬ m < 0 ∧ ¬ m < 16)) ∧ chFit s e m k c = false)) ∨
    (nameB s.data.toList = true ∧ ¬ e < 1 ∧ ¬ 1099511627776 < e ∧ ¬ m < 0 ∧ m < 16 ∧ chFit s e m k c = (kindB k && scB k c)) := by
  unfold chFit
  cases nameB s.data.toList with
  | false => exact .inl ⟨rfl, rfl⟩
  | true =>
    by_cases h : (1 ≤ e ∧ e ≤ 1099511627776) ∧ (0 ≤ m ∧ m < 16)
    · obtain ⟨⟨h1, h2⟩, h3, h4⟩ := h
      refine .inr (.inr ⟨rfl, by omega, by omega, by omega, h4, ?_⟩)
      rw [decide_eq_true h1, decide_eq_true h2, decide_eq_true h3, decide_eq_true h4]
      rfl
    · refine .inr (.inl ⟨rfl, by omega, ?_⟩)
      rw [Bool.eq_false_iff]
      intro hc
      apply h
      simp only [Bool.and_eq_true, decide_eq_true_eq, true_and] at hc
      exact hc.1
theorem kind_cases (k : Int) : (kindB k = false ∧ (k < 1 ∨ (¬ k < 1 ∧ 4 < k))) ∨ (kindB k = true ∧ ¬ k < 1 ∧ ¬ 4 < k) := by
  unfold kindB
  by_cases h : 1 ≤ k ∧ k ≤ 4
  · exact .inr ⟨by rw [decide_eq_true h.1, decide_eq_true h.2]; rfl, by omega, by omega⟩
  · refine .inl ⟨?_, by omega⟩
    rw [Bool.eq_false_iff]
    simpa using h
set_option maxRecDepth 100000 in
set_option maxHeartbeats 4000000 in
theorem fit_any (s : ByteArray) (e m : Int) (al : Bool) (k c : Int) (w : World) : Calls Try.prog 91 #[.agg #[.string s, .int .i64 e, .int .i64 m, .bool al, .int .i64 k, .int .i64 c]] w fun x w' => x = .returned (.bool (chFit s e m k c)) ∧ Below w.heap.size w w' := by
  have c1 := fun w => name_any s w
  have c2 := fun w => kind_any k w
  have c3 := fun w => scaled_any k c w
  rcases fit_cases s e m k c with ⟨hn, hf⟩ | ⟨hn, hx, hf⟩ | ⟨hn, h1, h2, h3, h4, hf⟩
  · rw [hn] at c1
    rw [hf]
    have C1 := Lib.hid c1
    clear c1 c2 c3 hn hf
    go_enter Try.func91, Try.ntmps91
    go_wp2_with (fail)
    refine (C1.out _).mono ?_; rintro e w1 ⟨rfl, hb1⟩; obtain ⟨hc1, hf1⟩ := bcell hb1; have hz1 := hb1.size; (try simp at hz1); have hz1_0 : w.heap.size < w1.heap.size := (by omega); have hz1_0_1 : w.heap.size < w1.heap.size + 1 := (by omega); have hz1_0_2 : w.heap.size < w1.heap.size + 1 + 1 := (by omega); have hz1_0_3 : w.heap.size < w1.heap.size + 1 + 1 + 1 := (by omega)
    go_wp2
    go_ret
    exact ⟨rfl, (by repeat (first | with_reducible refine Below.setCell ?_ (by first | (simp; done) | (simp; omega) | omega) _ | with_reducible refine Below.alloc ?_ (by first | (simp; done) | (simp; omega) | omega) _ | with_reducible refine Below.drew ?_ | with_reducible refine below_drewN ?_ _ | with_reducible exact Below.refl _ _ | with_reducible refine Below.trans ?_ (Below.mono hb1 (by first | (simp; done) | (simp; omega) | omega))))⟩
  · rw [hn] at c1
    rw [hf]
    have C1 := Lib.hid c1
    clear c1 c2 c3 hn hf
    rcases hx with h1 | ⟨h1, h2⟩ | ⟨h1, h2, h3⟩ | ⟨h1, h2, h3, h4⟩
    all_goals
      go_enter Try.func91, Try.ntmps91
      go_wp2_with (fail)
      refine (C1.out _).mono ?_; rintro e w1 ⟨rfl, hb1⟩; obtain ⟨hc1, hf1⟩ := bcell hb1; have hz1 := hb1.size; (try simp at hz1); have hz1_0 : w.heap.size < w1.heap.size := (by omega); have hz1_0_1 : w.heap.size < w1.heap.size + 1 := (by omega); have hz1_0_2 : w.heap.size < w1.heap.size + 1 + 1 := (by omega); have hz1_0_3 : w.heap.size < w1.heap.size + 1 + 1 + 1 := (by omega)
      go_wp2
      go_ret
      exact ⟨rfl, (by repeat (first | with_reducible refine Below.setCell ?_ (by first | (simp; done) | (simp; omega) | omega) _ | with_reducible refine Below.alloc ?_ (by first | (simp; done) | (simp; omega) | omega) _ | with_reducible refine Below.drew ?_ | with_reducible refine below_drewN ?_ _ | with_reducible exact Below.refl _ _ | with_reducible refine Below.trans ?_ (Below.mono hb1 (by first | (simp; done) | (simp; omega) | omega))))⟩
  · rw [hn] at c1
    rw [hf]
    cases hk : kindB k with
    | false =>
      rw [hk] at c2
      have C1 := Lib.hid c1; have C2 := Lib.hid c2
      clear c1 c2 c3 hn hf hk
      go_enter Try.func91, Try.ntmps91
      go_wp2_with (fail)
      refine (C1.out _).mono ?_; rintro e w1 ⟨rfl, hb1⟩; obtain ⟨hc1, hf1⟩ := bcell hb1; have hz1 := hb1.size; (try simp at hz1); have hz1_0 : w.heap.size < w1.heap.size := (by omega); have hz1_0_1 : w.heap.size < w1.heap.size + 1 := (by omega); have hz1_0_2 : w.heap.size < w1.heap.size + 1 + 1 := (by omega); have hz1_0_3 : w.heap.size < w1.heap.size + 1 + 1 + 1 := (by omega)
      go_wp2_with (fail)
      refine (C2.out _).mono ?_; rintro e w2 ⟨rfl, hb2⟩; obtain ⟨hc2, hf2⟩ := bcell hb2; have hz2 := hb2.size; (try simp at hz2); have hz2_0 : w.heap.size < w2.heap.size := (by omega); have hz2_0_1 : w.heap.size < w2.heap.size + 1 := (by omega); have hz2_0_2 : w.heap.size < w2.heap.size + 1 + 1 := (by omega); have hz2_0_3 : w.heap.size < w2.heap.size + 1 + 1 + 1 := (by omega)
      go_wp2
      go_ret
      exact ⟨rfl, (by repeat (first | with_reducible refine Below.setCell ?_ (by first | (simp; done) | (simp; omega) | omega) _ | with_reducible refine Below.alloc ?_ (by first | (simp; done) | (simp; omega) | omega) _ | with_reducible refine Below.drew ?_ | with_reducible refine below_drewN ?_ _ | with_reducible exact Below.refl _ _ | with_reducible refine Below.trans ?_ (Below.mono hb2 (by first | (simp; done) | (simp; omega) | omega)) | with_reducible refine Below.trans ?_ (Below.mono hb1 (by first | (simp; done) | (simp; omega) | omega))))⟩
    | true =>
      rw [hk] at c2
      generalize scB k c = b at *
      have C1 := Lib.hid c1; have C2 := Lib.hid c2; have C3 := Lib.hid c3
      clear c1 c2 c3 hn hf hk
      go_enter Try.func91, Try.ntmps91
      go_wp2_with (fail)
      refine (C1.out _).mono ?_; rintro e w1 ⟨rfl, hb1⟩; obtain ⟨hc1, hf1⟩ := bcell hb1; have hz1 := hb1.size; (try simp at hz1); have hz1_0 : w.heap.size < w1.heap.size := (by omega); have hz1_0_1 : w.heap.size < w1.heap.size + 1 := (by omega); have hz1_0_2 : w.heap.size < w1.heap.size + 1 + 1 := (by omega); have hz1_0_3 : w.heap.size < w1.heap.size + 1 + 1 + 1 := (by omega)
      go_wp2_with (fail)
      refine (C2.out _).mono ?_; rintro e w2 ⟨rfl, hb2⟩; obtain ⟨hc2, hf2⟩ := bcell hb2; have hz2 := hb2.size; (try simp at hz2); have hz2_0 : w.heap.size < w2.heap.size := (by omega); have hz2_0_1 : w.heap.size < w2.heap.size + 1 := (by omega); have hz2_0_2 : w.heap.size < w2.heap.size + 1 + 1 := (by omega); have hz2_0_3 : w.heap.size < w2.heap.size + 1 + 1 + 1 := (by omega)
      go_wp2_with (fail)
      refine (C3.out _).mono ?_; rintro e w3 ⟨rfl, hb3⟩; obtain ⟨hc3, hf3⟩ := bcell hb3; have hz3 := hb3.size; (try simp at hz3); have hz3_0 : w.heap.size < w3.heap.size := (by omega); have hz3_0_1 : w.heap.size < w3.heap.size + 1 := (by omega); have hz3_0_2 : w.heap.size < w3.heap.size + 1 + 1 := (by omega); have hz3_0_3 : w.heap.size < w3.heap.size + 1 + 1 + 1 := (by omega)
      go_wp2
      go_ret
      exact ⟨rfl, (by repeat (first | with_reducible refine Below.setCell ?_ (by first | (simp; done) | (simp; omega) | omega) _ | with_reducible refine Below.alloc ?_ (by first | (simp; done) | (simp; omega) | omega) _ | with_reducible refine Below.drew ?_ | with_reducible refine below_drewN ?_ _ | with_reducible exact Below.refl _ _ | with_reducible refine Below.trans ?_ (Below.mono hb3 (by first | (simp; done) | (simp; omega) | omega)) | with_reducible refine Below.trans ?_ (Below.mono hb2 (by first | (simp; done) | (simp; omega) | omega)) | with_reducible refine Below.trans ?_ (Below.mono hb1 (by first | (simp; done) | (simp; omega) | omega))))⟩
set_option maxRecDepth 100000 in
set_option maxHeartbeats 4000000 in
theorem rfit_any (s : ByteArray) (e m : Int) (al : Bool) (k c : Int) (hs : s.size ≤ maxLen) (w : World) : Calls Try.prog 19 #[.agg #[.string s, .int .i64 e, .int .i64 m, .bool al, .int .i64 k, .int .i64 c]] w fun x w' => x = .returned (.bool (chFit s e m k c)) ∧ Below w.heap.size w w' := by
  have c1 := fun w => rname_any s hs w
  have c2 := fun w => kind_any k w
  have c3 := fun w => rscale_any k c w
  rcases fit_cases s e m k c with ⟨hn, hf⟩ | ⟨hn, hx, hf⟩ | ⟨hn, h1, h2, h3, h4, hf⟩
  · rw [hn] at c1
    rw [hf]
    have C1 := Lib.hid c1
    clear c1 c2 c3 hn hf
    go_enter Try.func19, Try.ntmps19
    go_wp2_with (fail)
    refine (C1.out _).mono ?_; rintro e w1 ⟨rfl, hb1⟩; obtain ⟨hc1, hf1⟩ := bcell hb1; have hz1 := hb1.size; (try simp at hz1); have hz1_0 : w.heap.size < w1.heap.size := (by omega); have hz1_0_1 : w.heap.size < w1.heap.size + 1 := (by omega); have hz1_0_2 : w.heap.size < w1.heap.size + 1 + 1 := (by omega); have hz1_0_3 : w.heap.size < w1.heap.size + 1 + 1 + 1 := (by omega)
    go_wp2
    go_ret
    exact ⟨rfl, (by repeat (first | with_reducible refine Below.setCell ?_ (by first | (simp; done) | (simp; omega) | omega) _ | with_reducible refine Below.alloc ?_ (by first | (simp; done) | (simp; omega) | omega) _ | with_reducible refine Below.drew ?_ | with_reducible refine below_drewN ?_ _ | with_reducible exact Below.refl _ _ | with_reducible refine Below.trans ?_ (Below.mono hb1 (by first | (simp; done) | (simp; omega) | omega))))⟩
  · rw [hn] at c1
    rw [hf]
    have C1 := Lib.hid c1
    clear c1 c2 c3 hn hf
    rcases hx with h1 | ⟨h1, h2⟩ | ⟨h1, h2, h3⟩ | ⟨h1, h2, h3, h4⟩
    all_goals
      go_enter Try.func19, Try.ntmps19
      go_wp2_with (fail)
      refine (C1.out _).mono ?_; rintro e w1 ⟨rfl, hb1⟩; obtain ⟨hc1, hf1⟩ := bcell hb1; have hz1 := hb1.size; (try simp at hz1); have hz1_0 : w.heap.size < w1.heap.size := (by omega); have hz1_0_1 : w.heap.size < w1.heap.size + 1 := (by omega); have hz1_0_2 : w.heap.size < w1.heap.size + 1 + 1 := (by omega); have hz1_0_3 : w.heap.size < w1.heap.size + 1 + 1 + 1 := (by omega)
      go_wp2
      go_ret
      exact ⟨rfl, (by repeat (first | with_reducible refine Below.setCell ?_ (by first | (simp; done) | (simp; omega) | omega) _ | with_reducible refine Below.alloc ?_ (by first | (simp; done) | (simp; omega) | omega) _ | with_reducible refine Below.drew ?_ | with_reducible refine below_drewN ?_ _ | with_reducible exact Below.refl _ _ | with_reducible refine Below.trans ?_ (Below.mono hb1 (by first | (simp; done) | (simp; omega) | omega))))⟩
  · rw [hn] at c1
    rw [hf]
    clear c2
    rcases kind_cases k with ⟨hk, hx⟩ | ⟨hk, h5, h6⟩
    · rw [hk]
      have C1 := Lib.hid c1
      clear c1 c3 hn hf hk
      rcases hx with h5 | ⟨h5, h6⟩
      all_goals
        go_enter Try.func19, Try.ntmps19
        go_wp2_with (fail)
        refine (C1.out _).mono ?_; rintro e w1 ⟨rfl, hb1⟩; obtain ⟨hc1, hf1⟩ := bcell hb1; have hz1 := hb1.size; (try simp at hz1); have hz1_0 : w.heap.size < w1.heap.size := (by omega); have hz1_0_1 : w.heap.size < w1.heap.size + 1 := (by omega); have hz1_0_2 : w.heap.size < w1.heap.size + 1 + 1 := (by omega); have hz1_0_3 : w.heap.size < w1.heap.size + 1 + 1 + 1 := (by omega)
        go_wp2
        go_ret
        exact ⟨rfl, (by repeat (first | with_reducible refine Below.setCell ?_ (by first | (simp; done) | (simp; omega) | omega) _ | with_reducible refine Below.alloc ?_ (by first | (simp; done) | (simp; omega) | omega) _ | with_reducible refine Below.drew ?_ | with_reducible refine below_drewN ?_ _ | with_reducible exact Below.refl _ _ | with_reducible refine Below.trans ?_ (Below.mono hb1 (by first | (simp; done) | (simp; omega) | omega))))⟩
    · rw [hk]
      generalize scB k c = b at *
      have C1 := Lib.hid c1; have C3 := Lib.hid c3
      clear c1 c3 hn hf hk
      go_enter Try.func19, Try.ntmps19
      go_wp2_with (fail)
      refine (C1.out _).mono ?_; rintro e w1 ⟨rfl, hb1⟩; obtain ⟨hc1, hf1⟩ := bcell hb1; have hz1 := hb1.size; (try simp at hz1); have hz1_0 : w.heap.size < w1.heap.size := (by omega); have hz1_0_1 : w.heap.size < w1.heap.size + 1 := (by omega); have hz1_0_2 : w.heap.size < w1.heap.size + 1 + 1 := (by omega); have hz1_0_3 : w.heap.size < w1.heap.size + 1 + 1 + 1 := (by omega)
      go_wp2_with (fail)
      refine (C3.out _).mono ?_; rintro e w3 ⟨rfl, hb3⟩; obtain ⟨hc3, hf3⟩ := bcell hb3; have hz3 := hb3.size; (try simp at hz3); have hz3_0 : w.heap.size < w3.heap.size := (by omega); have hz3_0_1 : w.heap.size < w3.heap.size + 1 := (by omega); have hz3_0_2 : w.heap.size < w3.heap.size + 1 + 1 := (by omega); have hz3_0_3 : w.heap.size < w3.heap.size + 1 + 1 + 1 := (by omega)
      go_wp2
      go_ret
      exact ⟨rfl, (by repeat (first | with_reducible refine Below.setCell ?_ (by first | (simp; done) | (simp; omega) | omega) _ | with_reducible refine Below.alloc ?_ (by first | (simp; done) | (simp; omega) | omega) _ | with_reducible refine Below.drew ?_ | with_reducible refine below_drewN ?_ _ | with_reducible exact Below.refl _ _ | with_reducible refine Below.trans ?_ (Below.mono hb3 (by first | (simp; done) | (simp; omega) | omega)) | with_reducible refine Below.trans ?_ (Below.mono hb1 (by first | (simp; done) | (simp; omega) | omega))))⟩
end Go.Proofs.Ytfihkkamedghkaa
