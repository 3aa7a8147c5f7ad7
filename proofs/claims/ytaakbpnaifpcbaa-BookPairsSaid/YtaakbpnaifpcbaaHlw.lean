/- Find, Begin and Write of the reference of chapter 10, for half-edges with one line each: what each call computes. -/
import Derived.Test.YtaakbpnaifpcbaaHlg
import Derived.Deep.RegionLaw
namespace Go.Proofs.Ytaakbpnaifpcbaa
open Go.RowKit
set_option linter.unusedVariables false
set_option linter.unusedSimpArgs false
set_option maxRecDepth 100000
theorem own_ge {w : World} {base : Nat} {e : TypeId} {k n : Nat} {v : Value} {xs : List Value} (h : w.ownsRow base e k v n xs) : ∀ b, v.ownBlock = some b → base ≤ b := by
  intro b hb
  rcases h.2 with ⟨rfl, _⟩ | ⟨g, cap, cur, rfl, hg, _, _⟩
  · simp [Value.ownBlock] at hb
  · simp [Value.ownBlock] at hb
    omega
theorem lay0 {P : Program} {c : Code} {Q : Exit → Act → World → Prop} {a : Act} {W : World} (C : World → Prop) (hC : C W) (h : ∀ W', C W' → c.wp P Q a W') : c.wp P Q a W := h W hC
set_option maxHeartbeats 2000000 in
theorem rbegin_any (p b l : Int) (w : World) : Calls Try.prog 8 #[.int .i64 p, .int .i64 b, .int .i64 l] w fun e w' => e = .returned (.agg #[.int .i64 p, .int .i64 b, .int .i64 l, .slice none 0 0, .bool false, .int .i64 0]) ∧ Below w.heap.size w w' := by
  go_enter Try.func8, Try.ntmps8
  go_wp2
  refine bodyPost_ret (v := .agg #[.int .i64 p, .int .i64 b, .int .i64 l, .slice none 0 0, .bool false, .int .i64 0]) (by simp [results, Try.results8, go_sem, *]) rfl ⟨rfl, (by repeat (first | with_reducible refine Below.setCell ?_ (by first | (simp; done) | (simp; omega) | omega) _ | with_reducible refine Below.alloc ?_ (by first | (simp; done) | (simp; omega) | omega) _ | with_reducible refine Below.drew ?_ | with_reducible refine below_drewN ?_ _ | with_reducible exact Below.refl _ _))⟩
set_option maxRecDepth 100000 in
set_option maxHeartbeats 8000000 in
theorem onenil_any (p : Int) (w : World) :
    Calls Try.prog 14 #[.agg #[.int .i64 p, .int .i64 1, .int .i64 0, .slice none 0 0, .bool false, .int .i64 0]] w fun e w' => ∃ A c, e = .returned (.agg #[.int .i64 p, .int .i64 1, .int .i64 0, .slice A 0 c, .bool false, .int .i64 0]) ∧ Below w.heap.size w w' := by
  obtain ⟨i0, hi0, hz0, hz1, hz2⟩ := info_parts line_inf
  go_enter Try.func14, Try.ntmps14
  go_wp2_with (at_builtin; refine wpList_append_any _ rfl (.tmp 7) (.tmp 9) _ rfl w.heap.size 50 i0 _ 4 40 Try.underlying31 hi0 hz0 hz1 hz2 rfl (by omega) (.slice none 0 0) 0 [] rfl ⟨by simp, .inl ⟨rfl, rfl⟩⟩ w.heap.size none 0 0 [] rfl Reads.none_ (by simp) (by simp only [maxLen]; omega) (by omega) (by simp; omega) ?_; intro v1 w1 hown1 hg1 hat1; obtain ⟨A1, c1, hv1⟩ := row_slice' hown1; subst hv1; have hbg := (Below.refl _ _).grown hg1 (Nat.le_refl _) (by simp [Value.ownBlock]); obtain ⟨hc1, hf1⟩ := bcell hbg; have hs1 := hbg.size; (try simp at hs1); have kb1 : Below w.heap.size w w1 := (by repeat (first | with_reducible refine Below.setCell ?_ (by first | (simp; done) | (simp; omega) | omega) _ | with_reducible refine Below.alloc ?_ (by first | (simp; done) | (simp; omega) | omega) _ | with_reducible refine Below.drew ?_ | with_reducible refine below_drewN ?_ _ | with_reducible exact Below.refl _ _ | with_reducible refine Below.trans ?_ (Below.mono hbg (by first | (simp; done) | (simp; omega) | omega)))); have q0 : w.heap.size < w1.heap.size := (by omega); have q1 : w.heap.size + 1 < w1.heap.size := (by omega); have q2 : w.heap.size + 1 + 1 < w1.heap.size := (by omega); clear hown1 hg1 hat1 hbg)
  refine bodyPost_ret (v := .agg #[.int .i64 p, .int .i64 1, .int .i64 0, .slice A1 0 c1, .bool false, .int .i64 0]) (by simp [results, Try.results14, go_sem, *]) rfl ⟨A1, c1, rfl, (by repeat (first | with_reducible refine Below.setCell ?_ (by first | (simp; done) | (simp; omega) | omega) _ | with_reducible refine Below.alloc ?_ (by first | (simp; done) | (simp; omega) | omega) _ | with_reducible refine Below.drew ?_ | with_reducible refine below_drewN ?_ _ | with_reducible exact Below.refl _ _ | with_reducible refine Below.trans ?_ (Below.mono kb1 (by first | (simp; done) | (simp; omega) | omega))))⟩
theorem any_next {xs : List HL} {k : Nat} {x : HL} {p : Int} (h : ∀ y ∈ xs.take k, y.peer ≠ p) (hx : xs[k]? = some x) (hp : x.peer ≠ p) : ∀ y ∈ xs.take (k + 1), y.peer ≠ p := by
  intro y hy
  rw [List.take_add_one, hx] at hy
  rcases List.mem_append.1 hy with hy | hy
  · exact h y hy
  · simp at hy; subst hy; exact hp
def hasT (p : Int) (l : List Tr) : Bool := l.any (fun t => t.1 == p)
theorem hasT_true {xs : List HL} {k : Nat} {x : HL} {p : Int} (hx : xs[k]? = some x) (hp : x.peer = p) : hasT p (xs.map hd) = true := by
  unfold hasT
  rw [List.any_eq_true]
  exact ⟨hd x, List.mem_map_of_mem (List.mem_of_getElem? hx), by simp [hd, hp]⟩
theorem hasT_false {xs : List HL} {p : Int} (h : ∀ y ∈ xs, y.peer ≠ p) : hasT p (xs.map hd) = false := by
  unfold hasT
  rw [List.any_eq_false]
  intro t ht
  obtain ⟨x, hx, rfl⟩ := List.mem_map.1 ht
  simpa [hd] using h x hx
set_option maxRecDepth 100000 in
set_option maxHeartbeats 8000000 in
theorem rfind_any (A : Option Addr) (n cp : Nat) (xs : List HL) (p : Int) (w : World) (hr : HsAt w w.heap.size A n xs) (hm : n ≤ 1000) :
    Calls Try.prog 5 #[.slice A n cp, .int .i64 p] w fun e w' => ∃ (q r s : Int) (A' : Option Addr) (m c : Nat) (d : Bool) (u : Int), e = .returned (.tuple #[.agg #[.int .i64 q, .int .i64 r, .int .i64 s, .slice A' m c, .bool d, .int .i64 u], .bool (hasT p (xs.map hd))]) ∧ Below w.heap.size w w' := by
  have HR := Lib.hid hr
  clear hr
  go_enter Try.func5, Try.ntmps5
  go_wp2
  go_loopw [6] (fun i w' => ∃ (k : Nat), k ≤ n ∧ i = .int .i64 k ∧ Hid (∀ y ∈ xs.take k, y.peer ≠ p) ∧ KeptC w [(⟨w.heap.size, 0, none⟩, .int .i64 0), (⟨w.heap.size, 1, none⟩, .int .i64 0), (⟨w.heap.size, 2, none⟩, .int .i64 0), (⟨w.heap.size, 3, none⟩, .slice none 0 0), (⟨w.heap.size, 4, none⟩, .bool false), (⟨w.heap.size, 5, none⟩, .int .i64 0)] [⟨w.heap.size, 0, none⟩, ⟨w.heap.size, 1, none⟩, ⟨w.heap.size, 2, none⟩, ⟨w.heap.size, 3, none⟩, ⟨w.heap.size, 4, none⟩, ⟨w.heap.size, 5, none⟩] w') (fun i _ => n - (intOf i).toNat)
  case atStart => exact ⟨0, Nat.zero_le _, rfl, Lib.hid (by simp), (by (repeat' (first | refine KeptC.cons ?_ ?_ | refine KeptC.consF ?_ ?_ ?_ | refine KeptC.mk0 ?_)); all_goals (first | with_reducible assumption | (go_simp; done) | (simp; omega) | exact (by repeat (first | with_reducible refine Below.setCell ?_ (by first | (simp; done) | (simp; omega) | omega) _ | with_reducible refine Below.alloc ?_ (by first | (simp; done) | (simp; omega) | omega) _ | with_reducible refine Below.drew ?_ | with_reducible refine below_drewN ?_ _ | with_reducible exact Below.refl _ _))))⟩
  case round =>
    obtain ⟨k, hk, rfl, HT, hK⟩ := hrel
    have HK := Lib.hid hK
    simp only [KeptC, List.forall_mem_cons] at hK; obtain ⟨kb0, ⟨kc0_0, kc0_1, kc0_2, kc0_3, kc0_4, kc0_5, _⟩, ⟨kz0_0, kg0_0⟩, ⟨kz0_1, kg0_1⟩, ⟨kz0_2, kg0_2⟩, ⟨kz0_3, kg0_3⟩, ⟨kz0_4, kg0_4⟩, ⟨kz0_5, kg0_5⟩, _⟩ := hK
    have hs0 := kb0.size
    have hws : w.heap.size < wr.heap.size := cell_lt kc0_0
    by_cases hlt : k < n
    rotate_left
    · obtain rfl : k = n := by omega
      have HB : Hid (hasT p (xs.map hd) = false) := Lib.hid (hasT_false (by have := HT.out; rwa [List.take_of_length_le (Nat.le_of_eq HR.out.len)] at this))
      go_wp2
      refine bodyPost_ret (v := .tuple #[.agg #[.int .i64 0, .int .i64 0, .int .i64 0, .slice none 0 0, .bool false, .int .i64 0], .bool false]) (by simp [results, Try.results5, go_sem, *]) rfl ⟨0, 0, 0, none, 0, 0, false, 0, by rw [HB.out], (by repeat (first | with_reducible refine Below.setCell ?_ (by first | (simp; done) | (simp; omega) | omega) _ | with_reducible refine Below.alloc ?_ (by first | (simp; done) | (simp; omega) | omega) _ | with_reducible refine Below.drew ?_ | with_reducible refine below_drewN ?_ _ | with_reducible exact Below.refl _ _ | with_reducible refine Below.trans ?_ (Below.mono kb0 (by first | (simp; done) | (simp; omega) | omega))))⟩
    · obtain ⟨ad, x, rfl, hab, hx, h6, hlb, hl4⟩ := HR.out.get hlt
      obtain ⟨P, hP⟩ : ∃ P, ad.add (k * 6) = P := ⟨_, rfl⟩
      have hPb : P.block < w.heap.size := by rw [← hP, block_of_add]; exact hab
      rw [hP] at h6
      have hPw : P.block < wr.heap.size := by omega
      obtain ⟨c0, c1, c2, c3, c4, c5⟩ := h6.below hPb kb0
      have HX := Lib.hid hx
      have H4 := Lib.hid (hl4.below hlb kb0)
      have HB := Lib.hid hlb
      clear hx h6 hl4 hlb
      by_cases hp : x.peer = p
      · have hpb : (x.peer == p) = true := by simpa using hp
        have HH : Hid (hasT p (xs.map hd) = true) := Lib.hid (hasT_true HX.out hp)
        clear hp
        go_wp2_with (fail)
        refine (one_any x _ (by have := HB.out; omega) H4.out).mono ?_; rintro e w2 ⟨la, lc, rfl, _, _, _, hb2⟩
        have hs2 := hb2.size
        have K2 := HK.out.below hb2
        clear hb2 kb0 kc0_0 kc0_1 kc0_2 kc0_3 kc0_4 kc0_5 kz0_0 kg0_0 kz0_1 kg0_1 kz0_2 kg0_2 kz0_3 kg0_3 kz0_4 kg0_4 kz0_5 kg0_5
        simp only [KeptC, List.forall_mem_cons] at K2; obtain ⟨kb2, ⟨kc2_0, kc2_1, kc2_2, kc2_3, kc2_4, kc2_5, _⟩, ⟨kz2_0, kg2_0⟩, ⟨kz2_1, kg2_1⟩, ⟨kz2_2, kg2_2⟩, ⟨kz2_3, kg2_3⟩, ⟨kz2_4, kg2_4⟩, ⟨kz2_5, kg2_5⟩, _⟩ := K2
        have hw2 : w.heap.size < w2.heap.size := by omega
        go_wp2
        refine bodyPost_ret (v := .tuple #[.agg #[.int .i64 x.peer, .int .i64 1, .int .i64 0, .slice (some la) 1 lc, .bool false, .int .i64 0], .bool true]) (by simp [results, Try.results5, go_sem, *]) rfl ⟨_, _, _, _, _, _, _, _, by rw [HH.out], (by repeat (first | with_reducible refine Below.setCell ?_ (by first | (simp; done) | (simp; omega) | omega) _ | with_reducible refine Below.alloc ?_ (by first | (simp; done) | (simp; omega) | omega) _ | with_reducible refine Below.drew ?_ | with_reducible refine below_drewN ?_ _ | with_reducible exact Below.refl _ _ | with_reducible refine Below.trans ?_ (Below.mono kb2 (by first | (simp; done) | (simp; omega) | omega))))⟩
      · have hpb : (x.peer == p) = false := by simpa using hp
        have HT2 := Lib.hid (any_next HT.out HX.out hp)
        clear hp
        go_wp2
        go_roundw
        case rel => exact ⟨k + 1, by omega, by go_num, HT2, HK.out⟩
        case measure => simp [intOf]; omega
set_option maxRecDepth 100000 in
set_option maxHeartbeats 8000000 in
theorem rwrite_any (p wr fl : Int) (w : World) :
    Calls Try.prog 7 #[.agg #[.int .i64 p, .int .i64 1, .int .i64 0, .slice none 0 0, .bool false, .int .i64 0], .string ⟨#[109]⟩, .agg #[.int .i64 1, .int .i64 wr, .int .i64 fl]] w fun e w' => ∃ la lc, e = .returned (.agg #[.int .i64 p, .int .i64 1, .int .i64 0, .slice (some la) 1 lc, .bool false, .int .i64 0]) ∧ la.block < w'.heap.size ∧ line4 w' la wr fl ∧ Below w.heap.size w w' := by
  obtain ⟨i0, hi0, hj0, hj1, hj2⟩ := info_parts line_inf
  go_enter Try.func7, Try.ntmps7
  go_wp2_with (fail)
  refine (onenil_any p _).mono ?_; rintro e w1 ⟨A1, c1, rfl, hb1⟩
  obtain ⟨hcc1, hff1⟩ := bcell hb1
  have hs1 := hb1.size
  (try simp at hs1)
  have kb1 : Below w.heap.size w w1 := (by repeat (first | with_reducible refine Below.setCell ?_ (by first | (simp; done) | (simp; omega) | omega) _ | with_reducible refine Below.alloc ?_ (by first | (simp; done) | (simp; omega) | omega) _ | with_reducible refine Below.drew ?_ | with_reducible refine below_drewN ?_ _ | with_reducible exact Below.refl _ _ | with_reducible refine Below.trans ?_ (Below.mono hb1 (by first | (simp; done) | (simp; omega) | omega))))
  have q0 : w.heap.size < w1.heap.size := by omega
  have q1 : w.heap.size + 1 < w1.heap.size := by omega
  have q2 : w.heap.size + 1 + 1 < w1.heap.size := by omega
  clear hb1
  go_wp2
  refine wp_loop_rounds 1 ?_
  rw [rounds_succ]
  go_upto_region 11 with (fail)
  go_wp2_with (at_builtin; refine wpList_append_any _ rfl (.tmp 74) (.tmp 78) _ rfl (w1.heap.size + 1) 50 i0 _ 4 40 Try.underlying31 hi0 hj0 hj1 hj2 rfl (by omega) (.slice none 0 0) 0 [] rfl ⟨by simp, .inl ⟨rfl, rfl⟩⟩ (w1.heap.size + 1 + 1) (some ⟨w1.heap.size + 1, 0, none⟩) 1 1 (encL wr fl) rfl (line4.reads ⟨by go_simp, by go_simp, by go_simp, by go_simp⟩ (by simp)) (encL_one _ _) (by simp only [maxLen]; omega) (by omega) (by simp) ?_; intro v2 w2 hown2 hg2 hat2; obtain ⟨A2, c2, hv2⟩ := row_slice' hown2; subst hv2; have hbg := (Below.refl _ _).grown hg2 (Nat.le_refl _) (by simp [Value.ownBlock]); obtain ⟨hcc2, hff2⟩ := bcell hbg; have hs2 := hbg.size; (try simp at hs2); have K2 : KeptC w [(⟨w1.heap.size, 0, none⟩, .int .i64 p), (⟨w1.heap.size, 1, none⟩, .int .i64 1), (⟨w1.heap.size, 2, none⟩, .int .i64 0), (⟨w1.heap.size, 3, none⟩, .slice none 0 0), (⟨w1.heap.size, 4, none⟩, .bool false), (⟨w1.heap.size, 5, none⟩, .int .i64 0), (⟨w.heap.size, 3, none⟩, .slice none 0 0), (⟨w.heap.size + 1 + 1, 0, none⟩, .int .i64 0), (⟨w.heap.size + 1 + 1, 1, none⟩, .int .i64 0), (⟨w.heap.size + 1 + 1, 2, none⟩, .int .i64 0), (⟨w.heap.size + 1 + 1, 3, none⟩, .slice none 0 0), (⟨w.heap.size + 1 + 1, 4, none⟩, .bool false), (⟨w.heap.size + 1 + 1, 5, none⟩, .int .i64 0)] [⟨w1.heap.size, 3, none⟩, ⟨w.heap.size + 1 + 1, 0, none⟩, ⟨w.heap.size + 1 + 1, 1, none⟩, ⟨w.heap.size + 1 + 1, 2, none⟩, ⟨w.heap.size + 1 + 1, 3, none⟩, ⟨w.heap.size + 1 + 1, 4, none⟩, ⟨w.heap.size + 1 + 1, 5, none⟩] w2 := KeptC.below (by (repeat' (first | refine KeptC.cons ?_ ?_ | refine KeptC.consF ?_ ?_ ?_ | refine KeptC.mk0 ?_)); all_goals (first | with_reducible assumption | (go_simp; done) | (simp; omega) | exact (by repeat (first | with_reducible refine Below.setCell ?_ (by first | (simp; done) | (simp; omega) | omega) _ | with_reducible refine Below.alloc ?_ (by first | (simp; done) | (simp; omega) | omega) _ | with_reducible refine Below.drew ?_ | with_reducible refine below_drewN ?_ _ | with_reducible exact Below.refl _ _ | with_reducible refine Below.trans ?_ (Below.mono kb1 (by first | (simp; done) | (simp; omega) | omega)))))) hbg; have kb2 : Below w.heap.size w w2 := K2.1; have p0 : w.heap.size < w2.heap.size := (by omega); have p1 : w.heap.size + 1 < w2.heap.size := (by omega); have p2 : w.heap.size + 1 + 1 < w2.heap.size := (by omega); have p3 : w1.heap.size < w2.heap.size := (by omega); simp only [List.nil_append, Nat.zero_add] at hown2; have HW2 := Lib.hid hown2; clear hown2 hg2 hat2 hbg)
  go_upto_region 14 with (fail)
  refine lay0 (fun W => KeptC w [(⟨w1.heap.size, 0, none⟩, .int .i64 p), (⟨w1.heap.size, 1, none⟩, .int .i64 1), (⟨w1.heap.size, 2, none⟩, .int .i64 0), (⟨w1.heap.size, 3, none⟩, .slice A2 1 c2), (⟨w1.heap.size, 4, none⟩, .bool false), (⟨w1.heap.size, 5, none⟩, .int .i64 0), (⟨w.heap.size, 3, none⟩, .slice none 0 0), (⟨w.heap.size + 1 + 1, 0, none⟩, .int .i64 0), (⟨w.heap.size + 1 + 1, 1, none⟩, .int .i64 0), (⟨w.heap.size + 1 + 1, 2, none⟩, .int .i64 0), (⟨w.heap.size + 1 + 1, 3, none⟩, .slice none 0 0), (⟨w.heap.size + 1 + 1, 4, none⟩, .bool false), (⟨w.heap.size + 1 + 1, 5, none⟩, .int .i64 0)] [⟨w1.heap.size, 3, none⟩, ⟨w.heap.size + 1 + 1, 0, none⟩, ⟨w.heap.size + 1 + 1, 1, none⟩, ⟨w.heap.size + 1 + 1, 2, none⟩, ⟨w.heap.size + 1 + 1, 3, none⟩, ⟨w.heap.size + 1 + 1, 4, none⟩, ⟨w.heap.size + 1 + 1, 5, none⟩] W ∧ W.ownsRow (w1.heap.size + 1) 50 4 (.slice A2 1 c2) 1 (encL wr fl) ∧ w1.heap.size < W.heap.size) ?_ ?_
  · simp only [KeptC, List.forall_mem_cons] at K2; obtain ⟨kb2, ⟨kc2_0, kc2_1, kc2_2, kc2_3, kc2_4, kc2_5, kc2_6, kc2_7, kc2_8, kc2_9, kc2_10, kc2_11, kc2_12, _⟩, ⟨kz2_0, kg2_0⟩, ⟨kz2_1, kg2_1⟩, ⟨kz2_2, kg2_2⟩, ⟨kz2_3, kg2_3⟩, ⟨kz2_4, kg2_4⟩, ⟨kz2_5, kg2_5⟩, ⟨kz2_6, kg2_6⟩, _⟩ := K2
    exact ⟨(by (repeat' (first | refine KeptC.cons ?_ ?_ | refine KeptC.consF ?_ ?_ ?_ | refine KeptC.mk0 ?_)); all_goals (first | with_reducible assumption | (go_simp; done) | (simp; omega) | exact (by repeat (first | with_reducible refine Below.setCell ?_ (by first | (simp; done) | (simp; omega) | omega) _ | with_reducible refine Below.alloc ?_ (by first | (simp; done) | (simp; omega) | omega) _ | with_reducible refine Below.drew ?_ | with_reducible refine below_drewN ?_ _ | with_reducible exact Below.refl _ _ | with_reducible refine Below.trans ?_ (Below.mono kb2 (by first | (simp; done) | (simp; omega) | omega)))))), ownsRow_setCell_below HW2.out (by simp) _, by simp; omega⟩
  rintro w3 ⟨hK3, hown3, hs3⟩
  have HW3 := Lib.hid hown3
  clear hown3 hcc2 hff2 hs2 HW2 kb2 p0 p1 p2 p3 hcc1 hff1
  simp only [KeptC, List.forall_mem_cons] at hK3; obtain ⟨kb3, ⟨kc3_0, kc3_1, kc3_2, kc3_3, kc3_4, kc3_5, kc3_6, kc3_7, kc3_8, kc3_9, kc3_10, kc3_11, kc3_12, _⟩, ⟨kz3_0, kg3_0⟩, ⟨kz3_1, kg3_1⟩, ⟨kz3_2, kg3_2⟩, ⟨kz3_3, kg3_3⟩, ⟨kz3_4, kg3_4⟩, ⟨kz3_5, kg3_5⟩, ⟨kz3_6, kg3_6⟩, _⟩ := hK3
  have p0 : w.heap.size < w3.heap.size := by omega
  have p1 : w.heap.size + 1 < w3.heap.size := by omega
  have p2 : w.heap.size + 1 + 1 < w3.heap.size := by omega
  go_region_law (refine step_append_any _ rfl (.tmp 85) (.tmp 89) _ rfl (w1.heap.size + 1) 50 i0 _ 4 40 Try.underlying31 hi0 hj0 hj1 hj2 rfl (by omega) (.slice A2 1 c2) 1 (encL wr fl) rfl (by exact HW3.out) w.heap.size none 0 0 [] rfl Reads.none_ (by simp) (by simp only [maxLen]; omega) (by omega) (by simp; omega) ?_; intro v4 w4 hown4 hg4 hat4; obtain ⟨A4, c4, hv4⟩ := row_slice' hown4; subst hv4; have hb4 := row_grown (by exact HW3.out) hg4 (by first | omega | (simp; omega)); have e0 := (hb4.cell (p := ⟨w1.heap.size, 0, none⟩) (by first | (simp; done) | (simp; omega) | omega)).trans kc3_0; have e1 := (hb4.cell (p := ⟨w1.heap.size, 1, none⟩) (by first | (simp; done) | (simp; omega) | omega)).trans kc3_1; have e2 := (hb4.cell (p := ⟨w1.heap.size, 2, none⟩) (by first | (simp; done) | (simp; omega) | omega)).trans kc3_2; have e3 := (hb4.cell (p := ⟨w1.heap.size, 3, none⟩) (by first | (simp; done) | (simp; omega) | omega)).trans kc3_3; have e4 := (hb4.cell (p := ⟨w1.heap.size, 4, none⟩) (by first | (simp; done) | (simp; omega) | omega)).trans kc3_4; have e5 := (hb4.cell (p := ⟨w1.heap.size, 5, none⟩) (by first | (simp; done) | (simp; omega) | omega)).trans kc3_5; have d0 := (hb4.cell (p := ⟨w.heap.size + 1 + 1, 0, none⟩) (by first | (simp; done) | (simp; omega) | omega)).trans kc3_7; have d1 := (hb4.cell (p := ⟨w.heap.size + 1 + 1, 1, none⟩) (by first | (simp; done) | (simp; omega) | omega)).trans kc3_8; have d2 := (hb4.cell (p := ⟨w.heap.size + 1 + 1, 2, none⟩) (by first | (simp; done) | (simp; omega) | omega)).trans kc3_9; have d3 := (hb4.cell (p := ⟨w.heap.size + 1 + 1, 3, none⟩) (by first | (simp; done) | (simp; omega) | omega)).trans kc3_10; have d4 := (hb4.cell (p := ⟨w.heap.size + 1 + 1, 4, none⟩) (by first | (simp; done) | (simp; omega) | omega)).trans kc3_11; have d5 := (hb4.cell (p := ⟨w.heap.size + 1 + 1, 5, none⟩) (by first | (simp; done) | (simp; omega) | omega)).trans kc3_12; have g3 := (hb4.frozen (p := ⟨w1.heap.size, 3, none⟩) (by first | (simp; done) | (simp; omega) | omega)).trans kg3_0; have f0 := (hb4.frozen (p := ⟨w.heap.size + 1 + 1, 0, none⟩) (by first | (simp; done) | (simp; omega) | omega)).trans kg3_1; have f1 := (hb4.frozen (p := ⟨w.heap.size + 1 + 1, 1, none⟩) (by first | (simp; done) | (simp; omega) | omega)).trans kg3_2; have f2 := (hb4.frozen (p := ⟨w.heap.size + 1 + 1, 2, none⟩) (by first | (simp; done) | (simp; omega) | omega)).trans kg3_3; have f3 := (hb4.frozen (p := ⟨w.heap.size + 1 + 1, 3, none⟩) (by first | (simp; done) | (simp; omega) | omega)).trans kg3_4; have f4 := (hb4.frozen (p := ⟨w.heap.size + 1 + 1, 4, none⟩) (by first | (simp; done) | (simp; omega) | omega)).trans kg3_5; have f5 := (hb4.frozen (p := ⟨w.heap.size + 1 + 1, 5, none⟩) (by first | (simp; done) | (simp; omega) | omega)).trans kg3_6; have hs4 := hb4.size; (try simp at hs4); have kb4 : Below w.heap.size w w4 := (by repeat (first | with_reducible refine Below.setCell ?_ (by first | (simp; done) | (simp; omega) | omega) _ | with_reducible refine Below.alloc ?_ (by first | (simp; done) | (simp; omega) | omega) _ | with_reducible refine Below.drew ?_ | with_reducible refine below_drewN ?_ _ | with_reducible exact Below.refl _ _ | with_reducible refine Below.trans ?_ (Below.mono hb4 (by first | (simp; done) | (simp; omega) | omega)) | with_reducible refine Below.trans ?_ (Below.mono kb3 (by first | (simp; done) | (simp; omega) | omega)))); have r3 : w1.heap.size < w4.heap.size := (by omega); have r2 : w.heap.size + 1 + 1 < w4.heap.size := (by omega); simp only [List.append_nil, Nat.add_zero] at hown4; have HW4 := Lib.hid hown4; clear hown4 hg4 hat4 hb4)
  all_goals (
    obtain ⟨la, hA4, hlb, hl4⟩ := line4_of (Reads.of_own HW4.out)
    subst hA4
    have hge := own_ge HW4.out la.block (by simp [Value.ownBlock])
    have d1 : la.block ≠ w1.heap.size := by omega
    have d2 : la.block ≠ w.heap.size + 1 + 1 := by omega
    go_wp2
    refine bodyPost_ret (v := .agg #[.int .i64 p, .int .i64 1, .int .i64 0, .slice (some la) 1 c4, .bool false, .int .i64 0]) (by simp [results, Try.results7, go_sem, *]) rfl ⟨la, c4, rfl, by simp; omega, (by repeat (first | with_reducible exact hl4 | with_reducible refine line4.setCell ?_ (by simp only []; omega))), (by repeat (first | with_reducible refine Below.setCell ?_ (by first | (simp; done) | (simp; omega) | omega) _ | with_reducible refine Below.alloc ?_ (by first | (simp; done) | (simp; omega) | omega) _ | with_reducible refine Below.drew ?_ | with_reducible refine below_drewN ?_ _ | with_reducible exact Below.refl _ _ | with_reducible refine Below.trans ?_ (Below.mono kb4 (by first | (simp; done) | (simp; omega) | omega))))⟩)
end Go.Proofs.Ytaakbpnaifpcbaa
