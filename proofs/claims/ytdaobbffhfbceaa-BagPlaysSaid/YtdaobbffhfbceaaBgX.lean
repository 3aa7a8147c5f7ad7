/- The closures of Sever and of Forget; slices.IndexFunc and slices.DeleteFunc with each: what the calls compute. -/
import Derived.Test.YtdaobbffhfbceaaBgD
import Derived.Test.YtdaobbffhfbceaaBgE
namespace Go.Proofs.Ytdaobbffhfbceaa
open Go.RowKit Go.Shelf
set_option linter.unusedVariables false
set_option linter.unusedSimpArgs false
set_option maxRecDepth 100000
def filtP (p : Dg → Bool) (L : List Dg) : List Dg := L.filter (fun d => !p d)
theorem filtP_next {p : Dg → Bool} {L : List Dg} {j : Nat} {x : Dg} (h : L[j]? = some x) : filtP p (L.take (j + 1)) = filtP p (L.take j) ++ (if p x then [] else [x]) := by
  unfold filtP
  rw [List.take_add_one, h]
  simp only [Option.toList_some, List.filter_append]
  congr 1
  cases hp : p x <;> simp [hp]
theorem filtP_le (p : Dg → Bool) (L : List Dg) (j : Nat) : (filtP p (L.take j)).length ≤ j := Nat.le_trans (List.length_filter_le ..) (List.length_take_le ..)
theorem filtP_all {p : Dg → Bool} {L : List Dg} (h : ∀ d ∈ L, p d = false) : filtP p L = L := by
  unfold filtP
  rw [List.filter_eq_self]
  intro d hd
  rw [h d hd]
  rfl
def KeepP (p : Dg → Bool) (L : List Dg) (j : Nat) (R : Nat → Dg) : Prop := (∀ t x, (filtP p (L.take j))[t]? = some x → R t = x) ∧ ∀ t x, j ≤ t → L[t]? = some x → R t = x
theorem keep_gone {p : Dg → Bool} {L : List Dg} {j : Nat} {R : Nat → Dg} {x : Dg} (h : KeepP p L j R) (hx : L[j]? = some x) (hp : p x = true) : KeepP p L (j + 1) R := by
  refine ⟨fun t y hy => h.1 t y ?_, fun t y ht hy => h.2 t y (by omega) hy⟩
  rw [filtP_next hx, hp] at hy
  simpa using hy
theorem keep_kept {p : Dg → Bool} {L : List Dg} {j : Nat} {R : Nat → Dg} {x : Dg} (h : KeepP p L j R) (hx : L[j]? = some x) (hp : p x = false) : KeepP p L (j + 1) (fun t => if t = (filtP p (L.take j)).length then x else R t) := by
  have hle := filtP_le p L j
  refine ⟨fun t y hy => ?_, fun t y ht hy => ?_⟩
  · rw [filtP_next hx, hp] at hy
    simp only [Bool.false_eq_true, if_false] at hy
    dsimp only
    rcases Nat.lt_trichotomy t (filtP p (L.take j)).length with h1 | h1 | h1
    · rw [if_neg (by omega)]
      rw [List.getElem?_append_left h1] at hy
      exact h.1 t y hy
    · rw [if_pos h1]
      rw [h1, List.getElem?_append_right (Nat.le_refl _), Nat.sub_self] at hy
      simpa using hy
    · rw [List.getElem?_eq_none (by rw [List.length_append, List.length_singleton]; omega)] at hy
      cases hy
  · dsimp only
    rw [if_neg (by omega)]
    exact h.2 t y (by omega) hy
def sevP (a b : Int) (d : Dg) : Bool := !(d.frm == d.dst) && lEq (lnk d.frm d.dst) (lnk a b)
theorem sevP_cut {a b : Int} (h : a ≠ b) (d : Dg) : sevP a b d = cutB a b d := by
  unfold sevP cutB
  rw [Bool.eq_iff_iff]
  simp only [Bool.and_eq_true, Bool.or_eq_true, Bool.not_eq_true', beq_eq_false_iff_ne, beq_iff_eq, lEq_iff, lnk_eq h]
  constructor
  · exact fun h => h.2
  · intro h2
    exact ⟨by omega, h2⟩
def dstP (t : Int) (d : Dg) : Bool := d.dst == t
theorem forget1_any (d : Dg) (Bt : Nat) (t : Int) (w : World) (h : w.cell? ⟨Bt, 0, none⟩ = some (.int .i64 t)) :
    Calls Try.prog 30 #[dAgg d, .pointer (some ⟨Bt, 0, none⟩)] w fun e w' => e = .returned (.bool (dstP t d)) ∧ Below w.heap.size w w' := by
  obtain ⟨xn, xf, xt, xb⟩ := d
  have hl := cell_lt h
  simp only [] at hl
  go_enter Try.func30, Try.ntmps30
  go_wp2
  go_ret
  exact ⟨rfl, (by repeat (first | with_reducible refine Below.setCell ?_ (by first | (simp; done) | (simp; omega) | omega) _ | with_reducible refine Below.alloc ?_ (by first | (simp; done) | (simp; omega) | omega) _ | with_reducible refine Below.drew ?_ | with_reducible refine below_drewN ?_ _ | with_reducible exact Below.refl _ _))⟩
set_option maxHeartbeats 4000000 in
theorem sever1_any (d : Dg) (Ba Bb : Nat) (a b : Int) (w : World) (ha : w.cell? ⟨Ba, 0, none⟩ = some (.int .i64 a)) (hb : w.cell? ⟨Bb, 0, none⟩ = some (.int .i64 b)) :
    Calls Try.prog 28 #[dAgg d, .pointer (some ⟨Ba, 0, none⟩), .pointer (some ⟨Bb, 0, none⟩)] w fun e w' => e = .returned (.bool (sevP a b d)) ∧ Below w.heap.size w w' := by
  obtain ⟨xn, xf, xt, xb⟩ := d
  have hla := cell_lt ha
  have hlb := cell_lt hb
  simp only [] at hla hlb
  obtain ⟨v, hv⟩ : ∃ v, lEq (lnk xf xt) (lnk a b) = v := ⟨_, rfl⟩
  have hs : sevP a b ⟨xn, xf, xt, xb⟩ = (!(xf == xt) && v) := by rw [← hv]; rfl
  rw [hs]
  obtain ⟨p, hp⟩ : ∃ p, lnk xf xt = p := ⟨_, rfl⟩
  obtain ⟨q, hq⟩ : ∃ q, lnk a b = q := ⟨_, rfl⟩
  have c1 : ∀ W, Calls Try.prog 24 #[.int .i64 xf, .int .i64 xt] W fun e w' => e = .returned (lAgg p) ∧ Below W.heap.size W w' := fun W => by rw [← hp]; exact pair_any xf xt W
  have c2 : ∀ W, Calls Try.prog 24 #[.int .i64 a, .int .i64 b] W fun e w' => e = .returned (lAgg q) ∧ Below W.heap.size W w' := fun W => by rw [← hq]; exact pair_any a b W
  have C1 := Lib.hid c1
  have C2 := Lib.hid c2
  rw [hp, hq] at hv
  clear c1 c2 hp hq hs
  obtain ⟨p1, p2⟩ := p
  obtain ⟨q1, q2⟩ := q
  have he : ∀ W, (binOp .eql 64 (.agg #[.int .i64 p1, .int .i64 p2]) (.agg #[.int .i64 q1, .int .i64 q2])).run Try.prog W = .ok (.bool v) W := fun W => by rw [eql_link (p1, p2) (q1, q2) W, hv]
  clear hv
  cases hne : (xf == xt) with
  | true =>
    have hn2 : (!(xf == xt)) = false := by rw [hne]; rfl
    have hn3 : (xf != xt) = false := by unfold bne; exact hn2
    go_enter Try.func28, Try.ntmps28
    go_wp2
    refine wp_region_quietC_lit (KeptC w [(⟨w.heap.size, 0, none⟩, .int .i64 xn), (⟨w.heap.size, 1, none⟩, .int .i64 xf), (⟨w.heap.size, 2, none⟩, .int .i64 xt), (⟨w.heap.size, 3, none⟩, .string xb), (⟨Ba, 0, none⟩, .int .i64 a), (⟨Bb, 0, none⟩, .int .i64 b)] []) (by kernel_rfl) (by kernel_rfl) ?_ ?_
    · refine KeptC.drewn ?_
      repeat' (first | refine KeptC.cons ?_ ?_ | refine KeptC.consF ?_ ?_ ?_ | refine KeptC.mk0 ?_)
      all_goals (first | with_reducible assumption | (go_simp; done) | (simp; omega) | exact (by repeat (first | with_reducible refine Below.setCell ?_ (by first | (simp; done) | (simp; omega) | omega) _ | with_reducible refine Below.alloc ?_ (by first | (simp; done) | (simp; omega) | omega) _ | with_reducible refine Below.drew ?_ | with_reducible refine below_drewN ?_ _ | with_reducible exact Below.refl _ _)))
    repeat (first
      | go_big_quiet_skip
      | (go_big_quiet_want; (apply quietC_run); (· intro w' hw'; (have hk' := hw'; simp only [KeptC, List.forall_mem_cons] at hk'; go_split_ands); go_simp; first | done | rfl); (simp only [Act.put, List.setIfInBounds_toArray, List.set_cons_zero, List.set_cons_succ]; go_big_quiet_on))
      | (go_big_quiet_want; (apply quietC_call); (· intro w' hw'; go_simp; first | done | exact ⟨rfl, rfl⟩ | rfl); (· intro w' hw'; first | ((with_reducible refine (C1.out _).mono ?_); rintro e w2 ⟨rfl, hb⟩; exact ⟨rfl, hw'.below hb⟩) | ((with_reducible refine (C2.out _).mono ?_); rintro e w2 ⟨rfl, hb⟩; exact ⟨rfl, hw'.below hb⟩)); (simp only [Act.put, List.setIfInBounds_toArray, List.set_cons_zero, List.set_cons_succ]; go_big_quiet_on)))
    refine wpQuiet_nil ?_
    intro w9 hk9
    (have hk' := hk9; simp only [KeptC, List.forall_mem_cons] at hk'; go_split_ands); have hkB9 := hk9.1
    go_wp2
    go_ret
    exact ⟨rfl, hkB9⟩
  | false =>
    have hn2 : (!(xf == xt)) = true := by rw [hne]; rfl
    have hn3 : (xf != xt) = true := by unfold bne; exact hn2
    go_enter Try.func28, Try.ntmps28
    go_wp2
    refine wp_region_quietC_lit (KeptC w [(⟨w.heap.size, 0, none⟩, .int .i64 xn), (⟨w.heap.size, 1, none⟩, .int .i64 xf), (⟨w.heap.size, 2, none⟩, .int .i64 xt), (⟨w.heap.size, 3, none⟩, .string xb), (⟨Ba, 0, none⟩, .int .i64 a), (⟨Bb, 0, none⟩, .int .i64 b)] []) (by kernel_rfl) (by kernel_rfl) ?_ ?_
    · refine KeptC.drewn ?_
      repeat' (first | refine KeptC.cons ?_ ?_ | refine KeptC.consF ?_ ?_ ?_ | refine KeptC.mk0 ?_)
      all_goals (first | with_reducible assumption | (go_simp; done) | (simp; omega) | exact (by repeat (first | with_reducible refine Below.setCell ?_ (by first | (simp; done) | (simp; omega) | omega) _ | with_reducible refine Below.alloc ?_ (by first | (simp; done) | (simp; omega) | omega) _ | with_reducible refine Below.drew ?_ | with_reducible refine below_drewN ?_ _ | with_reducible exact Below.refl _ _)))
    repeat (first
      | go_big_quiet_skip
      | (go_big_quiet_want; (apply quietC_run); (· intro w' hw'; (have hk' := hw'; simp only [KeptC, List.forall_mem_cons] at hk'; go_split_ands); go_simp; first | done | rfl); (simp only [Act.put, List.setIfInBounds_toArray, List.set_cons_zero, List.set_cons_succ]; go_big_quiet_on))
      | (go_big_quiet_want; (apply quietC_call); (· intro w' hw'; go_simp; first | done | exact ⟨rfl, rfl⟩ | rfl); (· intro w' hw'; first | ((with_reducible refine (C1.out _).mono ?_); rintro e w2 ⟨rfl, hb⟩; exact ⟨rfl, hw'.below hb⟩) | ((with_reducible refine (C2.out _).mono ?_); rintro e w2 ⟨rfl, hb⟩; exact ⟨rfl, hw'.below hb⟩)); (simp only [Act.put, List.setIfInBounds_toArray, List.set_cons_zero, List.set_cons_succ]; go_big_quiet_on)))
    refine wpQuiet_nil ?_
    intro w9 hk9
    (have hk' := hk9; simp only [KeptC, List.forall_mem_cons] at hk'; go_split_ands); have hkB9 := hk9.1
    go_wp2
    go_ret
    exact ⟨rfl, hkB9⟩
set_option maxHeartbeats 4000000 in
theorem index_f (A : Option Addr) (n cp : Nat) (ls : List Dg) (Bt : Nat) (tv : Int) (w : World) (hBt : w.cell? ⟨Bt, 0, none⟩ = some (.int .i64 tv)) (hr : RowsE encD 4 w w.heap.size A n ls) (hn : n ≤ 65536) :
    Calls Try.prog 53 #[.slice A n cp, .func (.func 30) #[] #[.pointer (some ⟨Bt, 0, none⟩)]] w fun e w' => ∃ r : Int, e = .returned (.int .i64 r) ∧ ((r = -1 ∧ ∀ d ∈ ls, dstP tv d = false) ∨ ∃ (k : Nat) (x : Dg), r = k ∧ k < n ∧ (∀ d ∈ ls.take k, dstP tv d = false) ∧ ls[k]? = some x ∧ dstP tv x = true) ∧ Below w.heap.size w w' := by
  have HR := Lib.hid hr
  have hlBt := cell_lt hBt; simp only [] at hlBt
  clear hr
  go_enter Try.func53, Try.ntmps53
  go_wp2
  go_loopw [8] (fun i w' => ∃ (k : Nat), k ≤ n ∧ i = .int .i64 k ∧ Hid (∀ d ∈ ls.take k, dstP tv d = false) ∧ Below w.heap.size w w') (fun i _ => n - (intOf i).toNat)
  case atStart => exact ⟨0, Nat.zero_le _, rfl, Lib.hid (by simp), Below.refl _ _⟩
  case round =>
    obtain ⟨k, hk, rfl, HA, kb0⟩ := hrel
    have hs0 := kb0.size
    have gBt := (kb0.cell (p := ⟨Bt, 0, none⟩) hlBt).trans hBt
    by_cases hlt : k < n
    rotate_left
    · obtain rfl : k = n := by omega
      go_wp2
      go_ret
      refine ⟨_, rfl, .inl ⟨rfl, ?_⟩, kb0⟩
      have := HA.out
      rwa [List.take_of_length_le (Nat.le_of_eq HR.out.1)] at this
    · obtain ⟨ad, x, rfl, hab, hx, h4⟩ := HR.out.get hlt
      obtain ⟨P, hP⟩ : ∃ P, ad.add (k * 4) = P := ⟨_, rfl⟩
      have hPb : P.block < w.heap.size := by rw [← hP, block_of_add]; exact hab
      rw [hP] at h4
      have hPw : P.block < wr.heap.size := by omega
      have c0 : wr.cell? P = some (.int .i64 x.num) := (kb0.cell (p := P) hPb).trans (by have := h4 0 _ rfl; rwa [add_z P] at this)
      have c1 : wr.cell? ⟨P.block, P.off + 1, none⟩ = some (.int .i64 x.frm) := (kb0.cell (p := ⟨P.block, P.off + 1, none⟩) hPb).trans (by have := h4 1 _ rfl; rwa [add_next P 0] at this)
      have c2 : wr.cell? ⟨P.block, P.off + 2, none⟩ = some (.int .i64 x.dst) := (kb0.cell (p := ⟨P.block, P.off + 2, none⟩) hPb).trans (by have := h4 2 _ rfl; rwa [add_next P 1] at this)
      have c3 : wr.cell? ⟨P.block, P.off + 3, none⟩ = some (.string x.body) := (kb0.cell (p := ⟨P.block, P.off + 3, none⟩) hPb).trans (by have := h4 3 _ rfl; rwa [add_next P 2] at this)
      clear h4
      obtain ⟨xn, xf, xt, xb⟩ := x
      simp only [] at c0 c1 c2 c3
      have HX := Lib.hid hx
      clear hx
      obtain ⟨v, hv⟩ : ∃ v, dstP tv ⟨xn, xf, xt, xb⟩ = v := ⟨_, rfl⟩
      have HV := Lib.hid hv
      have cc := forget1_any ⟨xn, xf, xt, xb⟩ Bt tv wr gBt
      rw [hv] at cc
      clear hv
      go_wp2_with (fail)
      refine cc.mono ?_; rintro e w2 ⟨rfl, hb2⟩
      have kb2 : Below w.heap.size w w2 := (by repeat (first | with_reducible refine Below.setCell ?_ (by first | (simp; done) | (simp; omega) | omega) _ | with_reducible refine Below.alloc ?_ (by first | (simp; done) | (simp; omega) | omega) _ | with_reducible refine Below.drew ?_ | with_reducible refine below_drewN ?_ _ | with_reducible exact Below.refl _ _ | with_reducible refine Below.trans ?_ (Below.mono hb2 (by first | (simp; done) | (simp; omega) | omega)) | with_reducible refine Below.trans ?_ (Below.mono kb0 (by first | (simp; done) | (simp; omega) | omega))))
      clear hb2
      cases v with
      | true =>
        go_wp2
        go_ret
        exact ⟨_, rfl, .inr ⟨k, _, rfl, hlt, HA.out, HX.out, HV.out⟩, kb2⟩
      | false =>
        go_wp2
        go_roundw
        case rel => exact ⟨k + 1, by omega, by go_num, Lib.hid (fun d hd => by
          rw [List.take_add_one, HX.out] at hd
          rcases List.mem_append.1 hd with hd | hd
          · exact HA.out d hd
          · simp only [Option.toList_some, List.mem_singleton] at hd
            subst hd
            exact HV.out), kb2⟩
        case measure => simp [intOf]; omega
set_option maxHeartbeats 4000000 in
theorem deleteF_f (g cap n : Nat) (ls : List Dg) (f0 : Nat → Value) (Bt : Nat) (tv : Int) (w : World) (hBt : w.cell? ⟨Bt, 0, none⟩ = some (.int .i64 tv)) (hl : ls.length = n) (h : RowAt w g cap n (fun t => (ls[t]?).getD Dg0) f0) (hnc : n ≤ cap) (hc : cap ≤ maxLen) (hn : n ≤ 65536) (hdBt : Bt ≠ g) :
    Calls Try.prog 43 #[.slice (some ⟨g, 0, none⟩) n cap, .func (.func 30) #[] #[.pointer (some ⟨Bt, 0, none⟩)]] w fun e w' => e = .returned (.slice (some ⟨g, 0, none⟩) (filtP (dstP tv) ls).length cap) ∧ (∃ R, RowAt w' g cap n R f0 ∧ ∀ (t : Nat) (x : Dg), (filtP (dstP tv) ls)[t]? = some x → R t = x) ∧ Turn [g] w w' := by
  have hlBt := cell_lt hBt; simp only [] at hlBt
  have hgl : g < w.heap.size := h.lt
  have hrd : RowsE encD 4 w w.heap.size (some ⟨g, 0, none⟩) n ls := by
    have ho := is_own (ls := ls) h (by omega) hnc hc (fun t d hd => by rw [hd]; rfl)
    obtain ⟨A, c, e, hr⟩ := OwnE.at_ encD_len ho
    obtain ⟨e1, _, _⟩ := Value.slice.inj e
    rw [← e1, hl] at hr
    exact hr
  have ci := index_f (some ⟨g, 0, none⟩) n cap ls Bt tv w hBt hrd hn
  have CI := Lib.hid ci
  have HRW := Lib.hid h
  have HLN := Lib.hid hl
  have hcap : (cap : Int) ≤ 9223372036854775807 := by unfold maxLen at hc; omega
  clear ci h hrd hl
  go_enter Try.func43, Try.ntmps43
  go_wp2_with (fail)
  refine CI.out.mono ?_; rintro e w1 ⟨r, rfl, hd, hb1⟩
  have kt1 : Turn [g] w w1 := Turn.below hb1 (Nat.le_refl _)
  have hz1 := hb1.size
  have HRW1 : Hid (RowAt w1 g cap n (fun t => (ls[t]?).getD Dg0) f0) := Lib.hid (HRW.out.of_block (hb1.block g hgl))
  clear CI HRW
  rcases hd with ⟨rfl, hall⟩ | ⟨k, x, rfl, hk, hal, hx, hxa⟩
  · have HE := Lib.hid (filtP_all hall)
    clear hall
    go_wp2
    go_ret
    refine ⟨by rw [HE.out, HLN.out]; rfl, ⟨_, HRW1.out, fun t x ht => ?_⟩, kt1⟩
    rw [HE.out] at ht
    rw [ht]
    rfl
  · have hneg : ((k : Int) == (-1 : Int)) = false := by simp
    have hneg' : ¬ (k : Int) = -1 := by omega
    have HK0 : Hid ((filtP (dstP tv) (ls.take (k + 1))).length = k ∧ KeepP (dstP tv) ls (k + 1) (fun t => (ls[t]?).getD Dg0)) := by
      have e : filtP (dstP tv) (ls.take (k + 1)) = ls.take k := by
        rw [filtP_next hx, hxa]
        simp only [if_true, List.append_nil]
        exact filtP_all hal
      refine Lib.hid ⟨by rw [e, List.length_take]; have := HLN.out; omega, ?_, fun t y _ h => by simp only [h, Option.getD_some]⟩
      intro t y h
      rw [e] at h
      have h2 := (List.getElem?_eq_some_iff.1 h).1
      simp at h2
      rw [List.getElem?_take_of_lt (by omega)] at h
      simp only [h, Option.getD_some]
    clear hal hx hxa x
    have g1Bt := (hb1.cell (p := ⟨Bt, 0, none⟩) hlBt).trans hBt
    clear hb1
    go_wp2
    go_loopw [5, 6] (fun iv jv w' => ∃ (i j : Nat) (R : Nat → Dg), i < j ∧ j ≤ n ∧ iv = .int .i64 i ∧ jv = .int .i64 j ∧ Hid ((filtP (dstP tv) (ls.take j)).length = i ∧ KeepP (dstP tv) ls j R) ∧ Hid (RowAt w' g cap n R f0) ∧ w'.cell? ⟨Bt, 0, none⟩ = some (.int .i64 tv) ∧ Turn [g] w w') (fun _ jv _ => n - (intOf jv).toNat)
    case atStart => exact ⟨k, k + 1, _, by omega, by omega, rfl, by go_num, HK0, HRW1, g1Bt, kt1⟩
    case round =>
      obtain ⟨i, j, R, hij, hj, rfl, rfl, HK, HRW, qBt, kt2⟩ := hrel
      have hz2 := kt2.size
      have hgl2 : g < wr.heap.size := by omega
      clear HRW1 HK0 kt1 g1Bt
      have hwBt : Bt < wr.heap.size := (by omega)
      have hin : i < n := by omega
      by_cases hlt : j < n
      rotate_left
      · obtain rfl : j = n := by omega
        have hlay := row_lay (i := i) (xs := List.replicate (j - i) Dg0) HRW.out (by simp; omega)
        rw [← zerosD_flat] at hlay
        have hcl : ∀ ty, (Builtin.clear_ #[43] ty #[.slice (some ⟨g, i * 4, none⟩) (j - i) (cap - i)]).run Try.prog wr = .ok (.tuple #[]) (wr.setCells g (i * 4) (zerosD (j - i))) := fun ty => by
          refine run_clear_dgs wr ⟨g, i * 4, none⟩ rfl (j - i) _ (by omega) (fun m hm' => ?_) (fun m hm' => ?_) ty
          · show (World.cell? _ _).isSome = true
            rw [HRW.out.cell (i := i * 4 + m) (by omega)]; rfl
          · exact HRW.out.frozen _
        have hT : Turn [g] w (wr.setCells g (i * 4) (zerosD (j - i))) := turn_setCells (.inl (by simp)) _ _ kt2
        have HLAY := Lib.hid hlay
        have HT := Lib.hid hT
        have hic : i ≤ cap := by omega
        have hic2 : ¬ cap = i := by omega
        clear hlay hT kt2
        go_wp2
        go_ret
        have ef : filtP (dstP tv) ls = filtP (dstP tv) (ls.take j) := by rw [List.take_of_length_le (Nat.le_of_eq HLN.out)]
        refine ⟨by rw [ef, HK.out.1]; rfl, ⟨_, HLAY.out, fun t x ht => ?_⟩, HT.out⟩
        rw [ef] at ht
        have h2 := (List.getElem?_eq_some_iff.1 ht).1
        rw [HK.out.1] at h2
        rw [if_neg (by omega)]
        exact HK.out.2.1 t x ht
      · obtain ⟨x, hx⟩ : ∃ x, ls[j]? = some x := ⟨_, List.getElem?_eq_getElem (by have := HLN.out; omega)⟩
        obtain ⟨c0, c1, c2, c3⟩ := HRW.out.at_ hnc hlt
        rw [HK.out.2.2 j x (Nat.le_refl _) hx] at c0 c1 c2 c3
        obtain ⟨xn, xf, xt, xb⟩ := x
        simp only [] at c0 c1 c2 c3
        have HX := Lib.hid hx
        clear hx
        obtain ⟨v, hv⟩ : ∃ v, dstP tv ⟨xn, xf, xt, xb⟩ = v := ⟨_, rfl⟩
        have HV := Lib.hid hv
        have cc := fun (W : World) (hb : Below wr.heap.size wr W) => forget1_any ⟨xn, xf, xt, xb⟩ Bt tv W ((hb.cell (p := ⟨Bt, 0, none⟩) hwBt).trans qBt)
        simp only [hv] at cc
        have CC := Lib.hid cc
        clear hv cc
        go_wp2_with (fail)
        refine (CC.out _ (by repeat (first | with_reducible refine Below.setCell ?_ (by first | (simp; done) | (simp; omega) | omega) _ | with_reducible refine Below.alloc ?_ (by first | (simp; done) | (simp; omega) | omega) _ | with_reducible refine Below.drew ?_ | with_reducible refine below_drewN ?_ _ | with_reducible exact Below.refl _ _))).mono ?_; rintro e w3 ⟨rfl, hb3⟩
        have kb3 : Below wr.heap.size wr w3 := (by repeat (first | with_reducible refine Below.setCell ?_ (by first | (simp; done) | (simp; omega) | omega) _ | with_reducible refine Below.alloc ?_ (by first | (simp; done) | (simp; omega) | omega) _ | with_reducible refine Below.drew ?_ | with_reducible refine below_drewN ?_ _ | with_reducible exact Below.refl _ _ | with_reducible refine Below.trans ?_ (Below.mono hb3 (by first | (simp; done) | (simp; omega) | omega))))
        have HRW3 : Hid (RowAt w3 g cap n R f0) := Lib.hid (HRW.out.of_block (kb3.block g hgl2))
        have kt3 : Turn [g] w w3 := kt2.trans (Turn.below (F := []) kb3 (Nat.le_refl _)) (fun b hb => by cases hb)
        have q3Bt := (kb3.cell (p := ⟨Bt, 0, none⟩) hwBt).trans qBt
        have hk3 : KeptC wr [(⟨wr.heap.size, 0, none⟩, .int .i64 xn), (⟨wr.heap.size, 1, none⟩, .int .i64 xf), (⟨wr.heap.size, 2, none⟩, .int .i64 xt), (⟨wr.heap.size, 3, none⟩, .string xb)] [] w3 := KeptC.below (by (repeat' (first | refine KeptC.cons ?_ ?_ | refine KeptC.consF ?_ ?_ ?_ | refine KeptC.mk0 ?_)); all_goals (first | with_reducible assumption | (go_simp; done) | (simp; omega) | exact (by repeat (first | with_reducible refine Below.setCell ?_ (by first | (simp; done) | (simp; omega) | omega) _ | with_reducible refine Below.alloc ?_ (by first | (simp; done) | (simp; omega) | omega) _ | with_reducible refine Below.drew ?_ | with_reducible refine below_drewN ?_ _ | with_reducible exact Below.refl _ _)))) hb3
        simp only [KeptC, List.forall_mem_cons] at hk3; obtain ⟨kb3, ⟨kc3_0, kc3_1, kc3_2, kc3_3, _⟩, _⟩ := hk3
        have hz3 : wr.heap.size < w3.heap.size := cell_lt kc3_0
        clear hb3 c0 c1 c2 c3 qBt
        cases v with
        | true =>
          go_wp2
          go_roundw
          case rel => exact ⟨i, j + 1, R, by omega, by omega, by go_num, by go_num, Lib.hid ⟨by rw [filtP_next HX.out, HV.out]; simpa using HK.out.1, keep_gone HK.out.2 HX.out HV.out⟩, HRW3, q3Bt, kt3⟩
          case measure => simp [intOf]; omega
        | false =>
          have u0 : w3.cell? ⟨g, i * 4, none⟩ = some (rowF n R f0 (i * 4)) := HRW3.out.cell (by omega)
          have u1 : w3.cell? ⟨g, i * 4 + 1, none⟩ = some (rowF n R f0 (i * 4 + 1)) := HRW3.out.cell (by omega)
          have u2 : w3.cell? ⟨g, i * 4 + 2, none⟩ = some (rowF n R f0 (i * 4 + 2)) := HRW3.out.cell (by omega)
          have u3 : w3.cell? ⟨g, i * 4 + 3, none⟩ = some (rowF n R f0 (i * 4 + 3)) := HRW3.out.cell (by omega)
          have v0 : w3.frozen? ⟨g, i * 4, none⟩ = false := HRW3.out.frozen _
          have v1 : w3.frozen? ⟨g, i * 4 + 1, none⟩ = false := HRW3.out.frozen _
          have v2 : w3.frozen? ⟨g, i * 4 + 2, none⟩ = false := HRW3.out.frozen _
          have v3 : w3.frozen? ⟨g, i * 4 + 3, none⟩ = false := HRW3.out.frozen _
          have hput := row_put HRW3.out hin ⟨xn, xf, xt, xb⟩
          have HPUT := Lib.hid hput
          have hTp : Turn [g] w ((((w3.setCell ⟨g, i * 4, none⟩ (.int .i64 xn)).setCell ⟨g, i * 4 + 1, none⟩ (.int .i64 xf)).setCell ⟨g, i * 4 + 2, none⟩ (.int .i64 xt)).setCell ⟨g, i * 4 + 3, none⟩ (.string xb)) := (((kt3.setCell (.inl (by simp)) _).setCell (.inl (by simp)) _).setCell (.inl (by simp)) _).setCell (.inl (by simp)) _
          have HTP := Lib.hid hTp
          have hgw : g < w3.heap.size := by omega
          clear hput hTp
          go_wp2
          go_roundw
          case rel =>
            have hka := keep_kept HK.out.2 HX.out HV.out
            rw [HK.out.1] at hka
            exact ⟨i + 1, j + 1, _, by omega, by omega, by go_num, by go_num, Lib.hid ⟨by rw [filtP_next HX.out, HV.out, List.length_append, HK.out.1]; rfl, hka⟩, HPUT, by go_simp, HTP.out⟩
          case measure => simp [intOf]; omega
set_option maxHeartbeats 4000000 in
theorem index_s (A : Option Addr) (n cp : Nat) (ls : List Dg) (Ba Bb : Nat) (a b : Int) (w : World) (hBa : w.cell? ⟨Ba, 0, none⟩ = some (.int .i64 a)) (hBb : w.cell? ⟨Bb, 0, none⟩ = some (.int .i64 b)) (hr : RowsE encD 4 w w.heap.size A n ls) (hn : n ≤ 65536) :
    Calls Try.prog 53 #[.slice A n cp, .func (.func 28) #[] #[.pointer (some ⟨Ba, 0, none⟩), .pointer (some ⟨Bb, 0, none⟩)]] w fun e w' => ∃ r : Int, e = .returned (.int .i64 r) ∧ ((r = -1 ∧ ∀ d ∈ ls, sevP a b d = false) ∨ ∃ (k : Nat) (x : Dg), r = k ∧ k < n ∧ (∀ d ∈ ls.take k, sevP a b d = false) ∧ ls[k]? = some x ∧ sevP a b x = true) ∧ Below w.heap.size w w' := by
  have HR := Lib.hid hr
  have hlBa := cell_lt hBa; simp only [] at hlBa
  have hlBb := cell_lt hBb; simp only [] at hlBb
  clear hr
  go_enter Try.func53, Try.ntmps53
  go_wp2
  go_loopw [8] (fun i w' => ∃ (k : Nat), k ≤ n ∧ i = .int .i64 k ∧ Hid (∀ d ∈ ls.take k, sevP a b d = false) ∧ Below w.heap.size w w') (fun i _ => n - (intOf i).toNat)
  case atStart => exact ⟨0, Nat.zero_le _, rfl, Lib.hid (by simp), Below.refl _ _⟩
  case round =>
    obtain ⟨k, hk, rfl, HA, kb0⟩ := hrel
    have hs0 := kb0.size
    have gBa := (kb0.cell (p := ⟨Ba, 0, none⟩) hlBa).trans hBa
    have gBb := (kb0.cell (p := ⟨Bb, 0, none⟩) hlBb).trans hBb
    by_cases hlt : k < n
    rotate_left
    · obtain rfl : k = n := by omega
      go_wp2
      go_ret
      refine ⟨_, rfl, .inl ⟨rfl, ?_⟩, kb0⟩
      have := HA.out
      rwa [List.take_of_length_le (Nat.le_of_eq HR.out.1)] at this
    · obtain ⟨ad, x, rfl, hab, hx, h4⟩ := HR.out.get hlt
      obtain ⟨P, hP⟩ : ∃ P, ad.add (k * 4) = P := ⟨_, rfl⟩
      have hPb : P.block < w.heap.size := by rw [← hP, block_of_add]; exact hab
      rw [hP] at h4
      have hPw : P.block < wr.heap.size := by omega
      have c0 : wr.cell? P = some (.int .i64 x.num) := (kb0.cell (p := P) hPb).trans (by have := h4 0 _ rfl; rwa [add_z P] at this)
      have c1 : wr.cell? ⟨P.block, P.off + 1, none⟩ = some (.int .i64 x.frm) := (kb0.cell (p := ⟨P.block, P.off + 1, none⟩) hPb).trans (by have := h4 1 _ rfl; rwa [add_next P 0] at this)
      have c2 : wr.cell? ⟨P.block, P.off + 2, none⟩ = some (.int .i64 x.dst) := (kb0.cell (p := ⟨P.block, P.off + 2, none⟩) hPb).trans (by have := h4 2 _ rfl; rwa [add_next P 1] at this)
      have c3 : wr.cell? ⟨P.block, P.off + 3, none⟩ = some (.string x.body) := (kb0.cell (p := ⟨P.block, P.off + 3, none⟩) hPb).trans (by have := h4 3 _ rfl; rwa [add_next P 2] at this)
      clear h4
      obtain ⟨xn, xf, xt, xb⟩ := x
      simp only [] at c0 c1 c2 c3
      have HX := Lib.hid hx
      clear hx
      obtain ⟨v, hv⟩ : ∃ v, sevP a b ⟨xn, xf, xt, xb⟩ = v := ⟨_, rfl⟩
      have HV := Lib.hid hv
      have cc := sever1_any ⟨xn, xf, xt, xb⟩ Ba Bb a b wr gBa gBb
      rw [hv] at cc
      clear hv
      go_wp2_with (fail)
      refine cc.mono ?_; rintro e w2 ⟨rfl, hb2⟩
      have kb2 : Below w.heap.size w w2 := (by repeat (first | with_reducible refine Below.setCell ?_ (by first | (simp; done) | (simp; omega) | omega) _ | with_reducible refine Below.alloc ?_ (by first | (simp; done) | (simp; omega) | omega) _ | with_reducible refine Below.drew ?_ | with_reducible refine below_drewN ?_ _ | with_reducible exact Below.refl _ _ | with_reducible refine Below.trans ?_ (Below.mono hb2 (by first | (simp; done) | (simp; omega) | omega)) | with_reducible refine Below.trans ?_ (Below.mono kb0 (by first | (simp; done) | (simp; omega) | omega))))
      clear hb2
      cases v with
      | true =>
        go_wp2
        go_ret
        exact ⟨_, rfl, .inr ⟨k, _, rfl, hlt, HA.out, HX.out, HV.out⟩, kb2⟩
      | false =>
        go_wp2
        go_roundw
        case rel => exact ⟨k + 1, by omega, by go_num, Lib.hid (fun d hd => by
          rw [List.take_add_one, HX.out] at hd
          rcases List.mem_append.1 hd with hd | hd
          · exact HA.out d hd
          · simp only [Option.toList_some, List.mem_singleton] at hd
            subst hd
            exact HV.out), kb2⟩
        case measure => simp [intOf]; omega
set_option maxHeartbeats 4000000 in
theorem deleteF_s (g cap n : Nat) (ls : List Dg) (f0 : Nat → Value) (Ba Bb : Nat) (a b : Int) (w : World) (hBa : w.cell? ⟨Ba, 0, none⟩ = some (.int .i64 a)) (hBb : w.cell? ⟨Bb, 0, none⟩ = some (.int .i64 b)) (hl : ls.length = n) (h : RowAt w g cap n (fun t => (ls[t]?).getD Dg0) f0) (hnc : n ≤ cap) (hc : cap ≤ maxLen) (hn : n ≤ 65536) (hdBa : Ba ≠ g) (hdBb : Bb ≠ g) :
    Calls Try.prog 43 #[.slice (some ⟨g, 0, none⟩) n cap, .func (.func 28) #[] #[.pointer (some ⟨Ba, 0, none⟩), .pointer (some ⟨Bb, 0, none⟩)]] w fun e w' => e = .returned (.slice (some ⟨g, 0, none⟩) (filtP (sevP a b) ls).length cap) ∧ (∃ R, RowAt w' g cap n R f0 ∧ ∀ (t : Nat) (x : Dg), (filtP (sevP a b) ls)[t]? = some x → R t = x) ∧ Turn [g] w w' := by
  have hlBa := cell_lt hBa; simp only [] at hlBa
  have hlBb := cell_lt hBb; simp only [] at hlBb
  have hgl : g < w.heap.size := h.lt
  have hrd : RowsE encD 4 w w.heap.size (some ⟨g, 0, none⟩) n ls := by
    have ho := is_own (ls := ls) h (by omega) hnc hc (fun t d hd => by rw [hd]; rfl)
    obtain ⟨A, c, e, hr⟩ := OwnE.at_ encD_len ho
    obtain ⟨e1, _, _⟩ := Value.slice.inj e
    rw [← e1, hl] at hr
    exact hr
  have ci := index_s (some ⟨g, 0, none⟩) n cap ls Ba Bb a b w hBa hBb hrd hn
  have CI := Lib.hid ci
  have HRW := Lib.hid h
  have HLN := Lib.hid hl
  have hcap : (cap : Int) ≤ 9223372036854775807 := by unfold maxLen at hc; omega
  clear ci h hrd hl
  go_enter Try.func43, Try.ntmps43
  go_wp2_with (fail)
  refine CI.out.mono ?_; rintro e w1 ⟨r, rfl, hd, hb1⟩
  have kt1 : Turn [g] w w1 := Turn.below hb1 (Nat.le_refl _)
  have hz1 := hb1.size
  have HRW1 : Hid (RowAt w1 g cap n (fun t => (ls[t]?).getD Dg0) f0) := Lib.hid (HRW.out.of_block (hb1.block g hgl))
  clear CI HRW
  rcases hd with ⟨rfl, hall⟩ | ⟨k, x, rfl, hk, hal, hx, hxa⟩
  · have HE := Lib.hid (filtP_all hall)
    clear hall
    go_wp2
    go_ret
    refine ⟨by rw [HE.out, HLN.out]; rfl, ⟨_, HRW1.out, fun t x ht => ?_⟩, kt1⟩
    rw [HE.out] at ht
    rw [ht]
    rfl
  · have hneg : ((k : Int) == (-1 : Int)) = false := by simp
    have hneg' : ¬ (k : Int) = -1 := by omega
    have HK0 : Hid ((filtP (sevP a b) (ls.take (k + 1))).length = k ∧ KeepP (sevP a b) ls (k + 1) (fun t => (ls[t]?).getD Dg0)) := by
      have e : filtP (sevP a b) (ls.take (k + 1)) = ls.take k := by
        rw [filtP_next hx, hxa]
        simp only [if_true, List.append_nil]
        exact filtP_all hal
      refine Lib.hid ⟨by rw [e, List.length_take]; have := HLN.out; omega, ?_, fun t y _ h => by simp only [h, Option.getD_some]⟩
      intro t y h
      rw [e] at h
      have h2 := (List.getElem?_eq_some_iff.1 h).1
      simp at h2
      rw [List.getElem?_take_of_lt (by omega)] at h
      simp only [h, Option.getD_some]
    clear hal hx hxa x
    have g1Ba := (hb1.cell (p := ⟨Ba, 0, none⟩) hlBa).trans hBa
    have g1Bb := (hb1.cell (p := ⟨Bb, 0, none⟩) hlBb).trans hBb
    clear hb1
    go_wp2
    go_loopw [5, 6] (fun iv jv w' => ∃ (i j : Nat) (R : Nat → Dg), i < j ∧ j ≤ n ∧ iv = .int .i64 i ∧ jv = .int .i64 j ∧ Hid ((filtP (sevP a b) (ls.take j)).length = i ∧ KeepP (sevP a b) ls j R) ∧ Hid (RowAt w' g cap n R f0) ∧ w'.cell? ⟨Ba, 0, none⟩ = some (.int .i64 a) ∧ w'.cell? ⟨Bb, 0, none⟩ = some (.int .i64 b) ∧ Turn [g] w w') (fun _ jv _ => n - (intOf jv).toNat)
    case atStart => exact ⟨k, k + 1, _, by omega, by omega, rfl, by go_num, HK0, HRW1, g1Ba, g1Bb, kt1⟩
    case round =>
      obtain ⟨i, j, R, hij, hj, rfl, rfl, HK, HRW, qBa, qBb, kt2⟩ := hrel
      have hz2 := kt2.size
      have hgl2 : g < wr.heap.size := by omega
      clear HRW1 HK0 kt1 g1Ba g1Bb
      have hwBa : Ba < wr.heap.size := (by omega); have hwBb : Bb < wr.heap.size := (by omega)
      have hin : i < n := by omega
      by_cases hlt : j < n
      rotate_left
      · obtain rfl : j = n := by omega
        have hlay := row_lay (i := i) (xs := List.replicate (j - i) Dg0) HRW.out (by simp; omega)
        rw [← zerosD_flat] at hlay
        have hcl : ∀ ty, (Builtin.clear_ #[43] ty #[.slice (some ⟨g, i * 4, none⟩) (j - i) (cap - i)]).run Try.prog wr = .ok (.tuple #[]) (wr.setCells g (i * 4) (zerosD (j - i))) := fun ty => by
          refine run_clear_dgs wr ⟨g, i * 4, none⟩ rfl (j - i) _ (by omega) (fun m hm' => ?_) (fun m hm' => ?_) ty
          · show (World.cell? _ _).isSome = true
            rw [HRW.out.cell (i := i * 4 + m) (by omega)]; rfl
          · exact HRW.out.frozen _
        have hT : Turn [g] w (wr.setCells g (i * 4) (zerosD (j - i))) := turn_setCells (.inl (by simp)) _ _ kt2
        have HLAY := Lib.hid hlay
        have HT := Lib.hid hT
        have hic : i ≤ cap := by omega
        have hic2 : ¬ cap = i := by omega
        clear hlay hT kt2
        go_wp2
        go_ret
        have ef : filtP (sevP a b) ls = filtP (sevP a b) (ls.take j) := by rw [List.take_of_length_le (Nat.le_of_eq HLN.out)]
        refine ⟨by rw [ef, HK.out.1]; rfl, ⟨_, HLAY.out, fun t x ht => ?_⟩, HT.out⟩
        rw [ef] at ht
        have h2 := (List.getElem?_eq_some_iff.1 ht).1
        rw [HK.out.1] at h2
        rw [if_neg (by omega)]
        exact HK.out.2.1 t x ht
      · obtain ⟨x, hx⟩ : ∃ x, ls[j]? = some x := ⟨_, List.getElem?_eq_getElem (by have := HLN.out; omega)⟩
        obtain ⟨c0, c1, c2, c3⟩ := HRW.out.at_ hnc hlt
        rw [HK.out.2.2 j x (Nat.le_refl _) hx] at c0 c1 c2 c3
        obtain ⟨xn, xf, xt, xb⟩ := x
        simp only [] at c0 c1 c2 c3
        have HX := Lib.hid hx
        clear hx
        obtain ⟨v, hv⟩ : ∃ v, sevP a b ⟨xn, xf, xt, xb⟩ = v := ⟨_, rfl⟩
        have HV := Lib.hid hv
        have cc := fun (W : World) (hb : Below wr.heap.size wr W) => sever1_any ⟨xn, xf, xt, xb⟩ Ba Bb a b W ((hb.cell (p := ⟨Ba, 0, none⟩) hwBa).trans qBa) ((hb.cell (p := ⟨Bb, 0, none⟩) hwBb).trans qBb)
        simp only [hv] at cc
        have CC := Lib.hid cc
        clear hv cc
        go_wp2_with (fail)
        refine (CC.out _ (by repeat (first | with_reducible refine Below.setCell ?_ (by first | (simp; done) | (simp; omega) | omega) _ | with_reducible refine Below.alloc ?_ (by first | (simp; done) | (simp; omega) | omega) _ | with_reducible refine Below.drew ?_ | with_reducible refine below_drewN ?_ _ | with_reducible exact Below.refl _ _))).mono ?_; rintro e w3 ⟨rfl, hb3⟩
        have kb3 : Below wr.heap.size wr w3 := (by repeat (first | with_reducible refine Below.setCell ?_ (by first | (simp; done) | (simp; omega) | omega) _ | with_reducible refine Below.alloc ?_ (by first | (simp; done) | (simp; omega) | omega) _ | with_reducible refine Below.drew ?_ | with_reducible refine below_drewN ?_ _ | with_reducible exact Below.refl _ _ | with_reducible refine Below.trans ?_ (Below.mono hb3 (by first | (simp; done) | (simp; omega) | omega))))
        have HRW3 : Hid (RowAt w3 g cap n R f0) := Lib.hid (HRW.out.of_block (kb3.block g hgl2))
        have kt3 : Turn [g] w w3 := kt2.trans (Turn.below (F := []) kb3 (Nat.le_refl _)) (fun b hb => by cases hb)
        have q3Ba := (kb3.cell (p := ⟨Ba, 0, none⟩) hwBa).trans qBa; have q3Bb := (kb3.cell (p := ⟨Bb, 0, none⟩) hwBb).trans qBb
        have hk3 : KeptC wr [(⟨wr.heap.size, 0, none⟩, .int .i64 xn), (⟨wr.heap.size, 1, none⟩, .int .i64 xf), (⟨wr.heap.size, 2, none⟩, .int .i64 xt), (⟨wr.heap.size, 3, none⟩, .string xb)] [] w3 := KeptC.below (by (repeat' (first | refine KeptC.cons ?_ ?_ | refine KeptC.consF ?_ ?_ ?_ | refine KeptC.mk0 ?_)); all_goals (first | with_reducible assumption | (go_simp; done) | (simp; omega) | exact (by repeat (first | with_reducible refine Below.setCell ?_ (by first | (simp; done) | (simp; omega) | omega) _ | with_reducible refine Below.alloc ?_ (by first | (simp; done) | (simp; omega) | omega) _ | with_reducible refine Below.drew ?_ | with_reducible refine below_drewN ?_ _ | with_reducible exact Below.refl _ _)))) hb3
        simp only [KeptC, List.forall_mem_cons] at hk3; obtain ⟨kb3, ⟨kc3_0, kc3_1, kc3_2, kc3_3, _⟩, _⟩ := hk3
        have hz3 : wr.heap.size < w3.heap.size := cell_lt kc3_0
        clear hb3 c0 c1 c2 c3 qBa qBb
        cases v with
        | true =>
          go_wp2
          go_roundw
          case rel => exact ⟨i, j + 1, R, by omega, by omega, by go_num, by go_num, Lib.hid ⟨by rw [filtP_next HX.out, HV.out]; simpa using HK.out.1, keep_gone HK.out.2 HX.out HV.out⟩, HRW3, q3Ba, q3Bb, kt3⟩
          case measure => simp [intOf]; omega
        | false =>
          have u0 : w3.cell? ⟨g, i * 4, none⟩ = some (rowF n R f0 (i * 4)) := HRW3.out.cell (by omega)
          have u1 : w3.cell? ⟨g, i * 4 + 1, none⟩ = some (rowF n R f0 (i * 4 + 1)) := HRW3.out.cell (by omega)
          have u2 : w3.cell? ⟨g, i * 4 + 2, none⟩ = some (rowF n R f0 (i * 4 + 2)) := HRW3.out.cell (by omega)
          have u3 : w3.cell? ⟨g, i * 4 + 3, none⟩ = some (rowF n R f0 (i * 4 + 3)) := HRW3.out.cell (by omega)
          have v0 : w3.frozen? ⟨g, i * 4, none⟩ = false := HRW3.out.frozen _
          have v1 : w3.frozen? ⟨g, i * 4 + 1, none⟩ = false := HRW3.out.frozen _
          have v2 : w3.frozen? ⟨g, i * 4 + 2, none⟩ = false := HRW3.out.frozen _
          have v3 : w3.frozen? ⟨g, i * 4 + 3, none⟩ = false := HRW3.out.frozen _
          have hput := row_put HRW3.out hin ⟨xn, xf, xt, xb⟩
          have HPUT := Lib.hid hput
          have hTp : Turn [g] w ((((w3.setCell ⟨g, i * 4, none⟩ (.int .i64 xn)).setCell ⟨g, i * 4 + 1, none⟩ (.int .i64 xf)).setCell ⟨g, i * 4 + 2, none⟩ (.int .i64 xt)).setCell ⟨g, i * 4 + 3, none⟩ (.string xb)) := (((kt3.setCell (.inl (by simp)) _).setCell (.inl (by simp)) _).setCell (.inl (by simp)) _).setCell (.inl (by simp)) _
          have HTP := Lib.hid hTp
          have hgw : g < w3.heap.size := by omega
          clear hput hTp
          go_wp2
          go_roundw
          case rel =>
            have hka := keep_kept HK.out.2 HX.out HV.out
            rw [HK.out.1] at hka
            exact ⟨i + 1, j + 1, _, by omega, by omega, by go_num, by go_num, Lib.hid ⟨by rw [filtP_next HX.out, HV.out, List.length_append, HK.out.1]; rfl, hka⟩, HPUT, by go_simp, by go_simp, HTP.out⟩
          case measure => simp [intOf]; omega
end Go.Proofs.Ytdaobbffhfbceaa
