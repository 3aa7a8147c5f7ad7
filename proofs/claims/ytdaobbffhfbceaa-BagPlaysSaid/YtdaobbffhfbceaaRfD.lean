/- The reference's Mend and Sever: what each call computes. -/
import Derived.Test.YtdaobbffhfbceaaRfE
import Derived.Test.YtdaobbffhfbceaaApW
namespace Go.Proofs.Ytdaobbffhfbceaa
open Go.RowKit Go.Shelf
set_option linter.unusedVariables false
set_option linter.unusedSimpArgs false
set_option maxRecDepth 100000
theorem lk_inf : (Try.prog.info? 64).map (fun i => (i.zero, i.size, i.bytes)) = some (some (.agg #[.int .i64 0, .int .i64 0]), 2, 16) := by kernel_rfl
theorem wid_lt {L : Nat} (h : (L + 1 + (L + 1) / 4 + 192) * 16 ≤ 281474976710656) : L < 17592186044416 := by omega
theorem wid_ok {L n : Nat} (h : (L + 1 + (L + 1) / 4 + 192) * 16 ≤ 281474976710656) (hn : n ≤ L + 1) : n ≤ maxLen ∧ (n + n / 4 + 192) * 16 ≤ 281474976710656 := by
  refine ⟨by simp only [maxLen]; omega, ?_⟩
  have h1 : n / 4 ≤ (L + 1) / 4 := Nat.div_le_div_right hn
  exact Nat.le_trans (Nat.mul_le_mul_right 16 (by omega)) h
theorem del_at {p : LK} : ∀ (l : List LK) (i : Nat), l.Nodup → l[i]? = some p → delL p l = l.take i ++ l.drop (i + 1) := by
  intro l
  unfold delL
  induction l with
  | nil => intro i _ h; simp at h
  | cons c cs ih =>
    intro i hn h
    rw [List.nodup_cons] at hn
    cases i with
    | zero =>
      simp at h
      subst h
      have : cs.filter (fun y => !(y == c)) = cs := List.filter_eq_self.2 fun y hy => by
        have : y ≠ c := fun e => hn.1 (e ▸ hy)
        simpa using this
      rw [List.filter_cons, if_neg (by simp), this]
      simp
    | succ i =>
      rw [List.getElem?_cons_succ] at h
      have hc : c ≠ p := fun e => hn.1 (e ▸ List.mem_of_getElem? h)
      rw [List.filter_cons, if_pos (by simpa using hc), ih i hn.2 h]
      rfl
theorem flatE_app {α : Type} {enc : α → List Value} (xs ys : List α) : flatE enc (xs ++ ys) = flatE enc xs ++ flatE enc ys := by unfold flatE; rw [List.flatMap_append]
set_option maxHeartbeats 1000000 in
theorem rmend_any (g : Nat) (lv sv : Value) (s : BS) (a b : Int) (w : World) (h : RefAt w g lv sv s) (hm : (s.sv.length + 1 + (s.sv.length + 1) / 4 + 192) * 16 ≤ 281474976710656) :
    Calls Try.prog 41 #[.pointer (some ⟨g, 0, none⟩), .int .i64 a, .int .i64 b] w fun e w' => e = .returned (.bool (mendS s a b).2) ∧ ∃ lv' sv', RefAt w' g lv' sv' (mendS s a b).1 ∧ MovedR w lv sv lv' sv' ∧ Turn (footR g lv sv) w w' := by
  obtain ⟨A, c, rfl⟩ := row_slice' h.rs
  have cs := severed_any g lv _ s a b w h (wid_ok hm (Nat.le_succ _)).1
  have HB := Lib.hid h
  have hg0 := cell_lt h.c0
  simp only [] at hg0
  have hok := mendS_ok (a := a) (b := b) h.ok
  unfold mendS at hok ⊢
  cases hsv : sevB s a b with
  | false =>
    rw [sev_none hsv] at cs
    have hp : plc none = (-1 : Int) := rfl
    rw [hp] at cs
    have CS := Lib.hid cs
    simp only [Bool.false_eq_true, if_false]
    clear h cs hp hok
    go_enter Try.func41, Try.ntmps41
    go_wp2_with (fail)
    refine CS.out.mono ?_; rintro e w1 ⟨rfl, hb1⟩
    go_wp2
    go_ret
    exact ⟨rfl, lv, _, HB.out.below hb1, MovedR.refl _ _ _, Turn.below hb1 (Nat.le_refl _)⟩
  | true =>
    obtain ⟨i, hi, hil⟩ := sev_some hsv
    rw [hi] at cs
    have hp : plc (some i) = (i : Int) := rfl
    rw [hp] at cs
    have CS := Lib.hid cs
    rw [hsv] at hok
    simp only [if_true] at hok ⊢
    have hdel := del_at s.sv i h.ok.sv.nodup (findL_some hi)
    have HOK := Lib.hid hok
    have HDEL := Lib.hid hdel
    obtain ⟨i0, hi0, hj0, hj1, hj2⟩ := info_parts lk_inf
    have hcap := row_cap h.rs
    clear h cs hp hok hdel hi hsv
    go_enter Try.func41, Try.ntmps41
    go_wp2_with (fail)
    refine CS.out.mono ?_; rintro e w1 ⟨rfl, hb1⟩
    have hh := HB.out.below hb1
    obtain ⟨gl, rfl⟩ : ∃ gl, A = some ⟨gl, 0, none⟩ := by
      rcases hh.rs.2 with ⟨_, e⟩ | ⟨q, cap, cur, e, _⟩
      · omega
      · cases e; exact ⟨q, rfl⟩
    obtain ⟨A', c', e', hrow⟩ := OwnE.at_ encL_len hh.rs
    obtain ⟨rfl, -, rfl⟩ := Value.slice.inj e'
    have hrd : Reads w1 w1.heap.size 2 (some ⟨gl, 0, none⟩) s.sv.length (flatE encL s.sv) := hrow.reads encL_len
    have HRT : Hid (Reads w1 w1.heap.size 2 (some ⟨gl, 0, none⟩) i (flatE encL (s.sv.take i))) := Lib.hid ((hrow.take (by omega)).reads encL_len)
    have HRC := Lib.hid (hrd.cut (k := i + 1) (cap := c) (by omega) hcap.1)
    rw [flatE_drop encL_len] at HRC
    have hadx : ∃ adx : Addr, (if c = i + 1 then some (⟨gl, 0, none⟩ : Addr) else some ⟨gl, (i + 1) * 2, none⟩) = some adx ∧ (if c = i + 1 then some (⟨gl, 0, none⟩ : Addr) else (some (⟨gl, 0, none⟩ : Addr)).map (·.add ((i + 1) * 2))) = some adx := by
      by_cases e : c = i + 1
      · exact ⟨_, by rw [if_pos e], by rw [if_pos e]⟩
      · exact ⟨_, by rw [if_neg e], by rw [if_neg e]; simp [Addr.add]⟩
    obtain ⟨adx, hadx, hadx2⟩ := hadx
    rw [hadx2] at HRC
    have c2 := hh.c2
    have f2 := hh.f2
    have hg1 := cell_lt c2
    simp only [] at hg1
    have hsz1 := hb1.size
    have HH := Lib.hid hh
    have hcap2 : (c : Int) ≤ 9223372036854775807 := by have := hcap.2; unfold maxLen at this; omega
    have hcap1 := hcap.1
    have hic : i ≤ c := by omega
    have hic1 : i + 1 ≤ s.sv.length := by omega
    have hic2 : i + 1 ≤ c := by omega
    have hicZ : (i : Int) ≤ (c : Int) := by omega
    have hicZ1 : (i : Int) + 1 ≤ (s.sv.length : Int) := by omega
    have h0i : 0 ≤ (i : Int) + 1 := by omega
    have HBW := Lib.hid hb1
    clear hh hrow e' hrd hcap hb1 hadx2
    have hsl : s.sv.length < 17592186044416 := wid_lt hm
    have B1 : Hid (0 + i ≤ maxLen) := Lib.hid (wid_ok hm (n := 0 + i) (by omega)).1
    have B2 : Hid ((0 + i + (0 + i) / 4 + 192) * 16 ≤ 281474976710656) := Lib.hid (wid_ok hm (n := 0 + i) (by omega)).2
    have B3 : Hid (i + (s.sv.length - (i + 1)) ≤ maxLen) := Lib.hid (wid_ok hm (n := i + (s.sv.length - (i + 1))) (by omega)).1
    have B4 : Hid ((i + (s.sv.length - (i + 1)) + (i + (s.sv.length - (i + 1))) / 4 + 192) * 16 ≤ 281474976710656) := Lib.hid (wid_ok hm (n := i + (s.sv.length - (i + 1))) (by omega)).2
    clear hm
    go_wp2_with (first
      | (at_builtin; refine wpList_append_wide _ rfl (.tmp 15) (.tmp 22) _ rfl w1.heap.size 64 i0 _ 2 16 Try.underlying48 hi0 hj0 hj1 hj2 rfl (by omega) (.slice none 0 0) 0 [] rfl ⟨by simp, .inl ⟨rfl, rfl⟩⟩ w1.heap.size (some ⟨gl, 0, none⟩) i c (flatE encL (s.sv.take i)) rfl (by exact HRT.out) (flatE_one encL_one _) B1.out B2.out (by simp) ?_; intro v6 w6 hown6 hg6; rw [Nat.zero_add, List.nil_append] at hown6; obtain ⟨A6, c6, hv6⟩ := row_slice' hown6; subst hv6; have HG6 := Lib.hid hg6; have HO6 := Lib.hid hown6; clear hown6 hg6; have hb6 : Below w1.heap.size w1 w6 := (row_grown (base := w1.heap.size) (W := w1) (v := .slice none 0 0) (n := 0) (size := 2) (e := 64) (xs := []) ⟨by simp, .inl ⟨rfl, rfl⟩⟩ HG6.out (by simp)); have c16 : w6.cell? ⟨g, 2, none⟩ = some (.slice (some ⟨gl, 0, none⟩) s.sv.length c) := ((hb6.cell (p := ⟨g, 2, none⟩) (by show g < _; omega)).trans c2); have hs6 : g < w6.heap.size := cell_lt c16)
      | (at_builtin; refine wpList_append_wide _ rfl (.tmp 25) (.tmp 33) _ rfl w1.heap.size 64 i0 _ 2 16 Try.underlying48 hi0 hj0 hj1 hj2 rfl (by omega) (.slice A6 i c6) i (flatE encL (s.sv.take i)) rfl (by exact HO6.out) w1.heap.size (some adx) (s.sv.length - (i + 1)) (c - (i + 1)) (flatE encL (s.sv.drop (i + 1))) rfl (by exact HRC.out.below hb6) (flatE_one encL_one _) B3.out B4.out (by have := hb6.size; omega) ?_; intro v7 w7 hown7 hg7; obtain ⟨A7, c7, hv7⟩ := row_slice' hown7; subst hv7; have HG7 := Lib.hid hg7; have HO7 := Lib.hid hown7; clear hown7 hg7; have hb7 : Below w1.heap.size w6 w7 := row_grown HO6.out HG7.out (by have := hb6.size; omega); have hb8 : Below w1.heap.size w1 w7 := hb6.trans hb7; have q1 : w7.cell? ⟨g, 2, none⟩ = some (.slice (some ⟨gl, 0, none⟩) s.sv.length c) := (hb8.cell (p := ⟨g, 2, none⟩) (by show g < _; omega)).trans c2; have p1 : w7.frozen? ⟨g, 2, none⟩ = false := (hb8.frozen (p := ⟨g, 2, none⟩) (by show g < _; omega)).trans f2; have hz9 : g < w7.heap.size := cell_lt q1))
    go_ret
    have hln : (delL (lnk a b) s.sv).length = i + (s.sv.length - (i + 1)) := by rw [HDEL.out, List.length_append, List.length_take, List.length_drop]; omega
    have hrow7 : OwnE encL 2 64 w7 w1.heap.size (.slice A7 (i + (s.sv.length - (i + 1))) c7) (delL (lnk a b) s.sv) := by
      unfold OwnE
      rw [hln, HDEL.out, flatE_app]
      exact HO7.out
    have hfr := own_fresh hrow7
    have hh := HH.out
    have hlt := hh.lt
    refine ⟨rfl, lv, _, hh.resev (F := []) (Turn.below hb8 (Nat.le_refl _)) (by simp) (by simp) (hrow7.less (Nat.zero_le _)) (fun e => by have := hfr _ e; omega) (fun b e e2 => by have h1 := hfr _ e2; have h2 := hlt b (by simp [footR, e]); omega) HOK.out, (fun b hb => ?_), ?_⟩
    · rcases hb with hb | hb
      · exact .inl (.inl hb)
      · exact .inr (by have := hfr _ hb; omega)
    · exact (Turn.below (HBW.out.trans (hb8.mono hsz1)) (Nat.le_refl _)).setCell (.inl (by simp [footR])) _
set_option maxHeartbeats 1000000 in
theorem less_any (x y : LK) (w : World) :
    Calls Try.prog 35 #[lAgg x, lAgg y] w fun e w' => e = .returned (.bool (ltL x y)) ∧ Below w.heap.size w w' := by
  obtain ⟨a, b⟩ := x
  obtain ⟨c, d⟩ := y
  unfold ltL
  simp only []
  cases h1 : decide (a < c) with
  | true =>
    have h1' : a < c := of_decide_eq_true h1
    simp only [Bool.true_or]
    go_enter Try.func35, Try.ntmps35
    go_wp2
    go_ret
    exact ⟨rfl, (by repeat (first | with_reducible refine Below.setCell ?_ (by first | (simp; done) | (simp; omega) | omega) _ | with_reducible refine Below.alloc ?_ (by first | (simp; done) | (simp; omega) | omega) _ | with_reducible refine Below.drew ?_ | with_reducible refine below_drewN ?_ _ | with_reducible exact Below.refl _ _))⟩
  | false =>
    have h1' : ¬ a < c := of_decide_eq_false h1
    cases h2 : decide (a = c) with
    | false =>
      have h2' : ¬ a = c := of_decide_eq_false h2
      have h2b : (a == c) = false := by simpa using h2'
      simp only [Bool.false_or, Bool.false_and]
      go_enter Try.func35, Try.ntmps35
      go_wp2
      go_ret
      exact ⟨rfl, (by repeat (first | with_reducible refine Below.setCell ?_ (by first | (simp; done) | (simp; omega) | omega) _ | with_reducible refine Below.alloc ?_ (by first | (simp; done) | (simp; omega) | omega) _ | with_reducible refine Below.drew ?_ | with_reducible refine below_drewN ?_ _ | with_reducible exact Below.refl _ _))⟩
    | true =>
      have h2' : a = c := of_decide_eq_true h2
      subst h2'
      simp only [Bool.false_or, Bool.true_and]
      cases h3 : decide (b < d) with
      | true =>
        have h3' : b < d := of_decide_eq_true h3
        go_enter Try.func35, Try.ntmps35
        go_wp2
        go_ret
        exact ⟨rfl, (by repeat (first | with_reducible refine Below.setCell ?_ (by first | (simp; done) | (simp; omega) | omega) _ | with_reducible refine Below.alloc ?_ (by first | (simp; done) | (simp; omega) | omega) _ | with_reducible refine Below.drew ?_ | with_reducible refine below_drewN ?_ _ | with_reducible exact Below.refl _ _))⟩
      | false =>
        have h3' : ¬ b < d := of_decide_eq_false h3
        go_enter Try.func35, Try.ntmps35
        go_wp2
        go_ret
        exact ⟨rfl, (by repeat (first | with_reducible refine Below.setCell ?_ (by first | (simp; done) | (simp; omega) | omega) _ | with_reducible refine Below.alloc ?_ (by first | (simp; done) | (simp; omega) | omega) _ | with_reducible refine Below.drew ?_ | with_reducible refine below_drewN ?_ _ | with_reducible exact Below.refl _ _))⟩
theorem tw_take {p : LK} : ∀ (l : List LK) (k : Nat), k ≤ l.length → (∀ t, t < k → ∀ e, l[t]? = some e → ltL e p = true) → (∀ e, l[k]? = some e → ltL e p = false) → l.takeWhile (fun y => ltL y p) = l.take k ∧ l.dropWhile (fun y => ltL y p) = l.drop k := by
  intro l
  induction l with
  | nil => intro k _ _ _; simp
  | cons c cs ih =>
    intro k hk h1 h2
    cases k with
    | zero =>
      have := h2 c rfl
      simp [this]
    | succ k =>
      have hc := h1 0 (by omega) c rfl
      obtain ⟨e1, e2⟩ := ih k (by simpa using hk) (fun t ht e he => h1 (t + 1) (by omega) e (by simpa using he)) (fun e he => h2 e (by simpa using he))
      simp [hc, e1, e2]
end Go.Proofs.Ytdaobbffhfbceaa
