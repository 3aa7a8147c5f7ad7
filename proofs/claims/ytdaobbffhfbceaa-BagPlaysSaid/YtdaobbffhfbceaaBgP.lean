/- Take, Put, Double of a bag: what each call computes. -/
import Derived.Test.YtdaobbffhfbceaaBgT
import Derived.Deep.Cut
namespace Go.Proofs.Ytdaobbffhfbceaa
open Go.RowKit Go.Shelf
set_option linter.unusedVariables false
set_option linter.unusedSimpArgs false
set_option maxRecDepth 100000
theorem takeS_none {s : BS} {k : Int} (h : findN s.ls k = none) : takeS s k = (s, Dg0, 31) := by unfold takeS; rw [h]
theorem takeS_some {s : BS} {k : Int} {i : Nat} {d : Dg} (h : findN s.ls k = some i) (hd : s.ls[i]? = some d) : takeS s k = (⟨s.nx, s.ls.eraseIdx i, s.sv⟩, d, 0) := by unfold takeS; rw [h]; simp only [hd, Option.getD_some]
theorem delR_erase {ls : List Dg} {i : Nat} (hi : i < ls.length) : ∀ (t : Nat) (d : Dg), (ls.eraseIdx i)[t]? = some d → delR (fun t => (ls[t]?).getD Dg0) ls.length i t = d := by
  intro t d h
  have hl := (List.getElem?_eq_some_iff.1 h).1
  rw [List.length_eraseIdx_of_lt hi] at hl
  unfold delR
  rw [if_neg (by omega)]
  rw [List.getElem?_eraseIdx] at h
  by_cases e : t < i
  · rw [if_pos e] at h
    rw [if_neg (by omega)]
    dsimp only
    rw [h]
    rfl
  · rw [if_neg e] at h
    rw [if_pos (by omega)]
    dsimp only
    rw [h]
    rfl
theorem okS_take {s : BS} {k : Int} {i : Nat} {d : Dg} (hs : OkS s) (h : findN s.ls k = some i) (hd : s.ls[i]? = some d) : OkS ⟨s.nx, s.ls.eraseIdx i, s.sv⟩ := by
  have := takeS_ok (k := k) hs
  rwa [takeS_some h hd] at this
set_option maxHeartbeats 4000000 in
theorem take_no (Bb bm : Nat) (lv : Value) (s : BS) (k : Int) (w : World) (h : BagAt w Bb bm lv s) (hn : findN s.ls k = none) :
    Calls Try.prog 11 #[.pointer (some ⟨Bb, 0, none⟩), .int .i64 k] w fun e w' => e = .returned (.tuple #[dAgg Dg0, .int .i64 31]) ∧ Below w.heap.size w w' := by
  have cf := fun (W : World) (hb : Below w.heap.size w W) => find_no (k := k) (h.below hb) hn
  have CF := Lib.hid cf
  clear h cf
  go_enter Try.func11, Try.ntmps11
  go_wp2_with (fail)
  refine (CF.out _ (by repeat (first | with_reducible refine Below.setCell ?_ (by first | (simp; done) | (simp; omega) | omega) _ | with_reducible refine Below.alloc ?_ (by first | (simp; done) | (simp; omega) | omega) _ | with_reducible refine Below.drew ?_ | with_reducible refine below_drewN ?_ _ | with_reducible exact Below.refl _ _))).mono ?_; rintro e w1 ⟨rfl, hb1⟩
  obtain ⟨hc, hf⟩ := bcell hb1
  have hz : w.heap.size < w1.heap.size := by have := hb1.size; simp at this; omega
  go_wp2
  exact bodyPost_ret (v := .tuple #[dAgg Dg0, .int .i64 31]) (by simp [results, Try.results11, go_sem, hc, hz]; exact ⟨rfl, rfl, rfl, rfl⟩) rfl ⟨rfl, (by repeat (first | with_reducible refine Below.setCell ?_ (by first | (simp; done) | (simp; omega) | omega) _ | with_reducible refine Below.alloc ?_ (by first | (simp; done) | (simp; omega) | omega) _ | with_reducible refine Below.drew ?_ | with_reducible refine below_drewN ?_ _ | with_reducible exact Below.refl _ _ | with_reducible refine Below.trans ?_ (Below.mono hb1 (by first | (simp; done) | (simp; omega) | omega))))⟩
set_option maxHeartbeats 4000000 in
theorem take_yes (Bb bm : Nat) (lv : Value) (s : BS) (k : Int) (i : Nat) (d : Dg) (w : World) (h : BagAt w Bb bm lv s) (hn : findN s.ls k = some i) (hd : s.ls[i]? = some d) :
    Calls Try.prog 11 #[.pointer (some ⟨Bb, 0, none⟩), .int .i64 k] w fun e w' => e = .returned (.tuple #[dAgg d, .int .i64 0]) ∧ ∃ lv', BagAt w' Bb bm lv' ⟨s.nx, s.ls.eraseIdx i, s.sv⟩ ∧ Moved w lv lv' ∧ Turn (foot Bb bm lv) w w' := by
  have cf := fun (W : World) (hb : Below w.heap.size w W) => find_yes (k := k) (h.below hb) hn hd
  have CF := Lib.hid cf
  have hi := (List.getElem?_eq_some_iff.1 hd).1
  have hlen := h.ok.len
  have hok := Lib.hid (okS_take h.ok hn hd)
  obtain ⟨g, cap, f0, rfl, hnc, hc, hat⟩ := own_is h.row (by omega)
  have hgl := hat.lt
  have cd := fun (W : World) (hb : Below w.heap.size w W) => delete_any g cap s.ls.length i _ f0 W hnc hi hc hlen (hat.of_block (hb.block g hgl))
  have CD := Lib.hid cd
  have HC := Lib.hid hc
  have c0 := h.c0
  have c2 := h.c2
  have hbl := cell_lt c2
  simp only [] at hbl
  have hBg : Bb ≠ g := fun e => h.ne (by rw [e]; rfl)
  have hmg : bm ≠ g := fun e => h.ne_map.2 (by rw [e]; rfl)
  have HB := Lib.hid h
  have f2 := h.f2
  have hle : (s.ls.eraseIdx i).length = s.ls.length - 1 := List.length_eraseIdx_of_lt hi
  have HLE := Lib.hid hle
  have HDR := Lib.hid (delR_erase hi)
  obtain ⟨dn, df, dt, db⟩ := d
  clear h cf cd hat hle hn hd hc
  go_enter Try.func11, Try.ntmps11
  go_wp2_with (fail)
  refine (CF.out _ (by repeat (first | with_reducible refine Below.setCell ?_ (by first | (simp; done) | (simp; omega) | omega) _ | with_reducible refine Below.alloc ?_ (by first | (simp; done) | (simp; omega) | omega) _ | with_reducible refine Below.drew ?_ | with_reducible refine below_drewN ?_ _ | with_reducible exact Below.refl _ _))).mono ?_; rintro e w1 ⟨rfl, hb1⟩
  obtain ⟨hcc, hff⟩ := bcell hb1
  have hz : w.heap.size < w1.heap.size := by have := hb1.size; simp at this; omega
  have kb1 : Below w.heap.size w w1 := (by repeat (first | with_reducible refine Below.setCell ?_ (by first | (simp; done) | (simp; omega) | omega) _ | with_reducible refine Below.alloc ?_ (by first | (simp; done) | (simp; omega) | omega) _ | with_reducible refine Below.drew ?_ | with_reducible refine below_drewN ?_ _ | with_reducible exact Below.refl _ _ | with_reducible refine Below.trans ?_ (Below.mono hb1 (by first | (simp; done) | (simp; omega) | omega))))
  have d1 : w1.cell? ⟨Bb, 2, none⟩ = some (.slice (some ⟨g, 0, none⟩) s.ls.length cap) := (hcc Bb 2 (by simp; omega)).trans (by go_simp)
  have hbl1 : Bb < w1.heap.size := by omega
  go_wp2_with (fail)
  refine (CD.out _ (by repeat (first | with_reducible refine Below.setCell ?_ (by first | (simp; done) | (simp; omega) | omega) _ | with_reducible refine Below.alloc ?_ (by first | (simp; done) | (simp; omega) | omega) _ | with_reducible refine Below.drew ?_ | with_reducible refine below_drewN ?_ _ | with_reducible exact Below.refl _ _ | with_reducible refine Below.trans ?_ (Below.mono kb1 (by first | (simp; done) | (simp; omega) | omega))))).mono ?_; rintro e w2 ⟨rfl, hr2, ht2⟩
  have hs2 := ht2.size
  simp only [World.size_alloc] at hs2
  have kk : ∀ (b o : Nat), b < w1.heap.size + 1 → b ≠ g → w2.cell? ⟨b, o, none⟩ = (w1.alloc (Obj.cells #[.int .i64 dn, .int .i64 df, .int .i64 dt, .string db] 33)).cell? ⟨b, o, none⟩ ∧ w2.frozen? ⟨b, o, none⟩ = (w1.alloc (Obj.cells #[.int .i64 dn, .int .i64 df, .int .i64 dt, .string db] 33)).frozen? ⟨b, o, none⟩ := fun b o h1 h2 => by
    have := ht2.block b (by simpa using h1) (by simpa using h2)
    exact ⟨World.cell?_of_block (a := ⟨b, o, none⟩) this, frozen_of_block (p := ⟨b, o, none⟩) this⟩
  have z40 : w2.cell? ⟨w.heap.size, 0, none⟩ = some (.int .i64 0) := (kk w.heap.size 0 (by omega) (by omega)).1.trans (by go_simp)
  have y40 : w2.frozen? ⟨w.heap.size, 0, none⟩ = false := (kk w.heap.size 0 (by omega) (by omega)).2.trans (by go_simp)
  have z70 : w2.cell? ⟨w1.heap.size, 0, none⟩ = some (.int .i64 dn) := (kk w1.heap.size 0 (by omega) (by omega)).1.trans (by go_simp)
  have z41 : w2.cell? ⟨w.heap.size, 1, none⟩ = some (.int .i64 0) := (kk w.heap.size 1 (by omega) (by omega)).1.trans (by go_simp)
  have y41 : w2.frozen? ⟨w.heap.size, 1, none⟩ = false := (kk w.heap.size 1 (by omega) (by omega)).2.trans (by go_simp)
  have z71 : w2.cell? ⟨w1.heap.size, 1, none⟩ = some (.int .i64 df) := (kk w1.heap.size 1 (by omega) (by omega)).1.trans (by go_simp)
  have z42 : w2.cell? ⟨w.heap.size, 2, none⟩ = some (.int .i64 0) := (kk w.heap.size 2 (by omega) (by omega)).1.trans (by go_simp)
  have y42 : w2.frozen? ⟨w.heap.size, 2, none⟩ = false := (kk w.heap.size 2 (by omega) (by omega)).2.trans (by go_simp)
  have z72 : w2.cell? ⟨w1.heap.size, 2, none⟩ = some (.int .i64 dt) := (kk w1.heap.size 2 (by omega) (by omega)).1.trans (by go_simp)
  have z43 : w2.cell? ⟨w.heap.size, 3, none⟩ = some (.string ⟨#[]⟩) := (kk w.heap.size 3 (by omega) (by omega)).1.trans (by go_simp)
  have y43 : w2.frozen? ⟨w.heap.size, 3, none⟩ = false := (kk w.heap.size 3 (by omega) (by omega)).2.trans (by go_simp)
  have z73 : w2.cell? ⟨w1.heap.size, 3, none⟩ = some (.string db) := (kk w1.heap.size 3 (by omega) (by omega)).1.trans (by go_simp)
  have d2 : w2.cell? ⟨Bb, 2, none⟩ = some (.slice (some ⟨g, 0, none⟩) s.ls.length cap) := (kk Bb 2 (by omega) hBg).1.trans (by go_simp)
  have e2 : w2.frozen? ⟨Bb, 2, none⟩ = false := (kk Bb 2 (by omega) hBg).2.trans (by go_simp)
  have hb1' : BagAt (w1.alloc (Obj.cells #[.int .i64 dn, .int .i64 df, .int .i64 dt, .string db] 33)) Bb bm (.slice (some ⟨g, 0, none⟩) s.ls.length cap) s := HB.out.below (by repeat (first | with_reducible refine Below.setCell ?_ (by first | (simp; done) | (simp; omega) | omega) _ | with_reducible refine Below.alloc ?_ (by first | (simp; done) | (simp; omega) | omega) _ | with_reducible refine Below.drew ?_ | with_reducible refine below_drewN ?_ _ | with_reducible exact Below.refl _ _ | with_reducible refine Below.trans ?_ (Below.mono kb1 (by first | (simp; done) | (simp; omega) | omega))))
  have hrow := is_own (ls := s.ls.eraseIdx i) hr2 (by rw [HLE.out]; omega) hnc HC.out HDR.out
  rw [HLE.out] at hrow
  have hbf := hb1'.relist ht2 (by simpa using hBg) (by simpa using hmg) hrow (fun e => hBg (Option.some.inj e).symm) hok.out
  have HBF := Lib.hid hbf
  have hT : Turn (foot Bb bm (.slice (some ⟨g, 0, none⟩) s.ls.length cap)) w (w2.setCell ⟨Bb, 2, none⟩ (.slice (some ⟨g, 0, none⟩) (s.ls.length - 1) cap)) := by
    have h0 : Turn (foot Bb bm (.slice (some ⟨g, 0, none⟩) s.ls.length cap)) w (w1.alloc (Obj.cells #[.int .i64 dn, .int .i64 df, .int .i64 dt, .string db] 33)) := Turn.below (B := w.heap.size) (by repeat (first | with_reducible refine Below.setCell ?_ (by first | (simp; done) | (simp; omega) | omega) _ | with_reducible refine Below.alloc ?_ (by first | (simp; done) | (simp; omega) | omega) _ | with_reducible refine Below.drew ?_ | with_reducible refine below_drewN ?_ _ | with_reducible exact Below.refl _ _ | with_reducible refine Below.trans ?_ (Below.mono kb1 (by first | (simp; done) | (simp; omega) | omega)))) (Nat.le_refl _)
    exact (h0.trans ht2 (fun b hb => .inl (by rw [List.mem_singleton] at hb; subst hb; simp [foot, Value.ownBlock]))).setCell (.inl (by simp [foot])) _
  have HT := Lib.hid hT
  have hwz : w.heap.size < w2.heap.size := by omega
  have hwz1 : w1.heap.size < w2.heap.size := by omega
  have hwzb : Bb < w2.heap.size := by omega
  have hT4 : ∀ X : World, Turn [w.heap.size] X ((((X.setCell ⟨w.heap.size, 0, none⟩ (.int .i64 dn)).setCell ⟨w.heap.size, 1, none⟩ (.int .i64 df)).setCell ⟨w.heap.size, 2, none⟩ (.int .i64 dt)).setCell ⟨w.heap.size, 3, none⟩ (.string db)) := fun X => ((((Turn.refl _ X).setCell (.inl (by simp)) _).setCell (.inl (by simp)) _).setCell (.inl (by simp)) _).setCell (.inl (by simp)) _
  have HT4 := Lib.hid hT4
  have HFL := Lib.hid HB.out.lt
  clear hbf hT hT4 hb1' hrow hr2 ht2 CD CF kk hcc hff hb1 c2 c0
  go_wp2
  refine bodyPost_ret (v := .tuple #[.agg #[.int .i64 dn, .int .i64 df, .int .i64 dt, .string db], .int .i64 0]) (by simp [results, Try.results11, go_sem, *]) rfl ⟨rfl, ?_⟩
  refine ⟨_, HBF.out.turn (HT4.out _) (fun b hb => ?_), .inl rfl, HT.out.trans (HT4.out _) (fun b hb => .inr (by rw [List.mem_singleton] at hb; omega))⟩
  have := HFL.out b (by simpa [foot, Value.ownBlock] using hb)
  simp
  omega
theorem take_any (Bb bm : Nat) (lv : Value) (s : BS) (k : Int) (w : World) (h : BagAt w Bb bm lv s) :
    Calls Try.prog 11 #[.pointer (some ⟨Bb, 0, none⟩), .int .i64 k] w fun e w' => e = .returned (.tuple #[dAgg (takeS s k).2.1, .int .i64 (takeS s k).2.2]) ∧ ∃ lv', BagAt w' Bb bm lv' (takeS s k).1 ∧ Moved w lv lv' ∧ Turn (foot Bb bm lv) w w' := by
  cases hn : findN s.ls k with
  | none =>
    rw [takeS_none hn]
    refine (take_no Bb bm lv s k w h hn).mono ?_
    rintro e w' ⟨rfl, hb⟩
    exact ⟨rfl, lv, h.below hb, Moved.refl _ _, Turn.below hb (Nat.le_refl _)⟩
  | some i =>
    obtain ⟨d, hd, -⟩ := findN_some hn
    rw [takeS_some hn hd]
    exact take_yes Bb bm lv s k i d w h hn hd
set_option maxHeartbeats 4000000 in
theorem put_lost (Bb bm : Nat) (lv : Value) (s : BS) (a b : Int) (t : ByteArray) (w : World) (h : BagAt w Bb bm lv s) (ha : i64B a) (hb : i64B b) (hsv : sevB s a b = true) :
    Calls Try.prog 8 #[.pointer (some ⟨Bb, 0, none⟩), .int .i64 a, .int .i64 b, .string t] w fun e w' => e = .returned (.tuple #[.int .i64 0, .int .i64 34]) ∧ Below w.heap.size w w' := by
  obtain ⟨A, c, rfl⟩ := row_len h.row
  have c0 := h.c0
  have c1 := h.c1
  have c2 := h.c2
  have c3 := h.c3
  have hbl := cell_lt c0
  simp only [] at hbl
  obtain ⟨p, hp⟩ : ∃ p, lnk a b = p := ⟨_, rfl⟩
  have cp : ∀ W, Calls Try.prog 24 #[.int .i64 a, .int .i64 b] W fun e w' => e = .returned (lAgg p) ∧ Below W.heap.size W w' := fun W => by rw [← hp]; exact pair_any a b W
  have CP := Lib.hid cp
  have hlk := fun (W : World) (hW : Below w.heap.size w W) => look_sev (p1 := p.1) (p2 := p.2) h ha hb hp hW
  obtain ⟨p1, p2⟩ := p
  simp only [] at hlk
  rw [hsv] at hlk
  have HB := Lib.hid h
  clear hp cp
  simp only [if_true] at hlk
  clear h
  go_enter Try.func8, Try.ntmps8
  go_wp2_with (fail)
  refine (there_any Bb _ c0).mono ?_; rintro e w1 ⟨rfl, rfl⟩
  go_wp2
  refine wp_region_quietC_lit (KeptC w [(⟨Bb, 0, none⟩, .bool true), (⟨Bb, 1, none⟩, .int .i64 s.nx), (⟨Bb, 2, none⟩, .slice A s.ls.length c), (⟨Bb, 3, none⟩, .map (some bm))] []) (by kernel_rfl) (by kernel_rfl) ?_ ?_
  · refine KeptC.drewn ?_
    repeat' (first | refine KeptC.cons ?_ ?_ | refine KeptC.consF ?_ ?_ ?_ | refine KeptC.mk0 ?_)
    all_goals (first | with_reducible assumption | (go_simp; done) | (simp; omega) | exact (by repeat (first | with_reducible refine Below.setCell ?_ (by first | (simp; done) | (simp; omega) | omega) _ | with_reducible refine Below.alloc ?_ (by first | (simp; done) | (simp; omega) | omega) _ | with_reducible refine Below.drew ?_ | with_reducible refine below_drewN ?_ _ | with_reducible exact Below.refl _ _)))
  repeat (first
    | go_big_quiet_skip
    | (go_big_quiet_want; (apply quietC_run); (· intro w' hw'; (have hk' := hw'; simp only [KeptC, List.forall_mem_cons] at hk'; go_split_ands); go_simp; first | done | rfl); (simp only [Act.put, List.setIfInBounds_toArray, List.set_cons_zero, List.set_cons_succ]; go_big_quiet_on))
    | (go_big_quiet_want; (apply quietC_call); (· intro w' hw'; go_simp; first | done | exact ⟨rfl, rfl⟩ | rfl); (· intro w' hw'; first | ((with_reducible refine (CP.out _).mono ?_); rintro e w2 ⟨rfl, hb⟩; exact ⟨rfl, hw'.below hb⟩)); (simp only [Act.put, List.setIfInBounds_toArray, List.set_cons_zero, List.set_cons_succ]; go_big_quiet_on)))
  refine wpQuiet_nil ?_
  intro w9 hk9
  (have hk' := hk9; simp only [KeptC, List.forall_mem_cons] at hk'; go_split_ands); have hkB9 := hk9.1
  go_wp2
  go_ret2
  exact ⟨rfl, hkB9⟩
set_option maxHeartbeats 4000000 in
theorem put_full (Bb bm : Nat) (lv : Value) (s : BS) (a b : Int) (t : ByteArray) (w : World) (h : BagAt w Bb bm lv s) (ha : i64B a) (hb : i64B b) (hsv : sevB s a b = false) (hf : 65536 ≤ s.ls.length ∨ 4611686018427387904 ≤ s.nx) :
    Calls Try.prog 8 #[.pointer (some ⟨Bb, 0, none⟩), .int .i64 a, .int .i64 b, .string t] w fun e w' => e = .returned (.tuple #[.int .i64 0, .int .i64 30]) ∧ Below w.heap.size w w' := by
  obtain ⟨A, c, rfl⟩ := row_len h.row
  have c0 := h.c0
  have c1 := h.c1
  have c2 := h.c2
  have c3 := h.c3
  have hbl := cell_lt c0
  simp only [] at hbl
  obtain ⟨p, hp⟩ : ∃ p, lnk a b = p := ⟨_, rfl⟩
  have cp : ∀ W, Calls Try.prog 24 #[.int .i64 a, .int .i64 b] W fun e w' => e = .returned (lAgg p) ∧ Below W.heap.size W w' := fun W => by rw [← hp]; exact pair_any a b W
  have CP := Lib.hid cp
  have hlk := fun (W : World) (hW : Below w.heap.size w W) => look_sev (p1 := p.1) (p2 := p.2) h ha hb hp hW
  obtain ⟨p1, p2⟩ := p
  simp only [] at hlk
  rw [hsv] at hlk
  have HB := Lib.hid h
  clear hp cp
  simp only [Bool.false_eq_true, if_false] at hlk
  clear h
  by_cases h1 : 65536 ≤ s.ls.length
  · have h1' : decide ((s.ls.length : Int) ≥ 65536) = true := by simp; omega
    have h1'' : (65536 : Int) ≤ (s.ls.length : Int) := by omega
    clear hf
    go_enter Try.func8, Try.ntmps8
    go_wp2_with (fail)
    refine (there_any Bb _ c0).mono ?_; rintro e w1 ⟨rfl, rfl⟩
    go_wp2
    refine wp_region_quietC_lit (KeptC w [(⟨Bb, 0, none⟩, .bool true), (⟨Bb, 1, none⟩, .int .i64 s.nx), (⟨Bb, 2, none⟩, .slice A s.ls.length c), (⟨Bb, 3, none⟩, .map (some bm))] []) (by kernel_rfl) (by kernel_rfl) ?_ ?_
    · refine KeptC.drewn ?_
      repeat' (first | refine KeptC.cons ?_ ?_ | refine KeptC.consF ?_ ?_ ?_ | refine KeptC.mk0 ?_)
      all_goals (first | with_reducible assumption | (go_simp; done) | (simp; omega) | exact (by repeat (first | with_reducible refine Below.setCell ?_ (by first | (simp; done) | (simp; omega) | omega) _ | with_reducible refine Below.alloc ?_ (by first | (simp; done) | (simp; omega) | omega) _ | with_reducible refine Below.drew ?_ | with_reducible refine below_drewN ?_ _ | with_reducible exact Below.refl _ _)))
    repeat (first
      | go_big_quiet_skip
      | (go_big_quiet_want; (apply quietC_run); (· intro w' hw'; (have hk' := hw'; simp only [KeptC, List.forall_mem_cons] at hk'; go_split_ands); go_simp; first | done | rfl); (simp only [Act.put, List.setIfInBounds_toArray, List.set_cons_zero, List.set_cons_succ]; go_big_quiet_on))
      | (go_big_quiet_want; (apply quietC_call); (· intro w' hw'; go_simp; first | done | exact ⟨rfl, rfl⟩ | rfl); (· intro w' hw'; first | ((with_reducible refine (CP.out _).mono ?_); rintro e w2 ⟨rfl, hb⟩; exact ⟨rfl, hw'.below hb⟩)); (simp only [Act.put, List.setIfInBounds_toArray, List.set_cons_zero, List.set_cons_succ]; go_big_quiet_on)))
    refine wpQuiet_nil ?_
    intro w9 hk9
    (have hk' := hk9; simp only [KeptC, List.forall_mem_cons] at hk'; go_split_ands); have hkB9 := hk9.1
    clear hlk
    go_wp2
    go_ret2
    exact ⟨rfl, hkB9⟩
  · have h2 : 4611686018427387904 ≤ s.nx := hf.resolve_left h1
    have h1' : ¬ (65536 : Int) ≤ (s.ls.length : Int) := by omega
    clear hf
    go_enter Try.func8, Try.ntmps8
    go_wp2_with (fail)
    refine (there_any Bb _ c0).mono ?_; rintro e w1 ⟨rfl, rfl⟩
    go_wp2
    refine wp_region_quietC_lit (KeptC w [(⟨Bb, 0, none⟩, .bool true), (⟨Bb, 1, none⟩, .int .i64 s.nx), (⟨Bb, 2, none⟩, .slice A s.ls.length c), (⟨Bb, 3, none⟩, .map (some bm))] []) (by kernel_rfl) (by kernel_rfl) ?_ ?_
    · refine KeptC.drewn ?_
      repeat' (first | refine KeptC.cons ?_ ?_ | refine KeptC.consF ?_ ?_ ?_ | refine KeptC.mk0 ?_)
      all_goals (first | with_reducible assumption | (go_simp; done) | (simp; omega) | exact (by repeat (first | with_reducible refine Below.setCell ?_ (by first | (simp; done) | (simp; omega) | omega) _ | with_reducible refine Below.alloc ?_ (by first | (simp; done) | (simp; omega) | omega) _ | with_reducible refine Below.drew ?_ | with_reducible refine below_drewN ?_ _ | with_reducible exact Below.refl _ _)))
    repeat (first
      | go_big_quiet_skip
      | (go_big_quiet_want; (apply quietC_run); (· intro w' hw'; (have hk' := hw'; simp only [KeptC, List.forall_mem_cons] at hk'; go_split_ands); go_simp; first | done | rfl); (simp only [Act.put, List.setIfInBounds_toArray, List.set_cons_zero, List.set_cons_succ]; go_big_quiet_on))
      | (go_big_quiet_want; (apply quietC_call); (· intro w' hw'; go_simp; first | done | exact ⟨rfl, rfl⟩ | rfl); (· intro w' hw'; first | ((with_reducible refine (CP.out _).mono ?_); rintro e w2 ⟨rfl, hb⟩; exact ⟨rfl, hw'.below hb⟩)); (simp only [Act.put, List.setIfInBounds_toArray, List.set_cons_zero, List.set_cons_succ]; go_big_quiet_on)))
    refine wpQuiet_nil ?_
    intro w9 hk9
    (have hk' := hk9; simp only [KeptC, List.forall_mem_cons] at hk'; go_split_ands); have hkB9 := hk9.1
    clear hlk
    go_wp2
    go_ret2
    exact ⟨rfl, hkB9⟩
theorem lay0 {P : Program} {c : Code} {Q : Exit → Act → World → Prop} {a : Act} {W : World} (C : World → Prop) (hC : C W) (h : ∀ W', C W' → c.wp P Q a W') : c.wp P Q a W := h W hC
theorem okS_put {s : BS} {a b : Int} {t : ByteArray} (h : OkS s) (ha : i64B a) (hb : i64B b) (h1 : ¬ 65536 ≤ s.ls.length) (h2 : ¬ 4611686018427387904 ≤ s.nx) : OkS ⟨s.nx + 1, s.ls ++ [⟨s.nx + 1, a, b, t⟩], s.sv⟩ := by
  have h0 := h.nx0
  refine ⟨by simp only []; omega, by simp only []; omega, by simp only [List.length_append, List.length_singleton]; omega, h.sv, h.i64, fun d hd => ?_⟩
  rcases List.mem_append.1 hd with hd | hd
  · exact h.nm d hd
  · rw [List.mem_singleton] at hd
    subst hd
    exact ⟨by unfold i64B; simp only []; omega, ha, hb⟩
theorem okS_num {s : BS} (h : OkS s) (h2 : ¬ 4611686018427387904 ≤ s.nx) : OkS ⟨s.nx + 1, s.ls, s.sv⟩ := by
  have h0 := h.nx0
  exact ⟨by simp only []; omega, by simp only []; omega, h.len, h.sv, h.i64, h.nm⟩
theorem dcells_new (W : World) (d : Dg) : ∀ (j : Nat) (u : Value), (encD d)[j]? = some u → (W.alloc (Obj.cells #[.int .i64 d.num, .int .i64 d.frm, .int .i64 d.dst, .string d.body] 33)).cell? ((⟨W.heap.size, 0, none⟩ : Addr).add j) = some u := by
  intro j u hu
  have hj : j < 4 := by have := (List.getElem?_eq_some_iff.1 hu).1; simpa [encD] using this
  rw [Addr.add_lit]
  match j, hj with
  | 0, _ | 1, _ | 2, _ | 3, _ => simp [encD] at hu; subst hu; go_simp
set_option maxHeartbeats 4000000 in
theorem put_ok (Bb bm : Nat) (lv : Value) (s : BS) (a b : Int) (t : ByteArray) (w : World) (h : BagAt w Bb bm lv s) (ha : i64B a) (hb : i64B b) (hsv : sevB s a b = false) (hf1 : ¬ 65536 ≤ s.ls.length) (hf2 : ¬ 4611686018427387904 ≤ s.nx) :
    Calls Try.prog 8 #[.pointer (some ⟨Bb, 0, none⟩), .int .i64 a, .int .i64 b, .string t] w fun e w' => e = .returned (.tuple #[.int .i64 (s.nx + 1), .int .i64 0]) ∧ ∃ lv', BagAt w' Bb bm lv' ⟨s.nx + 1, s.ls ++ [⟨s.nx + 1, a, b, t⟩], s.sv⟩ ∧ Moved w lv lv' ∧ Turn (foot Bb bm lv) w w' := by
  obtain ⟨A, c, rfl⟩ := row_len h.row
  obtain ⟨i0, hi0, hj0, hj1, hj2⟩ := info_parts dg_inf
  have c0 := h.c0
  have c1 := h.c1
  have c2 := h.c2
  have c3 := h.c3
  have hbl := cell_lt c0
  simp only [] at hbl
  obtain ⟨p, hp⟩ : ∃ p, lnk a b = p := ⟨_, rfl⟩
  have cp : ∀ W, Calls Try.prog 24 #[.int .i64 a, .int .i64 b] W fun e w' => e = .returned (lAgg p) ∧ Below W.heap.size W w' := fun W => by rw [← hp]; exact pair_any a b W
  have CP := Lib.hid cp
  have hlk := fun (W : World) (hW : Below w.heap.size w W) => look_sev (p1 := p.1) (p2 := p.2) h ha hb hp hW
  obtain ⟨p1, p2⟩ := p
  simp only [] at hlk
  rw [hsv] at hlk
  have HB := Lib.hid h
  clear hp cp
  simp only [Bool.false_eq_true, if_false] at hlk
  have HLL : Hid (s.ls.length ≤ 65536) := Lib.hid (by omega)
  have hq1 : decide ((65536 : Int) ≤ (s.ls.length : Int)) = false := by simp; omega
  have HF1 := Lib.hid hf1
  have HF2 := Lib.hid hf2
  obtain ⟨m, hm⟩ : ∃ m, s.nx + 1 = m := ⟨_, rfl⟩
  have hw : wrap64 (s.nx + 1) = m := by have := h.ok.nx0; unfold wrap64; omega
  have HM := Lib.hid hm
  have HNM := Lib.hid (okS_num h.ok hf2)
  have HPU := Lib.hid (okS_put (t := t) h.ok ha hb hf1 hf2)
  have hq : decide (4611686018427387904 ≤ s.nx) = false := by simpa using hf2
  clear h hf1 hm hf2
  rw [HM.out] at HNM HPU ⊢
  go_enter Try.func8, Try.ntmps8
  go_wp2_with (fail)
  refine (there_any Bb _ c0).mono ?_; rintro e w1 ⟨rfl, rfl⟩
  go_wp2
  refine wp_region_quietC_lit (KeptC w [(⟨Bb, 0, none⟩, .bool true), (⟨Bb, 1, none⟩, .int .i64 s.nx), (⟨Bb, 2, none⟩, .slice A s.ls.length c), (⟨Bb, 3, none⟩, .map (some bm))] []) (by kernel_rfl) (by kernel_rfl) ?_ ?_
  · refine KeptC.drewn ?_
    repeat' (first | refine KeptC.cons ?_ ?_ | refine KeptC.consF ?_ ?_ ?_ | refine KeptC.mk0 ?_)
    all_goals (first | with_reducible assumption | (go_simp; done) | (simp; omega) | exact (by repeat (first | with_reducible refine Below.setCell ?_ (by first | (simp; done) | (simp; omega) | omega) _ | with_reducible refine Below.alloc ?_ (by first | (simp; done) | (simp; omega) | omega) _ | with_reducible refine Below.drew ?_ | with_reducible refine below_drewN ?_ _ | with_reducible exact Below.refl _ _)))
  repeat (first
    | go_big_quiet_skip
    | (go_big_quiet_want; (apply quietC_run); (· intro w' hw'; (have hk' := hw'; simp only [KeptC, List.forall_mem_cons] at hk'; go_split_ands); go_simp; first | done | rfl); (simp only [Act.put, List.setIfInBounds_toArray, List.set_cons_zero, List.set_cons_succ]; go_big_quiet_on))
    | (go_big_quiet_want; (apply quietC_call); (· intro w' hw'; go_simp; first | done | exact ⟨rfl, rfl⟩ | rfl); (· intro w' hw'; first | ((with_reducible refine (CP.out _).mono ?_); rintro e w2 ⟨rfl, hb⟩; exact ⟨rfl, hw'.below hb⟩)); (simp only [Act.put, List.setIfInBounds_toArray, List.set_cons_zero, List.set_cons_succ]; go_big_quiet_on)))
  refine wpQuiet_nil ?_
  intro w9 hk9
  (have hk' := hk9; simp only [KeptC, List.forall_mem_cons] at hk'; go_split_ands); have hkB9 := hk9.1
  have hB9 := HB.out.below hkB9
  have f1 := hB9.f1
  have f2 := hB9.f2
  have HB9 := Lib.hid hB9
  clear hlk c0 c1 c2 c3 hB9
  go_wp2
  refine lay0 (fun W => BagAt W Bb bm (.slice A s.ls.length c) ⟨m, s.ls, s.sv⟩ ∧ Turn (foot Bb bm (.slice A s.ls.length c)) w W) ⟨HB9.out.renum HNM.out, (Turn.below hkB9 (Nat.le_refl _)).setCell (.inl (by simp [foot])) _⟩ ?_
  rintro w10 ⟨hb10, ht10⟩
  have d0 := hb10.c0
  have d1 := hb10.c1
  have d2 := hb10.c2
  have e2 := hb10.f2
  have hbl10 := cell_lt d0
  simp only [] at hbl10
  have HRW : Hid (w10.ownsRow 0 33 4 (.slice A s.ls.length c) s.ls.length (flatE encD s.ls)) := Lib.hid hb10.row
  have HNE : Hid (some Bb ≠ (Value.slice A s.ls.length c).ownBlock) := Lib.hid (Ne.symm hb10.ne)
  have HRD : Hid (Reads (w10.alloc (Obj.cells #[.int .i64 m, .int .i64 a, .int .i64 b, .string t] 33)) (w10.heap.size + 1) 4 (some ⟨w10.heap.size, 0, none⟩) 1 (encD ⟨m, a, b, t⟩)) := Lib.hid ⟨rfl, fun _ => ⟨_, rfl, Nat.lt_succ_self _, dcells_new w10 ⟨m, a, b, t⟩⟩⟩
  have HB10 := Lib.hid hb10
  have HT10 := Lib.hid ht10
  clear hb10 ht10 HB9 f1 f2 hw HNM
  simp only [] at d1 d2
  have hl := HLL.out
  go_region_law (refine step_append_any _ rfl (.tmp 49) (.tmp 58) _ rfl 0 33 i0 _ 4 40 Try.underlying43 hi0 hj0 hj1 hj2 rfl (by omega) (.slice A s.ls.length c) s.ls.length (flatE encD s.ls) rfl (by exact HRW.out.alloc _) (w10.heap.size + 1) (some ⟨w10.heap.size, 0, none⟩) 1 1 (encD ⟨m, a, b, t⟩) rfl (by exact HRD.out) (encD_one _) (by simp only [maxLen]; omega) (by omega) (by omega) ?_; intro v6 w6 hown6 hg6 hat6; obtain ⟨A6, c6, hv6⟩ := row_slice' hown6; subst hv6; have qq := (hg6.block Bb (by simp; omega) (by first | exact HNE.out | (intro e; exact HNE.out e.symm))); have q2 : w6.cell? ⟨Bb, 2, none⟩ = some (.slice A s.ls.length c) := (World.cell?_of_block (a := ⟨Bb, 2, none⟩) qq).trans (by go_simp); have g2 : w6.frozen? ⟨Bb, 2, none⟩ = false := (frozen_of_block (p := ⟨Bb, 2, none⟩) qq).trans (by go_simp); have q1 : w6.cell? ⟨Bb, 1, none⟩ = some (.int .i64 m) := (World.cell?_of_block (a := ⟨Bb, 1, none⟩) qq).trans (by go_simp); have hs6 := hg6.size; (try simp at hs6); have hb6 : Bb < w6.heap.size := (by omega); have HO6 := Lib.hid hown6; have HG6 := Lib.hid hg6; have HA6 := Lib.hid hat6; clear hown6 hg6 hat6 qq)
  all_goals
    have hT6 : Turn (Value.slice A s.ls.length c).ownBlock.toList w10 w6 := (Turn.below (B := w10.heap.size) (Below.drew ((Below.refl _ _).alloc (Nat.le_refl _) (Obj.cells #[.int .i64 m, .int .i64 a, .int .i64 b, .string t] 33))) (Nat.le_refl _)).grown HG6.out (fun j e => .inl (by rw [e]; simp))
    have hrow6 : RowD w6 (.slice A6 (s.ls.length + 1) c6) (s.ls ++ [⟨m, a, b, t⟩]) := by
      unfold RowD OwnE
      rw [flatE_snoc, List.length_append]
      exact HO6.out
    have hne6 : (Value.slice A6 (s.ls.length + 1) c6).ownBlock ≠ some Bb := by
      rcases HA6.out with e | e
      · rw [e]; exact HB10.out.ne
      · rw [e]
        intro e2
        have := Option.some.inj e2
        simp at this
        omega
    have hbf := HB10.out.relist hT6 (fun hm => HB10.out.ne (Option.mem_toList.1 hm)) (fun hm => HB10.out.ne_map.2 (Option.mem_toList.1 hm)) hrow6 hne6 HPU.out
    have HBF := Lib.hid hbf
    have HTF : Hid (Turn (foot Bb bm (.slice A s.ls.length c)) w (w6.setCell ⟨Bb, 2, none⟩ (.slice A6 (s.ls.length + 1) c6))) := Lib.hid ((HT10.out.trans hT6 (fun b hb => .inl (by simp only [foot, List.mem_cons]; exact .inr (.inr hb)))).setCell (.inl (by simp [foot])) _)
    have hwz := HT10.out.size
    clear hT6 hrow6 hne6 hbf hl
    go_wp2
    go_ret2
    exact ⟨rfl, _, HBF.out, HA6.out.imp id (fun e => ⟨_, e, by simp; omega⟩), HTF.out⟩
theorem put_any (Bb bm : Nat) (lv : Value) (s : BS) (a b : Int) (t : ByteArray) (w : World) (h : BagAt w Bb bm lv s) (ha : i64B a) (hb : i64B b) :
    Calls Try.prog 8 #[.pointer (some ⟨Bb, 0, none⟩), .int .i64 a, .int .i64 b, .string t] w fun e w' => e = .returned (.tuple #[.int .i64 (putS s a b t).2.1, .int .i64 (putS s a b t).2.2]) ∧ ∃ lv', BagAt w' Bb bm lv' (putS s a b t).1 ∧ Moved w lv lv' ∧ Turn (foot Bb bm lv) w w' := by
  unfold putS
  cases hsv : sevB s a b with
  | true =>
    rw [if_pos rfl]
    refine (put_lost Bb bm lv s a b t w h ha hb hsv).mono ?_
    rintro e w' ⟨rfl, hb'⟩
    exact ⟨rfl, lv, h.below hb', Moved.refl _ _, Turn.below hb' (Nat.le_refl _)⟩
  | false =>
    rw [if_neg (by simp)]
    by_cases hf : 65536 ≤ s.ls.length ∨ 4611686018427387904 ≤ s.nx
    · rw [if_pos hf]
      refine (put_full Bb bm lv s a b t w h ha hb hsv hf).mono ?_
      rintro e w' ⟨rfl, hb'⟩
      exact ⟨rfl, lv, h.below hb', Moved.refl _ _, Turn.below hb' (Nat.le_refl _)⟩
    · rw [if_neg hf]
      exact put_ok Bb bm lv s a b t w h ha hb hsv (fun e => hf (.inl e)) (fun e => hf (.inr e))
theorem doubS_none {s : BS} {k : Int} (h : findN s.ls k = none) : doubS s k = (s, 0, 31) := by unfold doubS; rw [h]
theorem doubS_some {s : BS} {k : Int} {i : Nat} {d : Dg} (h : findN s.ls k = some i) (hd : s.ls[i]? = some d) : doubS s k = putS s d.frm d.dst d.body := by unfold doubS; rw [h]; simp only [hd, Option.getD_some]
set_option maxHeartbeats 4000000 in
theorem double_any (Bb bm : Nat) (lv : Value) (s : BS) (k : Int) (w : World) (h : BagAt w Bb bm lv s) :
    Calls Try.prog 9 #[.pointer (some ⟨Bb, 0, none⟩), .int .i64 k] w fun e w' => e = .returned (.tuple #[.int .i64 (doubS s k).2.1, .int .i64 (doubS s k).2.2]) ∧ ∃ lv', BagAt w' Bb bm lv' (doubS s k).1 ∧ Moved w lv lv' ∧ Turn (foot Bb bm lv) w w' := by
  have c0 := h.c0
  have hbl := cell_lt c0
  simp only [] at hbl
  cases hn : findN s.ls k with
  | none =>
    rw [doubS_none hn]
    have cf := fun (W : World) (hb : Below w.heap.size w W) => find_no (k := k) (h.below hb) hn
    have CF := Lib.hid cf
    have HB := Lib.hid h
    clear h cf hn
    go_enter Try.func9, Try.ntmps9
    go_wp2_with (fail)
    refine (there_any Bb _ c0).mono ?_; rintro e w1 ⟨rfl, rfl⟩
    go_wp2_with (fail)
    refine (CF.out _ (by repeat (first | with_reducible refine Below.setCell ?_ (by first | (simp; done) | (simp; omega) | omega) _ | with_reducible refine Below.alloc ?_ (by first | (simp; done) | (simp; omega) | omega) _ | with_reducible refine Below.drew ?_ | with_reducible refine below_drewN ?_ _ | with_reducible exact Below.refl _ _))).mono ?_; rintro e w2 ⟨rfl, hb2⟩
    have hz2 := hb2.size
    go_wp2
    go_ret2
    have hbb : Below w.heap.size w (w2.alloc (Obj.cells #[.int .i64 0, .int .i64 0, .int .i64 0, .string ⟨#[]⟩] 33)) := (by repeat (first | with_reducible refine Below.setCell ?_ (by first | (simp; done) | (simp; omega) | omega) _ | with_reducible refine Below.alloc ?_ (by first | (simp; done) | (simp; omega) | omega) _ | with_reducible refine Below.drew ?_ | with_reducible refine below_drewN ?_ _ | with_reducible exact Below.refl _ _ | with_reducible refine Below.trans ?_ (Below.mono hb2 (by first | (simp; done) | (simp; omega) | omega))))
    exact ⟨rfl, lv, HB.out.below hbb, Moved.refl _ _, Turn.below hbb (Nat.le_refl _)⟩
  | some i =>
    obtain ⟨d, hd, -⟩ := findN_some hn
    rw [doubS_some hn hd]
    have cf := fun (W : World) (hb : Below w.heap.size w W) => find_yes (k := k) (h.below hb) hn hd
    have hnm := h.ok.nm d (List.mem_of_getElem? hd)
    have cpt := fun (W : World) (hb : Below w.heap.size w W) => put_any Bb bm lv s d.frm d.dst d.body W (h.below hb) hnm.2.1 hnm.2.2
    have CF := Lib.hid cf
    have CP := Lib.hid cpt
    obtain ⟨r, hr⟩ : ∃ r, putS s d.frm d.dst d.body = r := ⟨_, rfl⟩
    rw [hr] at CP ⊢
    obtain ⟨s', n', e'⟩ := r
    obtain ⟨dn, df, dt, db⟩ := d
    clear h cf hn hd cpt hnm hr
    simp only [] at CP ⊢
    go_enter Try.func9, Try.ntmps9
    go_wp2_with (fail)
    refine (there_any Bb _ c0).mono ?_; rintro e w1 ⟨rfl, rfl⟩
    go_wp2_with (fail)
    refine (CF.out _ (by repeat (first | with_reducible refine Below.setCell ?_ (by first | (simp; done) | (simp; omega) | omega) _ | with_reducible refine Below.alloc ?_ (by first | (simp; done) | (simp; omega) | omega) _ | with_reducible refine Below.drew ?_ | with_reducible refine below_drewN ?_ _ | with_reducible exact Below.refl _ _))).mono ?_; rintro e w2 ⟨rfl, hb2⟩
    have hz2 := hb2.size
    go_wp2_with (fail)
    refine (CP.out _ (by repeat (first | with_reducible refine Below.setCell ?_ (by first | (simp; done) | (simp; omega) | omega) _ | with_reducible refine Below.alloc ?_ (by first | (simp; done) | (simp; omega) | omega) _ | with_reducible refine Below.drew ?_ | with_reducible refine below_drewN ?_ _ | with_reducible exact Below.refl _ _ | with_reducible refine Below.trans ?_ (Below.mono hb2 (by first | (simp; done) | (simp; omega) | omega))))).mono ?_; rintro e w3 ⟨rfl, lv', hb3, hm3, ht3⟩
    have HB3 := Lib.hid hb3; have HM3 := Lib.hid hm3; have HT3 := Lib.hid ht3
    clear hb3 hm3 ht3 CP CF
    go_wp2
    go_ret2
    have hbb : Below w.heap.size w (w2.alloc (Obj.cells #[.int .i64 dn, .int .i64 df, .int .i64 dt, .string db] 33)) := (by repeat (first | with_reducible refine Below.setCell ?_ (by first | (simp; done) | (simp; omega) | omega) _ | with_reducible refine Below.alloc ?_ (by first | (simp; done) | (simp; omega) | omega) _ | with_reducible refine Below.drew ?_ | with_reducible refine below_drewN ?_ _ | with_reducible exact Below.refl _ _ | with_reducible refine Below.trans ?_ (Below.mono hb2 (by first | (simp; done) | (simp; omega) | omega))))
    exact ⟨rfl, lv', HB3.out, HM3.out.imp id (fun ⟨r, h1, h2⟩ => ⟨r, h1, by simp at h2; omega⟩), (Turn.below (F := foot Bb bm lv) hbb (Nat.le_refl _)).trans HT3.out (fun b hb => .inl hb)⟩
end Go.Proofs.Ytdaobbffhfbceaa
