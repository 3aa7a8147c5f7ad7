/- Sever, Mend, Take, Put, Double of a bag: what each call computes. -/
import Derived.Test.YtdaobbffhfbceaaBgS
namespace Go.Proofs.Ytdaobbffhfbceaa
open Go.RowKit Go.Shelf
set_option linter.unusedVariables false
set_option linter.unusedSimpArgs false
set_option maxRecDepth 100000
theorem sevS_eq {s : BS} {a b : Int} (h : a ≠ b) : sevS s a b = (⟨s.nx, filtP (sevP a b) s.ls, svS s a b⟩, (s.ls.length : Int) - (filtP (sevP a b) s.ls).length) := by
  unfold sevS filtP
  rw [if_neg h]
  have e : (fun d : Dg => !sevP a b d) = (fun d => !cutB a b d) := funext fun d => by rw [sevP_cut h]
  rw [e]
theorem okS_sv {s : BS} {a b : Int} (h : OkS s) (ha : i64B a) (hb : i64B b) : OkS ⟨s.nx, s.ls, svS s a b⟩ :=
  ⟨h.nx0, h.nx1, h.len, svS_rise h.sv, fun x hx => (svS_mem.1 hx).elim (fun e => e ▸ lnk_i64 ha hb) (h.i64 x), h.nm⟩
/-- The pair's count in the map. -/
theorem look_sev {w : World} {Bb bm : Nat} {lv : Value} {s : BS} {a b : Int} {p1 p2 : Int} (h : BagAt w Bb bm lv s) (ha : i64B a) (hb : i64B b) (hp : lnk a b = (p1, p2)) {W : World} (hW : Below w.heap.size w W) :
    (Instr.lookup 44 (.map (some bm)) (.agg #[.int .i64 p1, .int .i64 p2]) false).run Try.prog W = .ok (.int .i64 (if sevB s a b then 1 else 0)) W := by
  have h1 := (h.map.same (hW.block bm h.map.lt)).look h.ok.i64 (lnk_i64 ha hb)
  rw [hp] at h1
  rw [show (if sevB s a b then (1 : Int) else 0) = (if (p1, p2) ∈ s.sv then 1 else 0) by
    by_cases e : (p1, p2) ∈ s.sv
    · rw [if_pos e, if_pos (sevB_iff.2 (by rw [hp]; exact e))]
    · rw [if_neg e, if_neg (fun h => e (by rw [← hp]; exact sevB_iff.1 h))]]
  exact h1
set_option maxHeartbeats 4000000 in
theorem sever_same (Bb : Nat) (a : Int) (w : World) (c0 : w.cell? ⟨Bb, 0, none⟩ = some (.bool true)) :
    Calls Try.prog 12 #[.pointer (some ⟨Bb, 0, none⟩), .int .i64 a, .int .i64 a] w fun e w' => e = .returned (.int .i64 0) ∧ Below w.heap.size w w' := by
  have hbl := cell_lt c0
  simp only [] at hbl
  go_enter Try.func12, Try.ntmps12
  go_wp2_with (fail)
  refine (there_any Bb _ (by go_simp)).mono ?_; rintro e w1 ⟨rfl, rfl⟩
  go_wp2
  go_ret
  exact ⟨rfl, (by repeat (first | with_reducible refine Below.setCell ?_ (by first | (simp; done) | (simp; omega) | omega) _ | with_reducible refine Below.alloc ?_ (by first | (simp; done) | (simp; omega) | omega) _ | with_reducible refine Below.drew ?_ | with_reducible refine below_drewN ?_ _ | with_reducible exact Below.refl _ _))⟩
set_option maxHeartbeats 4000000 in
theorem sever_any (Bb bm : Nat) (lv : Value) (s : BS) (a b : Int) (w : World) (h : BagAt w Bb bm lv s) (hab : a ≠ b) (ha : i64B a) (hb : i64B b) (hsl : s.sv.length < maxLen) :
    Calls Try.prog 12 #[.pointer (some ⟨Bb, 0, none⟩), .int .i64 a, .int .i64 b] w fun e w' => e = .returned (.int .i64 (sevS s a b).2) ∧ ∃ lv', BagAt w' Bb bm lv' (sevS s a b).1 ∧ Moved w lv lv' ∧ Turn (foot Bb bm lv) w w' := by
  rw [sevS_eq hab]
  have c0 := h.c0
  have c3 := h.c3
  have hbl := cell_lt c0
  simp only [] at hbl
  have hml := h.map.lt
  have hmB := h.ne_map.1
  have hfl := h.lt
  obtain ⟨p, hp⟩ : ∃ p, lnk a b = p := ⟨_, rfl⟩
  have c1 : ∀ W, Calls Try.prog 24 #[.int .i64 a, .int .i64 b] W fun e w' => e = .returned (lAgg p) ∧ Below W.heap.size W w' := fun W => by rw [← hp]; exact pair_any a b W
  have C1 := Lib.hid c1
  have cst := fun (W : World) (hW : Below w.heap.size w W) => (h.map.same (hW.block bm hml)).store (sv' := svS s a b) h.ok.i64 (lnk_i64 ha hb) hsl (fun y => svS_mem) (svS_rise h.ok.sv).nodup
  rw [hp] at cst
  have CST := Lib.hid cst
  have HB := Lib.hid h
  have HFL := Lib.hid hfl
  have hab2 : (a == b) = false := by simpa using hab
  have HOK := Lib.hid (okS_sv h.ok ha hb)
  clear c1 cst h hfl hp
  obtain ⟨p1, p2⟩ := p
  go_enter Try.func12, Try.ntmps12
  go_wp2_with (fail)
  refine (there_any Bb _ (by go_simp)).mono ?_; rintro e w1 ⟨rfl, rfl⟩
  go_wp2
  refine wp_region_quietC_tail (KeptC w [(⟨w.heap.size, 0, none⟩, .int .i64 a), (⟨w.heap.size + 1, 0, none⟩, .int .i64 b), (⟨Bb, 3, none⟩, .map (some bm))] []) 7 (by kernel_rfl) (by kernel_rfl) ?_ ?_
  · refine KeptC.drewn ?_
    repeat' (first | refine KeptC.cons ?_ ?_ | refine KeptC.consF ?_ ?_ ?_ | refine KeptC.mk0 ?_)
    all_goals (first | with_reducible assumption | (go_simp; done) | (simp; omega) | exact (by repeat (first | with_reducible refine Below.setCell ?_ (by first | (simp; done) | (simp; omega) | omega) _ | with_reducible refine Below.alloc ?_ (by first | (simp; done) | (simp; omega) | omega) _ | with_reducible refine Below.drew ?_ | with_reducible refine below_drewN ?_ _ | with_reducible exact Below.refl _ _)))
  simp only [List.take_succ_cons, List.take_zero, List.drop_succ_cons, List.drop_zero]
  repeat (first
    | go_big_quiet_skip
    | (go_big_quiet_want; (apply quietC_run); (· intro w' hw'; (have hk' := hw'; simp only [KeptC, List.forall_mem_cons] at hk'; go_split_ands); go_simp; first | done | rfl); (simp only [Act.put, List.setIfInBounds_toArray, List.set_cons_zero, List.set_cons_succ]; go_big_quiet_on))
    | (go_big_quiet_want; (apply quietC_call); (· intro w' hw'; go_simp; first | done | exact ⟨rfl, rfl⟩ | rfl); (· intro w' hw'; first | ((with_reducible refine (C1.out _).mono ?_); rintro e w2 ⟨rfl, hb⟩; exact ⟨rfl, hw'.below hb⟩)); (simp only [Act.put, List.setIfInBounds_toArray, List.set_cons_zero, List.set_cons_succ]; go_big_quiet_on)))
  refine wpQuiet_nil ?_
  intro w9 hk9
  (have hk' := hk9; simp only [KeptC, List.forall_mem_cons] at hk'; go_split_ands); have hkB9 := hk9.1
  obtain ⟨w10, hrun, hm10, hg10⟩ := CST.out w9 hkB9
  have HM := Lib.hid hm10
  have hb9 := HB.out.below hkB9
  have hb10 := Lib.hid (hb9.remap hg10 hm10 HOK.out)
  have kA : w10.cell? ⟨w.heap.size, 0, none⟩ = some (.int .i64 a) := (World.cell?_of_block (a := ⟨w.heap.size, 0, none⟩) (hg10.block _ (cell_lt (by assumption : w9.cell? ⟨w.heap.size, 0, none⟩ = some (.int .i64 a))) (fun e => by have := Option.some.inj e; simp only [] at this; omega))).trans (by assumption)
  have kB : w10.cell? ⟨w.heap.size + 1, 0, none⟩ = some (.int .i64 b) := (World.cell?_of_block (a := ⟨w.heap.size + 1, 0, none⟩) (hg10.block _ (cell_lt (by assumption : w9.cell? ⟨w.heap.size + 1, 0, none⟩ = some (.int .i64 b))) (fun e => by have := Option.some.inj e; simp only [] at this; omega))).trans (by assumption)
  have kT : Turn (foot Bb bm lv) w w10 := (Turn.below hkB9 (Nat.le_refl _)).grown hg10 (fun j e => by have := Option.some.inj e; subst this; exact .inl (by simp [foot]))
  have hz10 : w.heap.size + 1 < w10.heap.size := cell_lt kB
  have cl := lose_s Bb bm lv _ w.heap.size (w.heap.size + 1) a b w10 hb10.out kA kB (fun e => by have := HFL.out w.heap.size (by simp [foot, e]); omega) (fun e => by have := HFL.out (w.heap.size + 1) (by simp [foot, e]); omega)
  have CL := Lib.hid cl
  have KT := Lib.hid kT
  clear cl kT hb9 hm10 hg10 C1 CST HM hk9
  go_wp2_with (fail)
  refine CL.out.mono ?_; rintro e w11 ⟨rfl, lv', hb11, hm11, ht11⟩
  have HB11 := Lib.hid hb11; have HM11 := Lib.hid hm11; have HT11 := Lib.hid ht11
  clear hb11 hm11 ht11 CL
  go_wp2
  go_ret
  exact ⟨rfl, lv', HB11.out, HM11.out.imp id (fun ⟨r, h1, h2⟩ => ⟨r, h1, by omega⟩), KT.out.trans HT11.out (fun b hb => .inl hb)⟩
set_option maxHeartbeats 4000000 in
theorem KeptC.at0 {w0 w' : World} {a : Addr} {v : Value} {l : List (Addr × Value)} {F : List Addr} (h : KeptC w0 ((a, v) :: l) F w') : w'.cell? a = some v := h.2.1 (a, v) (List.mem_cons_self ..)
theorem KeptC.low {w0 w' : World} {l : List (Addr × Value)} {F : List Addr} (h : KeptC w0 l F w') : Below w0.heap.size w0 w' := h.1
theorem there_b (Bb : Nat) (w : World) (h : w.cell? ⟨Bb, 0, none⟩ = some (.bool true)) :
    Calls Try.prog 23 #[.pointer (some ⟨Bb, 0, none⟩)] w fun e w' => e = .returned (.bool true) ∧ Below w.heap.size w w' :=
  (there_any Bb w h).mono fun e w' h => ⟨h.1, h.2 ▸ Below.refl _ _⟩
theorem mend_any (Bb bm : Nat) (lv : Value) (s : BS) (a b : Int) (w : World) (h : BagAt w Bb bm lv s) (ha : i64B a) (hb : i64B b) :
    Calls Try.prog 14 #[.pointer (some ⟨Bb, 0, none⟩), .int .i64 a, .int .i64 b] w fun e w' => e = .returned (.bool (mendS s a b).2) ∧ BagAt w' Bb bm lv (mendS s a b).1 ∧ Turn (foot Bb bm lv) w w' := by
  have c0 := h.c0
  have c3 := h.c3
  have hbl := cell_lt c0
  simp only [] at hbl
  have hml := h.map.lt
  obtain ⟨p, hp⟩ : ∃ p, lnk a b = p := ⟨_, rfl⟩
  have c1 : ∀ W, Calls Try.prog 24 #[.int .i64 a, .int .i64 b] W fun e w' => e = .returned (lAgg p) ∧ Below W.heap.size W w' := fun W => by rw [← hp]; exact pair_any a b W
  have C1 := Lib.hid c1
  have hlk := fun (W : World) (hW : Below w.heap.size w W) => look_sev (p1 := p.1) (p2 := p.2) h ha hb hp hW
  have cst := fun (W : World) (hW : Below w.heap.size w W) => (h.map.same (hW.block bm hml)).drop (sv' := delL (lnk a b) s.sv) h.ok.i64 (lnk_i64 ha hb) (fun y => delL_mem) (delL_rise h.ok.sv).nodup 0
  have hms : mendS s a b = if sevB s a b then (⟨s.nx, s.ls, delL (lnk a b) s.sv⟩, true) else (s, false) := rfl
  have hok2 : OkS ⟨s.nx, s.ls, delL (lnk a b) s.sv⟩ := ⟨h.ok.nx0, h.ok.nx1, h.ok.len, delL_rise h.ok.sv, fun x hx => h.ok.i64 x (delL_mem.1 hx).2, h.ok.nm⟩
  rw [hp] at cst hms hok2
  have CST := Lib.hid cst
  have HOK := Lib.hid hok2
  have HB := Lib.hid h
  obtain ⟨p1, p2⟩ := p
  simp only [] at hlk
  obtain ⟨v, hv⟩ : ∃ v, sevB s a b = v := ⟨_, rfl⟩
  rw [hv] at hms hlk
  rw [hms]
  clear c1 cst h hp hok2 hms hv
  cases v with
  | false =>
    simp only [Bool.false_eq_true, if_false] at hlk ⊢
    go_enter Try.func14, Try.ntmps14
    go_wp2
    refine wp_region_quietC_lit (KeptC w [(⟨Bb, 0, none⟩, .bool true), (⟨Bb, 3, none⟩, .map (some bm))] []) (by kernel_rfl) (by kernel_rfl) ?_ ?_
    · refine KeptC.drewn ?_
      repeat' (first | refine KeptC.cons ?_ ?_ | refine KeptC.consF ?_ ?_ ?_ | refine KeptC.mk0 ?_)
      all_goals (first | with_reducible assumption | (go_simp; done) | (simp; omega) | exact (by repeat (first | with_reducible refine Below.setCell ?_ (by first | (simp; done) | (simp; omega) | omega) _ | with_reducible refine Below.alloc ?_ (by first | (simp; done) | (simp; omega) | omega) _ | with_reducible refine Below.drew ?_ | with_reducible refine below_drewN ?_ _ | with_reducible exact Below.refl _ _)))
    repeat (first
      | go_big_quiet_skip
      | (go_big_quiet_want; (apply quietC_run); (· intro w' hw'; (have hk' := hw'; simp only [KeptC, List.forall_mem_cons] at hk'; go_split_ands); go_simp; first | done | rfl); (simp only [Act.put, List.setIfInBounds_toArray, List.set_cons_zero, List.set_cons_succ]; go_big_quiet_on))
      | (go_big_quiet_want; (apply quietC_call); (· intro w' hw'; go_simp; first | done | exact ⟨rfl, rfl⟩ | rfl); (· intro w' hw'; first | ((with_reducible refine (there_b Bb _ (KeptC.at0 hw')).mono ?_); rintro e w2 ⟨rfl, hb⟩; exact ⟨rfl, hw'.below hb⟩) | ((with_reducible refine (C1.out _).mono ?_); rintro e w2 ⟨rfl, hb⟩; exact ⟨rfl, hw'.below hb⟩)); (simp only [Act.put, List.setIfInBounds_toArray, List.set_cons_zero, List.set_cons_succ]; go_big_quiet_on)))
    refine wpQuiet_nil ?_
    intro w9 hk9
    (have hk' := hk9; simp only [KeptC, List.forall_mem_cons] at hk'; go_split_ands); have hkB9 := hk9.1
    go_wp2
    go_ret
    exact ⟨rfl, HB.out.below hkB9, Turn.below hkB9 (Nat.le_refl _)⟩
  | true =>
    simp only [if_true] at hlk ⊢
    go_enter Try.func14, Try.ntmps14
    go_wp2
    refine wp_region_quietC_lit (KeptC w [(⟨Bb, 0, none⟩, .bool true), (⟨Bb, 3, none⟩, .map (some bm))] []) (by kernel_rfl) (by kernel_rfl) ?_ ?_
    · refine KeptC.drewn ?_
      repeat' (first | refine KeptC.cons ?_ ?_ | refine KeptC.consF ?_ ?_ ?_ | refine KeptC.mk0 ?_)
      all_goals (first | with_reducible assumption | (go_simp; done) | (simp; omega) | exact (by repeat (first | with_reducible refine Below.setCell ?_ (by first | (simp; done) | (simp; omega) | omega) _ | with_reducible refine Below.alloc ?_ (by first | (simp; done) | (simp; omega) | omega) _ | with_reducible refine Below.drew ?_ | with_reducible refine below_drewN ?_ _ | with_reducible exact Below.refl _ _)))
    repeat (first
      | go_big_quiet_skip
      | (go_big_quiet_want; (apply quietC_run); (· intro w' hw'; (have hk' := hw'; simp only [KeptC, List.forall_mem_cons] at hk'; go_split_ands); go_simp; first | done | rfl); (simp only [Act.put, List.setIfInBounds_toArray, List.set_cons_zero, List.set_cons_succ]; go_big_quiet_on))
      | (go_big_quiet_want; (apply quietC_call); (· intro w' hw'; go_simp; first | done | exact ⟨rfl, rfl⟩ | rfl); (· intro w' hw'; first | ((with_reducible refine (there_b Bb _ (KeptC.at0 hw')).mono ?_); rintro e w2 ⟨rfl, hb⟩; exact ⟨rfl, hw'.below hb⟩) | ((with_reducible refine (C1.out _).mono ?_); rintro e w2 ⟨rfl, hb⟩; exact ⟨rfl, hw'.below hb⟩)); (simp only [Act.put, List.setIfInBounds_toArray, List.set_cons_zero, List.set_cons_succ]; go_big_quiet_on)))
    refine wpQuiet_nil ?_
    intro w9 hk9
    (have hk' := hk9; simp only [KeptC, List.forall_mem_cons] at hk'; go_split_ands); have hkB9 := hk9.1
    clear hlk
    go_wp2
    refine wp_region_quietC_tail (KeptC w [(⟨Bb, 3, none⟩, .map (some bm))] []) 7 (by kernel_rfl) (by kernel_rfl) ?_ ?_
    · refine KeptC.drewn ?_
      repeat' (first | refine KeptC.cons ?_ ?_ | refine KeptC.consF ?_ ?_ ?_ | refine KeptC.mk0 ?_)
      all_goals (first | with_reducible assumption | (go_simp; done) | (simp; omega) | exact (by repeat (first | with_reducible refine Below.setCell ?_ (by first | (simp; done) | (simp; omega) | omega) _ | with_reducible refine Below.alloc ?_ (by first | (simp; done) | (simp; omega) | omega) _ | with_reducible refine Below.drew ?_ | with_reducible refine below_drewN ?_ _ | with_reducible exact Below.refl _ _ | with_reducible refine Below.trans ?_ (Below.mono hkB9 (by first | (simp; done) | (simp; omega) | omega)))))
    simp only [List.take_succ_cons, List.take_zero, List.drop_succ_cons, List.drop_zero]
    repeat (first
      | go_big_quiet_skip
      | (go_big_quiet_want; (apply quietC_run); (· intro w' hw'; (have hk' := hw'; simp only [KeptC, List.forall_mem_cons] at hk'; go_split_ands); go_simp; first | done | rfl); (simp only [Act.put, List.setIfInBounds_toArray, List.set_cons_zero, List.set_cons_succ]; go_big_quiet_on))
      | (go_big_quiet_want; (apply quietC_call); (· intro w' hw'; go_simp; first | done | exact ⟨rfl, rfl⟩ | rfl); (· intro w' hw'; first | ((with_reducible refine (C1.out _).mono ?_); rintro e w2 ⟨rfl, hb⟩; exact ⟨rfl, hw'.below hb⟩)); (simp only [Act.put, List.setIfInBounds_toArray, List.set_cons_zero, List.set_cons_succ]; go_big_quiet_on)))
    refine wpQuiet_nil ?_
    intro w8 hk8
    (have hk' := hk8; simp only [KeptC, List.forall_mem_cons] at hk'; go_split_ands); have hkB8 := hk8.1
    obtain ⟨w10, hrun, hm10, hg10⟩ := CST.out w8 hkB8
    have hb9 := HB.out.below hkB8
    have hb10 := Lib.hid (hb9.remap hg10 hm10 HOK.out)
    have kT : Turn (foot Bb bm lv) w w10 := (Turn.below hkB8 (Nat.le_refl _)).grown hg10 (fun j e => by have := Option.some.inj e; subst this; exact .inl (by simp [foot]))
    have KT := Lib.hid kT
    clear kT hb9 hm10 hg10 C1 CST
    go_wp2
    go_ret
    exact ⟨rfl, hb10.out, KT.out⟩
end Go.Proofs.Ytdaobbffhfbceaa
