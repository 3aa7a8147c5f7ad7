/- act, done to a bag and to the reference's bag: true, and both go on alike. -/
import Derived.Test.YtdaobbffhfbceaaBgV
import Derived.Test.YtdaobbffhfbceaaRfE
import Derived.Test.YtdaobbffhfbceaaBgO
namespace Go.Proofs.Ytdaobbffhfbceaa
open Go.RowKit Go.Shelf Go.Maps
set_option linter.unusedVariables false
set_option linter.unusedSimpArgs false
set_option maxRecDepth 100000
def actS (s : BS) (a : Ac) : BS :=
  if a.kind = 1 then (putS s a.frm a.dst a.body).1 else if a.kind = 2 then (takeS s a.num).1 else if a.kind = 3 then (doubS s a.num).1 else if a.kind = 5 then (sevS s a.frm a.dst).1 else if a.kind = 6 then (mendS s a.frm a.dst).1 else if a.kind = 7 then (forS s a.dst).1 else s
abbrev aAgg (a : Ac) : Value := .agg #[.int .i64 a.kind, .int .i64 a.num, .int .i64 a.frm, .int .i64 a.dst, .string a.body]
/-- A bag and the reference's, alike and apart. -/
structure Two (w : World) (Bb bm g : Nat) (lv lr kr : Value) (s : BS) : Prop where
  bag : BagAt w Bb bm lv s
  ref : RefAt w g lr kr s
  apart : ∀ x ∈ foot Bb bm lv, x ∉ footR g lr kr
def feet (Bb bm g : Nat) (lv lr kr : Value) : List Nat := foot Bb bm lv ++ footR g lr kr
def TwoPost (w : World) (Bb bm g : Nat) (lv lr kr : Value) (s : BS) (w' : World) : Prop :=
  ∃ lv' lr' kr', Two w' Bb bm g lv' lr' kr' s ∧ (∀ x ∈ feet Bb bm g lv' lr' kr', x ∈ feet Bb bm g lv lr kr ∨ w.heap.size ≤ x) ∧ Turn (feet Bb bm g lv lr kr) w w'
def ActPost (w : World) (Bb bm g : Nat) (lv lr kr : Value) (s : BS) (e : Ending) (w' : World) : Prop := e = .returned (.bool true) ∧ TwoPost w Bb bm g lv lr kr s w'
theorem feet_l {Bb bm g : Nat} {lv lr kr : Value} {x : Nat} (h : x ∈ foot Bb bm lv) : x ∈ feet Bb bm g lv lr kr := List.mem_append.2 (.inl h)
theorem feet_r {Bb bm g : Nat} {lv lr kr : Value} {x : Nat} (h : x ∈ footR g lr kr) : x ∈ feet Bb bm g lv lr kr := List.mem_append.2 (.inr h)
theorem Two.lt {w : World} {Bb bm g : Nat} {lv lr kr : Value} {s : BS} (h : Two w Bb bm g lv lr kr s) : ∀ x ∈ feet Bb bm g lv lr kr, x < w.heap.size := fun x hx => (List.mem_append.1 hx).elim (h.bag.lt x) (h.ref.lt x)
theorem Two.below {w w' : World} {Bb bm g : Nat} {lv lr kr : Value} {s : BS} (h : Two w Bb bm g lv lr kr s) (hb : Below w.heap.size w w') : Two w' Bb bm g lv lr kr s := ⟨h.bag.below hb, h.ref.below hb, h.apart⟩
theorem Two.turn {w w' : World} {Bb bm g : Nat} {lv lr kr : Value} {s : BS} {F : List Nat} (h : Two w Bb bm g lv lr kr s) (ht : Turn F w w') (hF : ∀ b ∈ feet Bb bm g lv lr kr, b ∉ F) : Two w' Bb bm g lv lr kr s :=
  ⟨h.bag.turn ht (fun b hb => hF b (List.mem_append.2 (.inl hb))), h.ref.turn ht (fun b hb => hF b (List.mem_append.2 (.inr hb))), h.apart⟩
theorem TwoPost.same {w w' : World} {Bb bm g : Nat} {lv lr kr : Value} {s : BS} (h : Two w Bb bm g lv lr kr s) (hb : Below w.heap.size w w') : TwoPost w Bb bm g lv lr kr s w' :=
  ⟨lv, lr, kr, h.below hb, fun x hx => .inl hx, Turn.below hb (Nat.le_refl _)⟩
/-- The bag's call first, then the reference's. -/
theorem two_br {w w1 w2 w3 w4 w5 : World} {Bb bm g : Nat} {lv lr kr lv' lr' kr' : Value} {s s' : BS} (h : Two w Bb bm g lv lr kr s) (h1 : Below w.heap.size w w1) (hb : BagAt w2 Bb bm lv' s') (hm : Moved w1 lv lv') (ht : Turn (foot Bb bm lv) w1 w2) (h3 : Below w2.heap.size w2 w3) (hr : RefAt w4 g lr' kr' s') (hmr : MovedR w3 lr kr lr' kr') (htr : Turn (footR g lr kr) w3 w4) (h5 : Below w4.heap.size w4 w5) :
    TwoPost w Bb bm g lv lr kr s' w5 := by
  have s1 := h1.size
  have s2 := ht.size
  have s3 := h3.size
  have s4 := htr.size
  have hf := hm.foot (Bb := Bb) (bm := bm)
  have hfr := hmr.foot (g := g)
  have hl := hb.lt
  have hlt := h.lt
  have hb3 := hb.below h3
  have hb4 : BagAt w4 Bb bm lv' s' := hb3.turn htr (fun b hbm hbr => by
    rcases hf b hbm with h1' | h1'
    · exact h.apart b h1' hbr
    · have := hlt b (List.mem_append.2 (.inr hbr)); omega)
  refine ⟨lv', lr', kr', ⟨hb4.below h5, hr.below h5, fun x hx hxr => ?_⟩, fun x hx => ?_, ?_⟩
  · have e1 := hl x hx
    rcases hfr x hxr with h2 | h2
    · rcases hf x hx with h1' | h1'
      · exact h.apart x h1' h2
      · have := hlt x (List.mem_append.2 (.inr h2)); omega
    · omega
  · rcases List.mem_append.1 hx with hx | hx
    · rcases hf x hx with h1' | h1'
      · exact .inl (List.mem_append.2 (.inl h1'))
      · exact .inr (by omega)
    · rcases hfr x hx with h1' | h1'
      · exact .inl (List.mem_append.2 (.inr h1'))
      · exact .inr (by omega)
  · have t1 : Turn (feet Bb bm g lv lr kr) w w1 := Turn.below h1 (Nat.le_refl _)
    have t2 := t1.trans ht (fun b hb => .inl (List.mem_append.2 (.inl hb)))
    have t3 := t2.trans (Turn.below (F := []) h3 (Nat.le_refl _)) (by simp)
    have t4 := t3.trans htr (fun b hb => .inl (List.mem_append.2 (.inr hb)))
    exact t4.trans (Turn.below (F := []) h5 (Nat.le_refl _)) (by simp)
/-- The reference's call first, then the bag's. -/
theorem two_rb {w w1 w2 w3 w4 w5 : World} {Bb bm g : Nat} {lv lr kr lv' lr' kr' : Value} {s s' : BS} (h : Two w Bb bm g lv lr kr s) (h1 : Below w.heap.size w w1) (hr : RefAt w2 g lr' kr' s') (hmr : MovedR w1 lr kr lr' kr') (htr : Turn (footR g lr kr) w1 w2) (h3 : Below w2.heap.size w2 w3) (hb : BagAt w4 Bb bm lv' s') (hm : Moved w3 lv lv') (ht : Turn (foot Bb bm lv) w3 w4) (h5 : Below w4.heap.size w4 w5) :
    TwoPost w Bb bm g lv lr kr s' w5 := by
  have s1 := h1.size
  have s2 := htr.size
  have s3 := h3.size
  have s4 := ht.size
  have hf := hm.foot (Bb := Bb) (bm := bm)
  have hfr := hmr.foot (g := g)
  have hl := hr.lt
  have hlt := h.lt
  have hr3 := hr.below h3
  have hr4 : RefAt w4 g lr' kr' s' := hr3.turn ht (fun b hbm hbr => by
    rcases hfr b hbm with h1' | h1'
    · exact h.apart b hbr h1'
    · have := hlt b (List.mem_append.2 (.inl hbr)); omega)
  refine ⟨lv', lr', kr', ⟨hb.below h5, hr4.below h5, fun x hx hxr => ?_⟩, fun x hx => ?_, ?_⟩
  · have e1 := hl x hxr
    rcases hf x hx with h2 | h2
    · rcases hfr x hxr with h1' | h1'
      · exact h.apart x h2 h1'
      · have := hlt x (List.mem_append.2 (.inl h2)); omega
    · omega
  · rcases List.mem_append.1 hx with hx | hx
    · rcases hf x hx with h1' | h1'
      · exact .inl (List.mem_append.2 (.inl h1'))
      · exact .inr (by omega)
    · rcases hfr x hx with h1' | h1'
      · exact .inl (List.mem_append.2 (.inr h1'))
      · exact .inr (by omega)
  · have t1 : Turn (feet Bb bm g lv lr kr) w w1 := Turn.below h1 (Nat.le_refl _)
    have t2 := t1.trans htr (fun b hb => .inl (List.mem_append.2 (.inr hb)))
    have t3 := t2.trans (Turn.below (F := []) h3 (Nat.le_refl _)) (by simp)
    have t4 := t3.trans ht (fun b hb => .inl (List.mem_append.2 (.inl hb)))
    exact t4.trans (Turn.below (F := []) h5 (Nat.le_refl _)) (by simp)
theorem Two.ref1 {w w1 w2 w3 : World} {Bb bm g : Nat} {lv lr kr : Value} {s : BS} (h : Two w Bb bm g lv lr kr s) (h1 : Below w.heap.size w w1) (ht : Turn (foot Bb bm lv) w1 w2) (h3 : Below w2.heap.size w2 w3) : RefAt w3 g lr kr s :=
  ((h.ref.below h1).turn ht (fun b hb hf => h.apart b hf hb)).below h3
theorem Two.bag1 {w w1 w2 w3 : World} {Bb bm g : Nat} {lv lr kr : Value} {s : BS} (h : Two w Bb bm g lv lr kr s) (h1 : Below w.heap.size w w1) (ht : Turn (footR g lr kr) w1 w2) (h3 : Below w2.heap.size w2 w3) : BagAt w3 Bb bm lv s :=
  ((h.bag.below h1).turn ht (fun b hb hf => h.apart b hb hf)).below h3
set_option maxHeartbeats 4000000 in
theorem act_put (Bb bm g : Nat) (lv lr kr : Value) (s : BS) (a : Ac) (w : World) (h : Two w Bb bm g lv lr kr s) (hm : (s.sv.length + 1 + (s.sv.length + 1) / 4 + 192) * 16 ≤ 281474976710656) (ha : OkA a) (hk : a.kind = 1) :
    Calls Try.prog 22 #[.pointer (some ⟨Bb, 0, none⟩), .pointer (some ⟨g, 0, none⟩), aAgg a] w (ActPost w Bb bm g lv lr kr (putS s a.frm a.dst a.body).1) := by
  obtain ⟨kd, nm, fr, ds, bd⟩ := a
  obtain ⟨_, hn64, hf64, hd64⟩ := ha
  simp only [] at hk hn64 hf64 hd64
  subst hk
  (try simp only [])
  have hml := (wid_ok hm (Nat.le_succ _)).1
  have cb := fun (W : World) (H : BagAt W Bb bm lv s) => put_any Bb bm lv s fr ds bd W H hf64 hd64
  have cr := fun (W : World) (H : RefAt W g lr kr s) => rput_any g lr kr s fr ds bd W H hml hf64 hd64
  obtain ⟨s', n0, e0, hp⟩ : ∃ s' n0 e0, putS s fr ds bd = (s', n0, e0) := ⟨_, _, _, rfl⟩
  rw [hp] at cb cr ⊢
  simp only [] at cb cr ⊢
  have CB := Lib.hid cb
  have CR := Lib.hid cr
  clear cb cr hp
  have HT := Lib.hid h
  clear h hm
  go_enter Try.func22, Try.ntmps22
  go_wp2_with (fail)
  have k1 : Below w.heap.size w (w.alloc (Obj.cells #[.int .i64 1, .int .i64 nm, .int .i64 fr, .int .i64 ds, .string bd] 26)) := (by repeat (first | with_reducible refine Below.setCell ?_ (by first | (simp; done) | (simp; omega) | omega) _ | with_reducible refine Below.alloc ?_ (by first | (simp; done) | (simp; omega) | omega) _ | with_reducible refine Below.drew ?_ | with_reducible refine below_drewN ?_ _ | with_reducible exact Below.refl _ _))
  refine (CB.out _ (HT.out.bag.below k1)).mono ?_; rintro e w1 ⟨rfl, lv1, hb1, hm1, ht1⟩
  have HB1 := Lib.hid hb1; have HM1 := Lib.hid hm1; have HT1 := Lib.hid ht1; have K1 := Lib.hid k1
  have hw := HT.out.lt
  have hb0 := ht1.block w.heap.size (by simp) (fun hx => by have := hw w.heap.size (List.mem_append.2 (.inl hx)); omega)
  have c2 : w1.cell? ⟨w.heap.size, 2, none⟩ = some (.int .i64 fr) := (World.cell?_of_block (a := ⟨w.heap.size, 2, none⟩) hb0).trans (by go_simp)
  have c3 : w1.cell? ⟨w.heap.size, 3, none⟩ = some (.int .i64 ds) := (World.cell?_of_block (a := ⟨w.heap.size, 3, none⟩) hb0).trans (by go_simp)
  have c4 : w1.cell? ⟨w.heap.size, 4, none⟩ = some (.string bd) := (World.cell?_of_block (a := ⟨w.heap.size, 4, none⟩) hb0).trans (by go_simp)
  clear hb1 hm1 ht1 hb0 hw k1
  go_wp2_with (fail)
  refine (CR.out _ (HT.out.ref1 K1.out HT1.out (Below.refl _ _))).mono ?_; rintro e w2 ⟨rfl, lr2, kr2, hr2, hmr2, htr2⟩
  have HR2 := Lib.hid hr2; have HMR := Lib.hid hmr2; have HTR := Lib.hid htr2
  clear hr2 hmr2 htr2 c2 c3 c4
  go_wp2
  go_ret
  exact ⟨rfl, two_br HT.out K1.out HB1.out HM1.out HT1.out (Below.refl _ _) HR2.out HMR.out HTR.out (by repeat (first | with_reducible refine Below.setCell ?_ (by first | (simp; done) | (simp; omega) | omega) _ | with_reducible refine Below.alloc ?_ (by first | (simp; done) | (simp; omega) | omega) _ | with_reducible refine Below.drew ?_ | with_reducible refine below_drewN ?_ _ | with_reducible exact Below.refl _ _))⟩
set_option maxHeartbeats 4000000 in
theorem act_double (Bb bm g : Nat) (lv lr kr : Value) (s : BS) (a : Ac) (w : World) (h : Two w Bb bm g lv lr kr s) (hm : (s.sv.length + 1 + (s.sv.length + 1) / 4 + 192) * 16 ≤ 281474976710656) (ha : OkA a) (hk : a.kind = 3) :
    Calls Try.prog 22 #[.pointer (some ⟨Bb, 0, none⟩), .pointer (some ⟨g, 0, none⟩), aAgg a] w (ActPost w Bb bm g lv lr kr (doubS s a.num).1) := by
  obtain ⟨kd, nm, fr, ds, bd⟩ := a
  obtain ⟨_, hn64, hf64, hd64⟩ := ha
  simp only [] at hk hn64 hf64 hd64
  subst hk
  (try simp only [])
  have hml := (wid_ok hm (Nat.le_succ _)).1
  have cb := fun (W : World) (H : BagAt W Bb bm lv s) => double_any Bb bm lv s nm W H
  have cr := fun (W : World) (H : RefAt W g lr kr s) => rdouble_any g lr kr s nm W H hml
  obtain ⟨s', n0, e0, hp⟩ : ∃ s' n0 e0, doubS s nm = (s', n0, e0) := ⟨_, _, _, rfl⟩
  rw [hp] at cb cr ⊢
  simp only [] at cb cr ⊢
  have CB := Lib.hid cb
  have CR := Lib.hid cr
  clear cb cr hp
  have HT := Lib.hid h
  clear h hm
  go_enter Try.func22, Try.ntmps22
  go_wp2_with (fail)
  have k1 : Below w.heap.size w (w.alloc (Obj.cells #[.int .i64 3, .int .i64 nm, .int .i64 fr, .int .i64 ds, .string bd] 26)) := (by repeat (first | with_reducible refine Below.setCell ?_ (by first | (simp; done) | (simp; omega) | omega) _ | with_reducible refine Below.alloc ?_ (by first | (simp; done) | (simp; omega) | omega) _ | with_reducible refine Below.drew ?_ | with_reducible refine below_drewN ?_ _ | with_reducible exact Below.refl _ _))
  refine (CB.out _ (HT.out.bag.below k1)).mono ?_; rintro e w1 ⟨rfl, lv1, hb1, hm1, ht1⟩
  have HB1 := Lib.hid hb1; have HM1 := Lib.hid hm1; have HT1 := Lib.hid ht1; have K1 := Lib.hid k1
  have hw := HT.out.lt
  have hb0 := ht1.block w.heap.size (by simp) (fun hx => by have := hw w.heap.size (List.mem_append.2 (.inl hx)); omega)
  have c1 : w1.cell? ⟨w.heap.size, 1, none⟩ = some (.int .i64 nm) := (World.cell?_of_block (a := ⟨w.heap.size, 1, none⟩) hb0).trans (by go_simp)
  clear hb1 hm1 ht1 hb0 hw k1
  go_wp2_with (fail)
  refine (CR.out _ (HT.out.ref1 K1.out HT1.out (Below.refl _ _))).mono ?_; rintro e w2 ⟨rfl, lr2, kr2, hr2, hmr2, htr2⟩
  have HR2 := Lib.hid hr2; have HMR := Lib.hid hmr2; have HTR := Lib.hid htr2
  clear hr2 hmr2 htr2 c1
  go_wp2
  go_ret
  exact ⟨rfl, two_br HT.out K1.out HB1.out HM1.out HT1.out (Below.refl _ _) HR2.out HMR.out HTR.out (by repeat (first | with_reducible refine Below.setCell ?_ (by first | (simp; done) | (simp; omega) | omega) _ | with_reducible refine Below.alloc ?_ (by first | (simp; done) | (simp; omega) | omega) _ | with_reducible refine Below.drew ?_ | with_reducible refine below_drewN ?_ _ | with_reducible exact Below.refl _ _))⟩
set_option maxHeartbeats 4000000 in
theorem act_take (Bb bm g : Nat) (lv lr kr : Value) (s : BS) (a : Ac) (w : World) (h : Two w Bb bm g lv lr kr s) (hm : (s.sv.length + 1 + (s.sv.length + 1) / 4 + 192) * 16 ≤ 281474976710656) (ha : OkA a) (hk : a.kind = 2) :
    Calls Try.prog 22 #[.pointer (some ⟨Bb, 0, none⟩), .pointer (some ⟨g, 0, none⟩), aAgg a] w (ActPost w Bb bm g lv lr kr (takeS s a.num).1) := by
  obtain ⟨kd, nm, fr, ds, bd⟩ := a
  obtain ⟨_, hn64, hf64, hd64⟩ := ha
  simp only [] at hk hn64 hf64 hd64
  subst hk
  (try simp only [])
  have hml := (wid_ok hm (Nat.le_succ _)).1
  have cb := fun (W : World) (H : BagAt W Bb bm lv s) => take_any Bb bm lv s nm W H
  have cr := fun (W : World) (H : RefAt W g lr kr s) => rtake_any g lr kr s nm W H
  obtain ⟨s', d0, e0, hp⟩ : ∃ s' d0 e0, takeS s nm = (s', d0, e0) := ⟨_, _, _, rfl⟩
  rw [hp] at cb cr ⊢
  simp only [] at cb cr ⊢
  have he : ∀ W, (binOp .eql 33 (dAgg d0) (dAgg d0)).run Try.prog W = .ok (.bool true) W := fun W => by rw [eql_dg d0 d0 W, dEq_self]
  obtain ⟨dn, df, dt, db⟩ := d0
  have CB := Lib.hid cb
  have CR := Lib.hid cr
  clear cb cr hp
  have HT := Lib.hid h
  clear h hm
  go_enter Try.func22, Try.ntmps22
  go_wp2_with (fail)
  have k1 : Below w.heap.size w (w.alloc (Obj.cells #[.int .i64 2, .int .i64 nm, .int .i64 fr, .int .i64 ds, .string bd] 26)) := (by repeat (first | with_reducible refine Below.setCell ?_ (by first | (simp; done) | (simp; omega) | omega) _ | with_reducible refine Below.alloc ?_ (by first | (simp; done) | (simp; omega) | omega) _ | with_reducible refine Below.drew ?_ | with_reducible refine below_drewN ?_ _ | with_reducible exact Below.refl _ _))
  refine (CB.out _ (HT.out.bag.below k1)).mono ?_; rintro e w1 ⟨rfl, lv1, hb1, hm1, ht1⟩
  have HB1 := Lib.hid hb1; have HM1 := Lib.hid hm1; have HT1 := Lib.hid ht1; have K1 := Lib.hid k1
  have hw := HT.out.lt
  have hb0 := ht1.block w.heap.size (by simp) (fun hx => by have := hw w.heap.size (List.mem_append.2 (.inl hx)); omega)
  have c1 : w1.cell? ⟨w.heap.size, 1, none⟩ = some (.int .i64 nm) := (World.cell?_of_block (a := ⟨w.heap.size, 1, none⟩) hb0).trans (by go_simp)
  have hz1 : w.heap.size < w1.heap.size := cell_lt c1
  have hs1 := ht1.size
  clear hb1 hm1 ht1 hb0 hw k1
  go_wp2_with (fail)
  refine (CR.out _ (HT.out.ref1 K1.out HT1.out (by repeat (first | with_reducible refine Below.setCell ?_ (by first | (simp; done) | (simp; omega) | omega) _ | with_reducible refine Below.alloc ?_ (by first | (simp; done) | (simp; omega) | omega) _ | with_reducible refine Below.drew ?_ | with_reducible refine below_drewN ?_ _ | with_reducible exact Below.refl _ _)))).mono ?_; rintro e w2 ⟨rfl, lr2, kr2, hr2, hmr2, htr2⟩
  have hw := HT.out.lt
  have hb0 := htr2.block w1.heap.size (by simp) (fun hx => by have := hw w1.heap.size (List.mem_append.2 (.inr hx)); omega)
  have d0 : w2.cell? ⟨w1.heap.size, 0, none⟩ = some (.int .i64 dn) := (World.cell?_of_block (a := ⟨w1.heap.size, 0, none⟩) hb0).trans (by go_simp)
  have d1 : w2.cell? ⟨w1.heap.size, 1, none⟩ = some (.int .i64 df) := (World.cell?_of_block (a := ⟨w1.heap.size, 1, none⟩) hb0).trans (by go_simp)
  have d2 : w2.cell? ⟨w1.heap.size, 2, none⟩ = some (.int .i64 dt) := (World.cell?_of_block (a := ⟨w1.heap.size, 2, none⟩) hb0).trans (by go_simp)
  have d3 : w2.cell? ⟨w1.heap.size, 3, none⟩ = some (.string db) := (World.cell?_of_block (a := ⟨w1.heap.size, 3, none⟩) hb0).trans (by go_simp)
  have hz2 : w1.heap.size < w2.heap.size := cell_lt d0
  have HR2 := Lib.hid hr2; have HMR := Lib.hid hmr2; have HTR := Lib.hid htr2
  clear hr2 hmr2 htr2 c1 hb0 hw
  go_wp2
  go_ret
  exact ⟨rfl, two_br HT.out K1.out HB1.out HM1.out HT1.out (w3 := (w1.alloc (Obj.cells #[.int .i64 dn, .int .i64 df, .int .i64 dt, .string db] 33))) (by repeat (first | with_reducible refine Below.setCell ?_ (by first | (simp; done) | (simp; omega) | omega) _ | with_reducible refine Below.alloc ?_ (by first | (simp; done) | (simp; omega) | omega) _ | with_reducible refine Below.drew ?_ | with_reducible refine below_drewN ?_ _ | with_reducible exact Below.refl _ _)) HR2.out HMR.out HTR.out (by repeat (first | with_reducible refine Below.setCell ?_ (by first | (simp; done) | (simp; omega) | omega) _ | with_reducible refine Below.alloc ?_ (by first | (simp; done) | (simp; omega) | omega) _ | with_reducible refine Below.drew ?_ | with_reducible refine below_drewN ?_ _ | with_reducible exact Below.refl _ _))⟩
theorem sever_all (Bb bm : Nat) (lv : Value) (s : BS) (a b : Int) (w : World) (h : BagAt w Bb bm lv s) (ha : i64B a) (hb : i64B b) (hsl : s.sv.length < maxLen) :
    Calls Try.prog 12 #[.pointer (some ⟨Bb, 0, none⟩), .int .i64 a, .int .i64 b] w fun e w' => e = .returned (.int .i64 (sevS s a b).2) ∧ ∃ lv', BagAt w' Bb bm lv' (sevS s a b).1 ∧ Moved w lv lv' ∧ Turn (foot Bb bm lv) w w' := by
  by_cases hab : a = b
  · subst hab
    have e0 : sevS s a a = (s, 0) := by unfold sevS; rw [if_pos rfl]
    rw [e0]
    exact (sever_same Bb a w h.c0).mono fun _ _ ⟨he, hbl⟩ => ⟨he, lv, h.below hbl, Moved.refl _ _, Turn.below hbl (Nat.le_refl _)⟩
  · exact sever_any Bb bm lv s a b w h hab ha hb hsl
theorem rsever_all (g : Nat) (lv sv : Value) (s : BS) (a b : Int) (w : World) (h : RefAt w g lv sv s) (hm : (s.sv.length + 1 + (s.sv.length + 1) / 4 + 192) * 16 ≤ 281474976710656) (ha : i64B a) (hb : i64B b) :
    Calls Try.prog 40 #[.pointer (some ⟨g, 0, none⟩), .int .i64 a, .int .i64 b] w fun e w' => e = .returned (.int .i64 (sevS s a b).2) ∧ ∃ lv' sv', RefAt w' g lv' sv' (sevS s a b).1 ∧ MovedR w lv sv lv' sv' ∧ Turn (footR g lv sv) w w' := by
  by_cases hab : a = b
  · subst hab
    have e0 : sevS s a a = (s, 0) := by unfold sevS; rw [if_pos rfl]
    rw [e0]
    exact (rsever_same g lv sv s a w h).mono fun _ _ ⟨he, hbl⟩ => ⟨he, lv, sv, h.below hbl, MovedR.refl _ _ _, Turn.below hbl (Nat.le_refl _)⟩
  · cases hsv : sevB s a b with
    | true => exact rsever_found g lv sv s a b w h hm hab hsv
    | false => exact rsever_new g lv sv s a b w h hm ha hb hab hsv
theorem mend_all (Bb bm : Nat) (lv : Value) (s : BS) (a b : Int) (w : World) (h : BagAt w Bb bm lv s) (ha : i64B a) (hb : i64B b) :
    Calls Try.prog 14 #[.pointer (some ⟨Bb, 0, none⟩), .int .i64 a, .int .i64 b] w fun e w' => e = .returned (.bool (mendS s a b).2) ∧ ∃ lv', BagAt w' Bb bm lv' (mendS s a b).1 ∧ Moved w lv lv' ∧ Turn (foot Bb bm lv) w w' :=
  (mend_any Bb bm lv s a b w h ha hb).mono fun _ _ ⟨he, h1, h2⟩ => ⟨he, lv, h1, Moved.refl _ _, h2⟩
set_option maxHeartbeats 4000000 in
theorem act_sever (Bb bm g : Nat) (lv lr kr : Value) (s : BS) (a : Ac) (w : World) (h : Two w Bb bm g lv lr kr s) (hm : (s.sv.length + 1 + (s.sv.length + 1) / 4 + 192) * 16 ≤ 281474976710656) (ha : OkA a) (hk : a.kind = 5) :
    Calls Try.prog 22 #[.pointer (some ⟨Bb, 0, none⟩), .pointer (some ⟨g, 0, none⟩), aAgg a] w (ActPost w Bb bm g lv lr kr (sevS s a.frm a.dst).1) := by
  obtain ⟨kd, nm, fr, ds, bd⟩ := a
  obtain ⟨_, hn64, hf64, hd64⟩ := ha
  simp only [] at hk hn64 hf64 hd64
  subst hk
  (try simp only [])
  have hml := (wid_ok hm (Nat.le_succ _)).1
  have cb := fun (W : World) (H : BagAt W Bb bm lv s) => sever_all Bb bm lv s fr ds W H hf64 hd64 (by have := wid_lt hm; simp only [maxLen]; omega)
  have cr := fun (W : World) (H : RefAt W g lr kr s) => rsever_all g lr kr s fr ds W H hm hf64 hd64
  obtain ⟨s', n0, hp⟩ : ∃ s' n0, sevS s fr ds = (s', n0) := ⟨_, _, rfl⟩
  rw [hp] at cb cr ⊢
  simp only [] at cb cr ⊢
  have CB := Lib.hid cb
  have CR := Lib.hid cr
  have hsl : s.sv.length < 17592186044416 := wid_lt hm
  clear cb cr hp
  have HT := Lib.hid h
  clear h hm
  go_enter Try.func22, Try.ntmps22
  go_wp2_with (fail)
  obtain ⟨W1, hW1⟩ : ∃ W1, W1 = w.alloc (Obj.cells #[.int .i64 5, .int .i64 nm, .int .i64 fr, .int .i64 ds, .string bd] 26) := ⟨_, rfl⟩
  have k1 : Below w.heap.size w W1 := by rw [hW1]; exact (by repeat (first | with_reducible refine Below.setCell ?_ (by first | (simp; done) | (simp; omega) | omega) _ | with_reducible refine Below.alloc ?_ (by first | (simp; done) | (simp; omega) | omega) _ | with_reducible refine Below.drew ?_ | with_reducible refine below_drewN ?_ _ | with_reducible exact Below.refl _ _))
  have hz1 : w.heap.size < W1.heap.size := by rw [hW1]; simp
  have HI : Hid (W1.cell? ⟨w.heap.size, 2, none⟩ = some (.int .i64 fr) ∧ W1.cell? ⟨w.heap.size, 3, none⟩ = some (.int .i64 ds)) := Lib.hid (by rw [hW1]; exact ⟨(by go_simp), (by go_simp)⟩)
  rw [← hW1]
  have K1D : Hid (Below w.heap.size w W1.drew) := Lib.hid (k1.drew)
  have K1 := Lib.hid k1
  clear hW1 k1
  have HBX : Hid (∀ x ∈ feet Bb bm g lv lr kr, x ≠ w.heap.size) := Lib.hid (fun x hx e => by have := HT.out.lt x hx; omega)
  have kS : ∀ (F : List Nat) (w1 w2 : World), (w1.cell? ⟨w.heap.size, 2, none⟩ = some (.int .i64 fr) ∧ w1.cell? ⟨w.heap.size, 3, none⟩ = some (.int .i64 ds)) → Turn F w1 w2 → (∀ x ∈ F, x ∈ feet Bb bm g lv lr kr) → (w2.cell? ⟨w.heap.size, 2, none⟩ = some (.int .i64 fr) ∧ w2.cell? ⟨w.heap.size, 3, none⟩ = some (.int .i64 ds)) := by
    rintro F w1 w2 ⟨k0, k1⟩ ht hF
    exact ⟨ht.cell (p := ⟨w.heap.size, 2, none⟩) (fun hx => HBX.out _ (hF _ hx) rfl) k0, ht.cell (p := ⟨w.heap.size, 3, none⟩) (fun hx => HBX.out _ (hF _ hx) rfl) k1⟩
  have KD : Hid (∀ (w1 : World), (w1.cell? ⟨w.heap.size, 2, none⟩ = some (.int .i64 fr) ∧ w1.cell? ⟨w.heap.size, 3, none⟩ = some (.int .i64 ds)) → (w1.drew.cell? ⟨w.heap.size, 2, none⟩ = some (.int .i64 fr) ∧ w1.drew.cell? ⟨w.heap.size, 3, none⟩ = some (.int .i64 ds))) := Lib.hid (fun w1 h => h)
  have KS := Lib.hid kS
  have kB : ∀ (w1 w2 : World), (w1.cell? ⟨w.heap.size, 2, none⟩ = some (.int .i64 fr) ∧ w1.cell? ⟨w.heap.size, 3, none⟩ = some (.int .i64 ds)) → Below w1.heap.size w1 w2 → (w2.cell? ⟨w.heap.size, 2, none⟩ = some (.int .i64 fr) ∧ w2.cell? ⟨w.heap.size, 3, none⟩ = some (.int .i64 ds)) := by
    rintro w1 w2 ⟨k0, k1⟩ hb
    exact ⟨(hb.cell (p := ⟨w.heap.size, 2, none⟩) (cell_lt k0)).trans k0, (hb.cell (p := ⟨w.heap.size, 3, none⟩) (cell_lt k1)).trans k1⟩
  have KB := Lib.hid kB
  clear kS kB
  go_region_held3 (fun w' => w'.cell? ⟨w.heap.size, 2, none⟩ = some (.int .i64 fr) ∧ w'.cell? ⟨w.heap.size, 3, none⟩ = some (.int .i64 ds)) (repeat (first | with_reducible assumption | with_reducible exact HI.out | with_reducible refine KD.out _ ?_ | with_reducible refine KB.out _ _ ?_ (by assumption) | with_reducible refine KS.out _ _ _ ?_ (by assumption) (by intro x hx; first | exact feet_l hx | exact feet_r hx))) (first | ((with_reducible refine (CB.out _ (HT.out.bag.below K1D.out)).mono ?_); rintro e w2 ⟨rfl, lv2, hb2, hm2, ht2⟩; have HB2 := Lib.hid hb2; have HM2 := Lib.hid hm2; clear hb2 hm2) | ((with_reducible refine (CB.out _ (HT.out.bag1 K1D.out (by assumption) (Below.refl _ _))).mono ?_); rintro e w3 ⟨rfl, lv3, hb3, hm3, ht3⟩; have HB3 := Lib.hid hb3; have HM3 := Lib.hid hm3; clear hb3 hm3) | ((with_reducible refine (CR.out _ (HT.out.ref.below K1D.out)).mono ?_); rintro e w2 ⟨rfl, lr2, kr2, hr2, hmr2, htr2⟩; have HR2 := Lib.hid hr2; have HMR2 := Lib.hid hmr2; clear hr2 hmr2) | ((with_reducible refine (CR.out _ (HT.out.ref1 K1D.out (by assumption) (Below.refl _ _))).mono ?_); rintro e w3 ⟨rfl, lr3, kr3, hr3, hmr3, htr3⟩; have HR3 := Lib.hid hr3; have HMR3 := Lib.hid hmr3; clear hr3 hmr3))
  all_goals (go_wp2; go_ret)
  all_goals (first | exact ⟨rfl, two_br HT.out K1D.out HB2.out HM2.out ht2 (Below.refl _ _) HR3.out HMR3.out htr3 (by repeat (first | with_reducible refine Below.setCell ?_ (by first | (simp; done) | (simp; omega) | omega) _ | with_reducible refine Below.alloc ?_ (by first | (simp; done) | (simp; omega) | omega) _ | with_reducible refine Below.drew ?_ | with_reducible refine below_drewN ?_ _ | with_reducible exact Below.refl _ _))⟩ | exact ⟨rfl, two_rb HT.out K1D.out HR2.out HMR2.out htr2 (Below.refl _ _) HB3.out HM3.out ht3 (by repeat (first | with_reducible refine Below.setCell ?_ (by first | (simp; done) | (simp; omega) | omega) _ | with_reducible refine Below.alloc ?_ (by first | (simp; done) | (simp; omega) | omega) _ | with_reducible refine Below.drew ?_ | with_reducible refine below_drewN ?_ _ | with_reducible exact Below.refl _ _))⟩)
set_option maxHeartbeats 4000000 in
theorem act_mend (Bb bm g : Nat) (lv lr kr : Value) (s : BS) (a : Ac) (w : World) (h : Two w Bb bm g lv lr kr s) (hm : (s.sv.length + 1 + (s.sv.length + 1) / 4 + 192) * 16 ≤ 281474976710656) (ha : OkA a) (hk : a.kind = 6) :
    Calls Try.prog 22 #[.pointer (some ⟨Bb, 0, none⟩), .pointer (some ⟨g, 0, none⟩), aAgg a] w (ActPost w Bb bm g lv lr kr (mendS s a.frm a.dst).1) := by
  obtain ⟨kd, nm, fr, ds, bd⟩ := a
  obtain ⟨_, hn64, hf64, hd64⟩ := ha
  simp only [] at hk hn64 hf64 hd64
  subst hk
  (try simp only [])
  have hml := (wid_ok hm (Nat.le_succ _)).1
  have cb := fun (W : World) (H : BagAt W Bb bm lv s) => mend_all Bb bm lv s fr ds W H hf64 hd64
  have cr := fun (W : World) (H : RefAt W g lr kr s) => rmend_any g lr kr s fr ds W H hm
  obtain ⟨s', n0, hp⟩ : ∃ s' n0, mendS s fr ds = (s', n0) := ⟨_, _, rfl⟩
  rw [hp] at cb cr ⊢
  simp only [] at cb cr ⊢
  have CB := Lib.hid cb
  have CR := Lib.hid cr
  have hsl : s.sv.length < 17592186044416 := wid_lt hm
  clear cb cr hp
  have HT := Lib.hid h
  clear h hm
  go_enter Try.func22, Try.ntmps22
  go_wp2_with (fail)
  obtain ⟨W1, hW1⟩ : ∃ W1, W1 = w.alloc (Obj.cells #[.int .i64 6, .int .i64 nm, .int .i64 fr, .int .i64 ds, .string bd] 26) := ⟨_, rfl⟩
  have k1 : Below w.heap.size w W1 := by rw [hW1]; exact (by repeat (first | with_reducible refine Below.setCell ?_ (by first | (simp; done) | (simp; omega) | omega) _ | with_reducible refine Below.alloc ?_ (by first | (simp; done) | (simp; omega) | omega) _ | with_reducible refine Below.drew ?_ | with_reducible refine below_drewN ?_ _ | with_reducible exact Below.refl _ _))
  have hz1 : w.heap.size < W1.heap.size := by rw [hW1]; simp
  have HI : Hid (W1.cell? ⟨w.heap.size, 2, none⟩ = some (.int .i64 fr) ∧ W1.cell? ⟨w.heap.size, 3, none⟩ = some (.int .i64 ds)) := Lib.hid (by rw [hW1]; exact ⟨(by go_simp), (by go_simp)⟩)
  rw [← hW1]
  have K1D : Hid (Below w.heap.size w W1.drew) := Lib.hid (k1.drew)
  have K1 := Lib.hid k1
  clear hW1 k1
  have HBX : Hid (∀ x ∈ feet Bb bm g lv lr kr, x ≠ w.heap.size) := Lib.hid (fun x hx e => by have := HT.out.lt x hx; omega)
  have kS : ∀ (F : List Nat) (w1 w2 : World), (w1.cell? ⟨w.heap.size, 2, none⟩ = some (.int .i64 fr) ∧ w1.cell? ⟨w.heap.size, 3, none⟩ = some (.int .i64 ds)) → Turn F w1 w2 → (∀ x ∈ F, x ∈ feet Bb bm g lv lr kr) → (w2.cell? ⟨w.heap.size, 2, none⟩ = some (.int .i64 fr) ∧ w2.cell? ⟨w.heap.size, 3, none⟩ = some (.int .i64 ds)) := by
    rintro F w1 w2 ⟨k0, k1⟩ ht hF
    exact ⟨ht.cell (p := ⟨w.heap.size, 2, none⟩) (fun hx => HBX.out _ (hF _ hx) rfl) k0, ht.cell (p := ⟨w.heap.size, 3, none⟩) (fun hx => HBX.out _ (hF _ hx) rfl) k1⟩
  have KD : Hid (∀ (w1 : World), (w1.cell? ⟨w.heap.size, 2, none⟩ = some (.int .i64 fr) ∧ w1.cell? ⟨w.heap.size, 3, none⟩ = some (.int .i64 ds)) → (w1.drew.cell? ⟨w.heap.size, 2, none⟩ = some (.int .i64 fr) ∧ w1.drew.cell? ⟨w.heap.size, 3, none⟩ = some (.int .i64 ds))) := Lib.hid (fun w1 h => h)
  have KS := Lib.hid kS
  have kB : ∀ (w1 w2 : World), (w1.cell? ⟨w.heap.size, 2, none⟩ = some (.int .i64 fr) ∧ w1.cell? ⟨w.heap.size, 3, none⟩ = some (.int .i64 ds)) → Below w1.heap.size w1 w2 → (w2.cell? ⟨w.heap.size, 2, none⟩ = some (.int .i64 fr) ∧ w2.cell? ⟨w.heap.size, 3, none⟩ = some (.int .i64 ds)) := by
    rintro w1 w2 ⟨k0, k1⟩ hb
    exact ⟨(hb.cell (p := ⟨w.heap.size, 2, none⟩) (cell_lt k0)).trans k0, (hb.cell (p := ⟨w.heap.size, 3, none⟩) (cell_lt k1)).trans k1⟩
  have KB := Lib.hid kB
  clear kS kB
  go_region_held3 (fun w' => w'.cell? ⟨w.heap.size, 2, none⟩ = some (.int .i64 fr) ∧ w'.cell? ⟨w.heap.size, 3, none⟩ = some (.int .i64 ds)) (repeat (first | with_reducible assumption | with_reducible exact HI.out | with_reducible refine KD.out _ ?_ | with_reducible refine KB.out _ _ ?_ (by assumption) | with_reducible refine KS.out _ _ _ ?_ (by assumption) (by intro x hx; first | exact feet_l hx | exact feet_r hx))) (first | ((with_reducible refine (CB.out _ (HT.out.bag.below K1D.out)).mono ?_); rintro e w2 ⟨rfl, lv2, hb2, hm2, ht2⟩; have HB2 := Lib.hid hb2; have HM2 := Lib.hid hm2; clear hb2 hm2) | ((with_reducible refine (CB.out _ (HT.out.bag1 K1D.out (by assumption) (Below.refl _ _))).mono ?_); rintro e w3 ⟨rfl, lv3, hb3, hm3, ht3⟩; have HB3 := Lib.hid hb3; have HM3 := Lib.hid hm3; clear hb3 hm3) | ((with_reducible refine (CR.out _ (HT.out.ref.below K1D.out)).mono ?_); rintro e w2 ⟨rfl, lr2, kr2, hr2, hmr2, htr2⟩; have HR2 := Lib.hid hr2; have HMR2 := Lib.hid hmr2; clear hr2 hmr2) | ((with_reducible refine (CR.out _ (HT.out.ref1 K1D.out (by assumption) (Below.refl _ _))).mono ?_); rintro e w3 ⟨rfl, lr3, kr3, hr3, hmr3, htr3⟩; have HR3 := Lib.hid hr3; have HMR3 := Lib.hid hmr3; clear hr3 hmr3))
  all_goals (go_wp2; go_ret)
  all_goals (first | exact ⟨rfl, two_br HT.out K1D.out HB2.out HM2.out ht2 (Below.refl _ _) HR3.out HMR3.out htr3 (by repeat (first | with_reducible refine Below.setCell ?_ (by first | (simp; done) | (simp; omega) | omega) _ | with_reducible refine Below.alloc ?_ (by first | (simp; done) | (simp; omega) | omega) _ | with_reducible refine Below.drew ?_ | with_reducible refine below_drewN ?_ _ | with_reducible exact Below.refl _ _))⟩ | exact ⟨rfl, two_rb HT.out K1D.out HR2.out HMR2.out htr2 (Below.refl _ _) HB3.out HM3.out ht3 (by repeat (first | with_reducible refine Below.setCell ?_ (by first | (simp; done) | (simp; omega) | omega) _ | with_reducible refine Below.alloc ?_ (by first | (simp; done) | (simp; omega) | omega) _ | with_reducible refine Below.drew ?_ | with_reducible refine below_drewN ?_ _ | with_reducible exact Below.refl _ _))⟩)
set_option maxHeartbeats 4000000 in
theorem act_forget (Bb bm g : Nat) (lv lr kr : Value) (s : BS) (a : Ac) (w : World) (h : Two w Bb bm g lv lr kr s) (hm : (s.sv.length + 1 + (s.sv.length + 1) / 4 + 192) * 16 ≤ 281474976710656) (ha : OkA a) (hk : a.kind = 7) :
    Calls Try.prog 22 #[.pointer (some ⟨Bb, 0, none⟩), .pointer (some ⟨g, 0, none⟩), aAgg a] w (ActPost w Bb bm g lv lr kr (forS s a.dst).1) := by
  obtain ⟨kd, nm, fr, ds, bd⟩ := a
  obtain ⟨_, hn64, hf64, hd64⟩ := ha
  simp only [] at hk hn64 hf64 hd64
  subst hk
  (try simp only [])
  have hml := (wid_ok hm (Nat.le_succ _)).1
  have cb := fun (W : World) (H : BagAt W Bb bm lv s) => forget_any Bb bm lv s ds W H
  have cr := fun (W : World) (H : RefAt W g lr kr s) => rforget_any g lr kr s ds W H
  obtain ⟨s', n0, hp⟩ : ∃ s' n0, forS s ds = (s', n0) := ⟨_, _, rfl⟩
  rw [hp] at cb cr ⊢
  simp only [] at cb cr ⊢
  have CB := Lib.hid cb
  have CR := Lib.hid cr
  have hsl : s.sv.length < 17592186044416 := wid_lt hm
  clear cb cr hp
  have HT := Lib.hid h
  clear h hm
  go_enter Try.func22, Try.ntmps22
  go_wp2_with (fail)
  obtain ⟨W1, hW1⟩ : ∃ W1, W1 = w.alloc (Obj.cells #[.int .i64 7, .int .i64 nm, .int .i64 fr, .int .i64 ds, .string bd] 26) := ⟨_, rfl⟩
  have k1 : Below w.heap.size w W1 := by rw [hW1]; exact (by repeat (first | with_reducible refine Below.setCell ?_ (by first | (simp; done) | (simp; omega) | omega) _ | with_reducible refine Below.alloc ?_ (by first | (simp; done) | (simp; omega) | omega) _ | with_reducible refine Below.drew ?_ | with_reducible refine below_drewN ?_ _ | with_reducible exact Below.refl _ _))
  have hz1 : w.heap.size < W1.heap.size := by rw [hW1]; simp
  have HI : Hid (W1.cell? ⟨w.heap.size, 2, none⟩ = some (.int .i64 fr) ∧ W1.cell? ⟨w.heap.size, 3, none⟩ = some (.int .i64 ds)) := Lib.hid (by rw [hW1]; exact ⟨(by go_simp), (by go_simp)⟩)
  rw [← hW1]
  have K1D : Hid (Below w.heap.size w W1.drew) := Lib.hid (k1.drew)
  have K1 := Lib.hid k1
  clear hW1 k1
  have HBX : Hid (∀ x ∈ feet Bb bm g lv lr kr, x ≠ w.heap.size) := Lib.hid (fun x hx e => by have := HT.out.lt x hx; omega)
  have kS : ∀ (F : List Nat) (w1 w2 : World), (w1.cell? ⟨w.heap.size, 2, none⟩ = some (.int .i64 fr) ∧ w1.cell? ⟨w.heap.size, 3, none⟩ = some (.int .i64 ds)) → Turn F w1 w2 → (∀ x ∈ F, x ∈ feet Bb bm g lv lr kr) → (w2.cell? ⟨w.heap.size, 2, none⟩ = some (.int .i64 fr) ∧ w2.cell? ⟨w.heap.size, 3, none⟩ = some (.int .i64 ds)) := by
    rintro F w1 w2 ⟨k0, k1⟩ ht hF
    exact ⟨ht.cell (p := ⟨w.heap.size, 2, none⟩) (fun hx => HBX.out _ (hF _ hx) rfl) k0, ht.cell (p := ⟨w.heap.size, 3, none⟩) (fun hx => HBX.out _ (hF _ hx) rfl) k1⟩
  have KD : Hid (∀ (w1 : World), (w1.cell? ⟨w.heap.size, 2, none⟩ = some (.int .i64 fr) ∧ w1.cell? ⟨w.heap.size, 3, none⟩ = some (.int .i64 ds)) → (w1.drew.cell? ⟨w.heap.size, 2, none⟩ = some (.int .i64 fr) ∧ w1.drew.cell? ⟨w.heap.size, 3, none⟩ = some (.int .i64 ds))) := Lib.hid (fun w1 h => h)
  have KS := Lib.hid kS
  have kB : ∀ (w1 w2 : World), (w1.cell? ⟨w.heap.size, 2, none⟩ = some (.int .i64 fr) ∧ w1.cell? ⟨w.heap.size, 3, none⟩ = some (.int .i64 ds)) → Below w1.heap.size w1 w2 → (w2.cell? ⟨w.heap.size, 2, none⟩ = some (.int .i64 fr) ∧ w2.cell? ⟨w.heap.size, 3, none⟩ = some (.int .i64 ds)) := by
    rintro w1 w2 ⟨k0, k1⟩ hb
    exact ⟨(hb.cell (p := ⟨w.heap.size, 2, none⟩) (cell_lt k0)).trans k0, (hb.cell (p := ⟨w.heap.size, 3, none⟩) (cell_lt k1)).trans k1⟩
  have KB := Lib.hid kB
  clear kS kB
  go_region_held3 (fun w' => w'.cell? ⟨w.heap.size, 2, none⟩ = some (.int .i64 fr) ∧ w'.cell? ⟨w.heap.size, 3, none⟩ = some (.int .i64 ds)) (repeat (first | with_reducible assumption | with_reducible exact HI.out | with_reducible refine KD.out _ ?_ | with_reducible refine KB.out _ _ ?_ (by assumption) | with_reducible refine KS.out _ _ _ ?_ (by assumption) (by intro x hx; first | exact feet_l hx | exact feet_r hx))) (first | ((with_reducible refine (CB.out _ (HT.out.bag.below K1D.out)).mono ?_); rintro e w2 ⟨rfl, lv2, hb2, hm2, ht2⟩; have HB2 := Lib.hid hb2; have HM2 := Lib.hid hm2; clear hb2 hm2) | ((with_reducible refine (CB.out _ (HT.out.bag1 K1D.out (by assumption) (Below.refl _ _))).mono ?_); rintro e w3 ⟨rfl, lv3, hb3, hm3, ht3⟩; have HB3 := Lib.hid hb3; have HM3 := Lib.hid hm3; clear hb3 hm3) | ((with_reducible refine (CR.out _ (HT.out.ref.below K1D.out)).mono ?_); rintro e w2 ⟨rfl, lr2, kr2, hr2, hmr2, htr2⟩; have HR2 := Lib.hid hr2; have HMR2 := Lib.hid hmr2; clear hr2 hmr2) | ((with_reducible refine (CR.out _ (HT.out.ref1 K1D.out (by assumption) (Below.refl _ _))).mono ?_); rintro e w3 ⟨rfl, lr3, kr3, hr3, hmr3, htr3⟩; have HR3 := Lib.hid hr3; have HMR3 := Lib.hid hmr3; clear hr3 hmr3))
  all_goals (go_wp2; go_ret)
  all_goals (first | exact ⟨rfl, two_br HT.out K1D.out HB2.out HM2.out ht2 (Below.refl _ _) HR3.out HMR3.out htr3 (by repeat (first | with_reducible refine Below.setCell ?_ (by first | (simp; done) | (simp; omega) | omega) _ | with_reducible refine Below.alloc ?_ (by first | (simp; done) | (simp; omega) | omega) _ | with_reducible refine Below.drew ?_ | with_reducible refine below_drewN ?_ _ | with_reducible exact Below.refl _ _))⟩ | exact ⟨rfl, two_rb HT.out K1D.out HR2.out HMR2.out htr2 (Below.refl _ _) HB3.out HM3.out ht3 (by repeat (first | with_reducible refine Below.setCell ?_ (by first | (simp; done) | (simp; omega) | omega) _ | with_reducible refine Below.alloc ?_ (by first | (simp; done) | (simp; omega) | omega) _ | with_reducible refine Below.drew ?_ | with_reducible refine below_drewN ?_ _ | with_reducible exact Below.refl _ _))⟩)
theorem rowI_less {w : World} {base : Nat} {v : Value} {xs : List Int} (h : RowI w base v xs) : RowI w 0 v xs := by
  refine ⟨h.1, ?_⟩
  rcases h.2 with hn | ⟨g, cap, cur, hv, h1, h2⟩
  · exact .inl hn
  · exact .inr ⟨g, cap, cur, hv, Nat.zero_le _, h2⟩
set_option maxHeartbeats 4000000 in
theorem act_between (Bb bm g : Nat) (lv lr kr : Value) (s : BS) (a : Ac) (w : World) (h : Two w Bb bm g lv lr kr s) (hm : (s.sv.length + 1 + (s.sv.length + 1) / 4 + 192) * 16 ≤ 281474976710656) (ha : OkA a) (hk : a.kind = 4) :
    Calls Try.prog 22 #[.pointer (some ⟨Bb, 0, none⟩), .pointer (some ⟨g, 0, none⟩), aAgg a] w (ActPost w Bb bm g lv lr kr s) := by
  obtain ⟨kd, nm, fr, ds, bd⟩ := a
  obtain ⟨_, hn64, hf64, hd64⟩ := ha
  simp only [] at hk hn64 hf64 hd64
  subst hk
  (try simp only [])
  have hml := (wid_ok hm (Nat.le_succ _)).1
  have cb := fun (W : World) (H : BagAt W Bb bm lv s) => between_any Bb bm lv s fr ds W H
  have cr := fun (W : World) (H : RefAt W g lr kr s) => rbetween_any g lr kr s fr ds W H
  have hlen : (btwS s fr ds).length ≤ 65536 := by
    unfold btwS
    rw [List.length_map]
    exact Nat.le_trans (List.length_filter_le ..) h.bag.ok.len
  obtain ⟨xs, hp⟩ : ∃ xs, btwS s fr ds = xs := ⟨_, rfl⟩
  rw [hp] at cb cr hlen
  have cs := fun (A1 A2 : Option Addr) (c1 c2 : Nat) (W : World) (h1 : RowI W 0 (.slice A1 xs.length c1) xs) (h2 : RowI W 0 (.slice A2 xs.length c2) xs) => same_true A1 A2 c1 c2 xs W (Reads.of_own h1) (Reads.of_own h2) hlen
  have CB := Lib.hid cb
  have CR := Lib.hid cr
  have CS := Lib.hid cs
  have HLN := Lib.hid hlen
  clear cb cr hp cs hlen
  have HT := Lib.hid h
  clear h hm
  go_enter Try.func22, Try.ntmps22
  go_wp2_with (fail)
  obtain ⟨W1, hW1⟩ : ∃ W1, W1 = w.alloc (Obj.cells #[.int .i64 4, .int .i64 nm, .int .i64 fr, .int .i64 ds, .string bd] 26) := ⟨_, rfl⟩
  have k1 : Below w.heap.size w W1 := by rw [hW1]; exact (by repeat (first | with_reducible refine Below.setCell ?_ (by first | (simp; done) | (simp; omega) | omega) _ | with_reducible refine Below.alloc ?_ (by first | (simp; done) | (simp; omega) | omega) _ | with_reducible refine Below.drew ?_ | with_reducible refine below_drewN ?_ _ | with_reducible exact Below.refl _ _))
  have hz1 : w.heap.size < W1.heap.size := by rw [hW1]; simp
  have HI : Hid (W1.cell? ⟨w.heap.size, 2, none⟩ = some (.int .i64 fr) ∧ W1.cell? ⟨w.heap.size, 3, none⟩ = some (.int .i64 ds)) := Lib.hid (by rw [hW1]; exact ⟨(by go_simp), (by go_simp)⟩)
  rw [← hW1]
  have K1D : Hid (Below w.heap.size w W1.drew) := Lib.hid (k1.drew)
  have K1 := Lib.hid k1
  clear hW1 k1
  have HBX : Hid (∀ x ∈ feet Bb bm g lv lr kr, x ≠ w.heap.size) := Lib.hid (fun x hx e => by have := HT.out.lt x hx; omega)
  have kS : ∀ (F : List Nat) (w1 w2 : World), (w1.cell? ⟨w.heap.size, 2, none⟩ = some (.int .i64 fr) ∧ w1.cell? ⟨w.heap.size, 3, none⟩ = some (.int .i64 ds)) → Turn F w1 w2 → (∀ x ∈ F, x ∈ feet Bb bm g lv lr kr) → (w2.cell? ⟨w.heap.size, 2, none⟩ = some (.int .i64 fr) ∧ w2.cell? ⟨w.heap.size, 3, none⟩ = some (.int .i64 ds)) := by
    rintro F w1 w2 ⟨k0, k1⟩ ht hF
    exact ⟨ht.cell (p := ⟨w.heap.size, 2, none⟩) (fun hx => HBX.out _ (hF _ hx) rfl) k0, ht.cell (p := ⟨w.heap.size, 3, none⟩) (fun hx => HBX.out _ (hF _ hx) rfl) k1⟩
  have KD : Hid (∀ (w1 : World), (w1.cell? ⟨w.heap.size, 2, none⟩ = some (.int .i64 fr) ∧ w1.cell? ⟨w.heap.size, 3, none⟩ = some (.int .i64 ds)) → (w1.drew.cell? ⟨w.heap.size, 2, none⟩ = some (.int .i64 fr) ∧ w1.drew.cell? ⟨w.heap.size, 3, none⟩ = some (.int .i64 ds))) := Lib.hid (fun w1 h => h)
  have KS := Lib.hid kS
  have kB : ∀ (w1 w2 : World), (w1.cell? ⟨w.heap.size, 2, none⟩ = some (.int .i64 fr) ∧ w1.cell? ⟨w.heap.size, 3, none⟩ = some (.int .i64 ds)) → Below w1.heap.size w1 w2 → (w2.cell? ⟨w.heap.size, 2, none⟩ = some (.int .i64 fr) ∧ w2.cell? ⟨w.heap.size, 3, none⟩ = some (.int .i64 ds)) := by
    rintro w1 w2 ⟨k0, k1⟩ hb
    exact ⟨(hb.cell (p := ⟨w.heap.size, 2, none⟩) (cell_lt k0)).trans k0, (hb.cell (p := ⟨w.heap.size, 3, none⟩) (cell_lt k1)).trans k1⟩
  have KB := Lib.hid kB
  clear kS kB
  go_region_held3 (fun w' => w'.cell? ⟨w.heap.size, 2, none⟩ = some (.int .i64 fr) ∧ w'.cell? ⟨w.heap.size, 3, none⟩ = some (.int .i64 ds)) (repeat (first | with_reducible assumption | with_reducible exact HI.out | with_reducible refine KD.out _ ?_ | with_reducible refine KB.out _ _ ?_ (by assumption) | with_reducible refine KS.out _ _ _ ?_ (by assumption) (by intro x hx; first | exact feet_l hx | exact feet_r hx | exact (List.not_mem_nil hx).elim))) (first | ((with_reducible refine (CB.out _ (HT.out.bag.below K1D.out)).mono ?_); rintro e w2 ⟨v2, rfl, hi2, hb2⟩; obtain ⟨A2, c2, hv2⟩ := row_slice' hi2; subst hv2; have HI2 := Lib.hid (rowI_less hi2); have HBB2 := Lib.hid hb2; clear hi2) | ((with_reducible refine (CB.out _ (HT.out.bag.below (K1D.out.trans (Below.mono (HBB2.out) (by first | exact K1D.out.size | omega))))).mono ?_); rintro e w3 ⟨v3, rfl, hi3, hb3⟩; obtain ⟨A3, c3, hv3⟩ := row_slice' hi3; subst hv3; have HI3 := Lib.hid (rowI_less hi3); have HBB3 := Lib.hid hb3; clear hi3) | ((with_reducible refine (CR.out _ (HT.out.ref.below K1D.out)).mono ?_); rintro e w2 ⟨v2, rfl, hi2, hb2⟩; obtain ⟨A2, c2, hv2⟩ := row_slice' hi2; subst hv2; have HI2 := Lib.hid (rowI_less hi2); have HBB2 := Lib.hid hb2; clear hi2) | ((with_reducible refine (CR.out _ (HT.out.ref.below (K1D.out.trans (Below.mono (HBB2.out) (by first | exact K1D.out.size | omega))))).mono ?_); rintro e w3 ⟨v3, rfl, hi3, hb3⟩; obtain ⟨A3, c3, hv3⟩ := row_slice' hi3; subst hv3; have HI3 := Lib.hid (rowI_less hi3); have HBB3 := Lib.hid hb3; clear hi3) | ((with_reducible refine (CS.out _ _ _ _ _ (by first | exact HI3.out | exact rowI_below HI2.out HBB3.out) (by first | exact HI3.out | exact rowI_below HI2.out HBB3.out)).mono ?_); rintro e w4 ⟨rfl, hb4⟩; have HBB4 := Lib.hid hb4))
  all_goals (go_wp2; go_ret)
  all_goals exact ⟨rfl, TwoPost.same HT.out (K1D.out.trans ((HBB2.out.trans (HBB3.out.mono HBB2.out.size)).trans (HBB4.out.mono (Nat.le_trans HBB2.out.size HBB3.out.size)) |>.mono K1D.out.size))⟩
set_option maxHeartbeats 4000000 in
theorem act_none (Bb bm g : Nat) (lv lr kr : Value) (s : BS) (a : Ac) (w : World) (h : Two w Bb bm g lv lr kr s) (hk : a.kind ≠ 1 ∧ a.kind ≠ 2 ∧ a.kind ≠ 3 ∧ a.kind ≠ 4 ∧ a.kind ≠ 5 ∧ a.kind ≠ 6 ∧ a.kind ≠ 7) :
    Calls Try.prog 22 #[.pointer (some ⟨Bb, 0, none⟩), .pointer (some ⟨g, 0, none⟩), aAgg a] w (ActPost w Bb bm g lv lr kr s) := by
  obtain ⟨kd, nm, fr, ds, bd⟩ := a
  simp only [] at hk
  obtain ⟨h1, h2, h3, h4, h5, h6, h7⟩ := hk
  have b1 : (kd == 1) = false := by simpa using h1
  have b2 : (kd == 2) = false := by simpa using h2
  have b3 : (kd == 3) = false := by simpa using h3
  have b4 : (kd == 4) = false := by simpa using h4
  have b5 : (kd == 5) = false := by simpa using h5
  have b6 : (kd == 6) = false := by simpa using h6
  have b7 : (kd == 7) = false := by simpa using h7
  have HT := Lib.hid h
  clear h h1 h2 h3 h4 h5 h6 h7
  go_enter Try.func22, Try.ntmps22
  go_wp2
  go_ret
  exact ⟨rfl, TwoPost.same HT.out (by repeat (first | with_reducible refine Below.setCell ?_ (by first | (simp; done) | (simp; omega) | omega) _ | with_reducible refine Below.alloc ?_ (by first | (simp; done) | (simp; omega) | omega) _ | with_reducible refine Below.drew ?_ | with_reducible refine below_drewN ?_ _ | with_reducible exact Below.refl _ _))⟩
theorem act_any (Bb bm g : Nat) (lv lr kr : Value) (s : BS) (a : Ac) (w : World) (h : Two w Bb bm g lv lr kr s) (hm : (s.sv.length + 1 + (s.sv.length + 1) / 4 + 192) * 16 ≤ 281474976710656) (ha : OkA a) :
    Calls Try.prog 22 #[.pointer (some ⟨Bb, 0, none⟩), .pointer (some ⟨g, 0, none⟩), aAgg a] w (ActPost w Bb bm g lv lr kr (actS s a)) := by
  unfold actS
  by_cases h1 : a.kind = 1
  · rw [if_pos h1]; exact act_put Bb bm g lv lr kr s a w h hm ha h1
  rw [if_neg h1]
  by_cases h2 : a.kind = 2
  · rw [if_pos h2]; exact act_take Bb bm g lv lr kr s a w h hm ha h2
  rw [if_neg h2]
  by_cases h3 : a.kind = 3
  · rw [if_pos h3]; exact act_double Bb bm g lv lr kr s a w h hm ha h3
  rw [if_neg h3]
  by_cases h5 : a.kind = 5
  · rw [if_pos h5]; exact act_sever Bb bm g lv lr kr s a w h hm ha h5
  rw [if_neg h5]
  by_cases h6 : a.kind = 6
  · rw [if_pos h6]; exact act_mend Bb bm g lv lr kr s a w h hm ha h6
  rw [if_neg h6]
  by_cases h7 : a.kind = 7
  · rw [if_pos h7]; exact act_forget Bb bm g lv lr kr s a w h hm ha h7
  rw [if_neg h7]
  by_cases h4 : a.kind = 4
  · exact act_between Bb bm g lv lr kr s a w h hm ha h4
  · exact act_none Bb bm g lv lr kr s a w h ⟨h1, h2, h3, h4, h5, h6, h7⟩
end Go.Proofs.Ytdaobbffhfbceaa
