/- Chapter 22, parts on the way: Wr -/
import Derived.Deep.MidRow
import Derived.Laws.ResultCell
import Derived.Deep.Cut
import Derived.Test.YtkfodkbgmpbmfaaGreatB01
import Derived.Test.YtkfodkbgmpbmfaaGreatB26
set_option linter.unusedVariables false
set_option linter.unusedSimpArgs false
namespace Go.Proofs.YtkfodkbgmpbmfaaGreat
open Go.RowKit Go.Shelf
set_option linter.unusedVariables false
set_option linter.unusedSimpArgs false
set_option maxRecDepth 100000
theorem RdAt.low {W W' : World} {b : Nat} {A : Option Addr} {n cp : Nat} {bs : List Int} {p : Nat} {code : Int} (h : RdAt W b A n cp bs p code) (hb : Below (b + 1) W W') : RdAt W' b A n cp bs p code := by
 obtain ⟨c0, c1, c2, f1, f2, hr, hle, hmx, hcn, hrng⟩ := h
 exact ⟨(hb.cell (p := ⟨b, 0, none⟩) (Nat.lt_succ_self b)).trans c0, (hb.cell (p := ⟨b, 1, none⟩) (Nat.lt_succ_self b)).trans c1, (hb.cell (p := ⟨b, 2, none⟩) (Nat.lt_succ_self b)).trans c2, (hb.frozen (p := ⟨b, 1, none⟩) (Nat.lt_succ_self b)).trans f1, (hb.frozen (p := ⟨b, 2, none⟩) (Nat.lt_succ_self b)).trans f2, hr.below (hb.mono (Nat.le_succ b)), hle, hmx, hcn, hrng⟩
def LocE {α : Type} (enc : α → List Value) (w : World) (g : Nat) : Prop := g < w.heap.size ∧ ∃ x, ∀ i u, (enc x)[i]? = some u → w.cell? ⟨g, i, none⟩ = some u ∧ w.frozen? ⟨g, i, none⟩ = false
section
variable {α : Type} {enc : α → List Value} {w w' : World} {g b : Nat}
theorem LocE.away (h : LocE enc w g) (hA : Away b w w') (hn : g ≠ b) : LocE enc w' g := by
 obtain ⟨hg, x, hx⟩ := h
 exact ⟨Nat.lt_of_lt_of_le hg hA.low.size, x, fun i u hu => ⟨(hA.cell (p := ⟨g, i, none⟩) hg hn).trans (hx i u hu).1, (hA.frozen (p := ⟨g, i, none⟩) hg hn).trans (hx i u hu).2⟩⟩
theorem LocE.below (h : LocE enc w g) (hb : Below w.heap.size w w') : LocE enc w' g := by
 obtain ⟨hg, x, hx⟩ := h
 exact ⟨Nat.lt_of_lt_of_le hg hb.size, x, fun i u hu => ⟨(hb.cell (p := ⟨g, i, none⟩) hg).trans (hx i u hu).1, (hb.frozen (p := ⟨g, i, none⟩) hg).trans (hx i u hu).2⟩⟩
theorem LocE.other (h : LocE enc w g) {g' : Nat} (o : Nat) (v : Value) (hn : g ≠ g') : LocE enc (w.setCell ⟨g', o, none⟩ v) g := by
 obtain ⟨hg, x, hx⟩ := h
 refine ⟨by rw [World.size_setCell]; exact hg, x, fun i u hu => ⟨(World.cell?_setCell_other w _ _ v (fun e => hn ?_)).trans (hx i u hu).1, by rw [World.frozen?_setCell]; exact (hx i u hu).2⟩⟩
 injection e with e1
 exact e1.symm
theorem LocE.set (h : LocE enc w g) (o : Nat) (v : Value) (hk : ∀ x, ∃ x', enc x' = (enc x).set o v) : LocE enc (w.setCell ⟨g, o, none⟩ v) g := by
 obtain ⟨hg, x, hx⟩ := h
 obtain ⟨x', e⟩ := hk x
 refine ⟨by rw [World.size_setCell]; exact hg, x', fun i u hu => ?_⟩
 rw [e, List.getElem?_set] at hu
 rw [World.frozen?_setCell]
 by_cases hi : o = i
 · subst hi
   rw [if_pos rfl] at hu
   split at hu
   · rename_i hlt
     obtain rfl := Option.some.inj hu
     have h1 := hx o _ (List.getElem?_eq_getElem hlt)
     exact ⟨World.cell?_setCell_same _ _ _ h1.1, h1.2⟩
   · cases hu
 · rw [if_neg hi] at hu
   have h1 := hx i u hu
   refine ⟨(World.cell?_setCell_other w _ _ v (fun e => hi ?_)).trans h1.1, h1.2⟩
   injection e
theorem LocE.fresh (w : World) (C : Array Value) (t : TypeId) (x : α) (hC : C.toList = enc x) : LocE enc (w.alloc (.cells C t)) w.heap.size := by
 refine ⟨by simp, x, fun i u hu => ⟨?_, ?_⟩⟩
 · rw [World.cell?_alloc_mark, ← hu, ← hC]
   simp
 · rw [World.frozen?_alloc_mark]
   try simp
theorem LocE.exp (h : LocE enc w g) (o : Nat) (n : Nat) (hn : ∀ x, (enc x).length = n) (ho : o < n) : ∃ u, w.cell? ⟨g, o, none⟩ = some u ∧ w.frozen? ⟨g, o, none⟩ = false := by
 obtain ⟨hg, x, hx⟩ := h
 have hl : o < (enc x).length := by rw [hn]; exact ho
 exact ⟨_, hx o _ (List.getElem?_eq_getElem hl)⟩
end
structure Et where
 has : Bool
 val : Int
 org : Int
 age : Int
def encEt (x : Et) : List Value := [.bool x.has, .int .i64 x.val, .int .i64 x.org, .int .i64 x.age]
@[reducible] def EtV (x : Et) : Value := .agg #[.bool x.has, .int .i64 x.val, .int .i64 x.org, .int .i64 x.age]
def IsEt (v : Value) : Prop := ∃ x : Et, v = EtV x
structure It where
 nm : ByteArray
 ep : Int
 who : Int
 al : Bool
 kd : Int
 sc : Int
 ver : Int
 wr : Int
 flow : Int
 hr : Bool
 rest : Int
 h1 : Bool
 v1 : Int
 o1 : Int
 a1 : Int
 h2 : Bool
 v2 : Int
 o2 : Int
 a2 : Int
def encIt (x : It) : List Value := [.string x.nm, .int .i64 x.ep, .int .i64 x.who, .bool x.al, .int .i64 x.kd, .int .i64 x.sc, .int .i64 x.ver, .int .i64 x.wr, .int .i64 x.flow, .bool x.hr, .int .i64 x.rest, .bool x.h1, .int .i64 x.v1, .int .i64 x.o1, .int .i64 x.a1, .bool x.h2, .int .i64 x.v2, .int .i64 x.o2, .int .i64 x.a2]
@[reducible] def ItV (x : It) : Value := .agg #[.string x.nm, .int .i64 x.ep, .int .i64 x.who, .bool x.al, .int .i64 x.kd, .int .i64 x.sc, .int .i64 x.ver, .int .i64 x.wr, .int .i64 x.flow, .bool x.hr, .int .i64 x.rest, .bool x.h1, .int .i64 x.v1, .int .i64 x.o1, .int .i64 x.a1, .bool x.h2, .int .i64 x.v2, .int .i64 x.o2, .int .i64 x.a2]
def IsIt (v : Value) : Prop := ∃ x : It, v = ItV x
theorem encIt_one (x : It) : ∀ u ∈ encIt x, u.oneCell' = true := by
 intro u hu
 simp only [encIt, List.mem_cons, List.not_mem_nil, or_false] at hu
 rcases hu with rfl | rfl | rfl | rfl | rfl | rfl | rfl | rfl | rfl | rfl | rfl | rfl | rfl | rfl | rfl | rfl | rfl | rfl | rfl <;> rfl
theorem encEt_len (x : Et) : (encEt x).length = 4 := rfl
theorem encIt_len (x : It) : (encIt x).length = 19 := rfl
theorem truth_any2 (b : Nat) (A : Option Addr) (n cp : Nat) (bs : List Int) (p : Nat) (code : Int) (W : World) (h : RdAt W b A n cp bs p code) :
    Calls Tryz.prog 149 #[.pointer (some ⟨b, 0, none⟩)] W (RdPost IsB W b A n cp bs p) := by
 by_cases hc : code = 0
 · subst hc; exact truth_any b A n cp bs p W h
 · refine (truth_off b A n cp bs p code W h hc).mono ?_
   rintro e w ⟨rfl, rfl⟩
   exact ⟨_, p, code, rfl, ⟨false, rfl⟩, h, Nat.le_refl _, fun h => absurd h hc, Away.refl _ _⟩
theorem Away.own {b : Nat} {w0 w w' : World} (h : Away b w0 w) (hb : Below w0.heap.size w w') (hl : b < w0.heap.size) : Away b w0 w' :=
 ⟨h.low.trans (hb.mono (Nat.le_of_lt hl)), fun i hi hn => (hb.block i hi).trans (h.blk i hi hn)⟩
set_option maxHeartbeats 8000000 in
theorem rext_any (b : Nat) (A : Option Addr) (n cp : Nat) (bs : List Int) (p0 : Nat) (c0 : Int) (W : World) (h : RdAt W b A n cp bs p0 c0) :
    Calls Tryz.prog 151 #[.pointer (some ⟨b, 0, none⟩)] W (RdPost IsEt W b A n cp bs p0) := by
 have hbw := cell_lt h.c0
 simp only [] at hbw
 have HR0 := Lib.hid h
 have HQ0 : Hid (p0 ≤ p0) := Lib.hid (Nat.le_refl _)
 clear h
 go_enter Tryz.func151, Tryz.ntmps151
 have HA0 : Hid (Away b W W) := Lib.hid (Away.refl _ _)
 go_wp2_with (fail)
 refine (truth_any2 b A n cp bs p0 c0 _ (HR0.out.low Qb)).mono ?_; rintro e w1 ⟨v, p1, c1, rfl, ⟨x1, rfl⟩, hR, hpq, hlt, hA⟩
 have HR1 := Lib.hid hR
 have HQ1 : Hid (p0 ≤ p1) := Lib.hid (Nat.le_trans HQ0.out hpq)
 have HT1 : Hid (c1 = 0 → p0 < p1) := Lib.hid (fun h => Nat.lt_of_le_of_lt HQ0.out (hlt h))
 have hs := hA.low.size
 simp at hs
 have HL1 : Hid (LocE encEt w1 W.heap.size) := Lib.hid ((LocE.fresh (enc := encEt) W #[.bool false, .int .i64 0, .int .i64 0, .int .i64 0] 94 ⟨false, 0, 0, 0⟩ rfl).away hA (by omega))
 have HA1 : Hid (Away b W w1) := Lib.hid ((HA0.out.own Qb hbw).trans hA)
 have hr1 : W.heap.size < w1.heap.size := HL1.out.1
 clear hR hpq hlt hA hs
 go_wp2_with (fail)
 refine (rint_any b A n cp bs p1 c1 _ (HR1.out.low Qb)).mono ?_; rintro e w2 ⟨v, p2, c2, rfl, ⟨x2, rfl⟩, hR, hpq, hlt, hA⟩
 have HR2 := Lib.hid hR
 have HQ2 : Hid (p0 ≤ p2) := Lib.hid (Nat.le_trans HQ1.out hpq)
 have HT2 : Hid (c2 = 0 → p0 < p2) := Lib.hid (fun h => Nat.lt_of_le_of_lt HQ1.out (hlt h))
 have HL2 : Hid (LocE encEt w2 W.heap.size) := Lib.hid ((HL1.out.below ((Below.refl _ _).alloc (Nat.le_refl _) _)).away hA (by omega))
 have HM2 : Hid (LocE encEt w2 w1.heap.size) := Lib.hid ((LocE.fresh (enc := encEt) w1 #[.bool x1, .int .i64 0, .int .i64 0, .int .i64 0] 94 ⟨x1, 0, 0, 0⟩ rfl).away hA (by omega))
 have HA2 : Hid (Away b W w2) := Lib.hid ((HA1.out.own Qb hbw).trans hA)
 have hr2 : W.heap.size < w2.heap.size := HL2.out.1
 have hz2 : w1.heap.size < w2.heap.size := HM2.out.1
 clear hR hpq hlt hA
 obtain ⟨u2_1, hu2_1, hf2_1⟩ := HM2.out.exp 1 4 encEt_len (by decide)
 go_wp2_with (fail)
 refine (rsmall_any b A n cp bs p2 c2 _ (HR2.out.low Qb)).mono ?_; rintro e w3 ⟨v, p3, c3, rfl, ⟨x3, rfl⟩, hR, hpq, hlt, hA⟩
 have HR3 := Lib.hid hR
 have HQ3 : Hid (p0 ≤ p3) := Lib.hid (Nat.le_trans HQ2.out hpq)
 have HT3 : Hid (c3 = 0 → p0 < p3) := Lib.hid (fun h => Nat.lt_of_le_of_lt HQ2.out (hlt h))
 have HL3 : Hid (LocE encEt w3 W.heap.size) := Lib.hid (((HL2.out).other 1 (.int .i64 x2) (by omega)).away hA (by omega))
 have HM3 : Hid (LocE encEt w3 w1.heap.size) := Lib.hid (((HM2.out).set 1 (.int .i64 x2) (fun x => ⟨{ x with val := x2 }, rfl⟩)).away hA (by omega))
 have HA3 : Hid (Away b W w3) := Lib.hid ((HA2.out.own Qb hbw).trans hA)
 have hr3 : W.heap.size < w3.heap.size := HL3.out.1
 have hz3 : w1.heap.size < w3.heap.size := HM3.out.1
 clear hR hpq hlt hA
 clear hu2_1 hf2_1 hr2 hz2
 obtain ⟨u3_2, hu3_2, hf3_2⟩ := HM3.out.exp 2 4 encEt_len (by decide)
 go_wp2_with (fail)
 refine (rwhole_any b A n cp bs p3 c3 _ (HR3.out.low Qb)).mono ?_; rintro e w4 ⟨v, p4, c4, rfl, ⟨x4, rfl⟩, hR, hpq, hlt, hA⟩
 have HR4 := Lib.hid hR
 have HQ4 : Hid (p0 ≤ p4) := Lib.hid (Nat.le_trans HQ3.out hpq)
 have HT4 : Hid (c4 = 0 → p0 < p4) := Lib.hid (fun h => Nat.lt_of_le_of_lt HQ3.out (hlt h))
 have HL4 : Hid (LocE encEt w4 W.heap.size) := Lib.hid (((HL3.out).other 2 (.int .i64 x3) (by omega)).away hA (by omega))
 have HM4 : Hid (LocE encEt w4 w1.heap.size) := Lib.hid (((HM3.out).set 2 (.int .i64 x3) (fun x => ⟨{ x with org := x3 }, rfl⟩)).away hA (by omega))
 have HA4 : Hid (Away b W w4) := Lib.hid ((HA3.out.own Qb hbw).trans hA)
 have hr4 : W.heap.size < w4.heap.size := HL4.out.1
 have hz4 : w1.heap.size < w4.heap.size := HM4.out.1
 clear hR hpq hlt hA
 clear hu3_2 hf3_2 hr3 hz3
 obtain ⟨hz9, xx, hx⟩ := HM4.out
 obtain ⟨hr9, yy, hy⟩ := HL4.out
 have m0 := (hx 0 _ rfl).1; have n0 := (hx 0 _ rfl).2; have r0 := (hy 0 _ rfl).1; have q0 := (hy 0 _ rfl).2
 have m1 := (hx 1 _ rfl).1; have n1 := (hx 1 _ rfl).2; have r1 := (hy 1 _ rfl).1; have q1 := (hy 1 _ rfl).2
 have m2 := (hx 2 _ rfl).1; have n2 := (hx 2 _ rfl).2; have r2 := (hy 2 _ rfl).1; have q2 := (hy 2 _ rfl).2
 have m3 := (hx 3 _ rfl).1; have n3 := (hx 3 _ rfl).2; have r3 := (hy 3 _ rfl).1; have q3 := (hy 3 _ rfl).2
 clear hx hy
 go_wp2
 refine bodyPost_ret (v := EtV ⟨xx.has, xx.val, xx.org, x4⟩) (by simp [results, Tryz.results151, go_sem, *]) rfl ?_
 exact ⟨_, p4, c4, rfl, ⟨⟨xx.has, xx.val, xx.org, x4⟩, rfl⟩, HR4.out.low Qb, HQ4.out, HT4.out, HA4.out.own Qb hbw⟩
theorem wpList_store_lay {P : Program} {ops : Array Oper} {rest : List Oper} {op : Oper} {a : Act} {w : World} {Q : Exit → Act → World → Prop} (hgd : op.guard = none) (ty : TypeId) (x y : Operand) (ho : op.op = .store ty x y)
    (b o : Nat) (cells : Array Value) (hx : a.eval x = .pointer (some ⟨b, o, none⟩)) (hy : a.eval y = .agg cells)
    (ht : w.there b o cells.size) (hi : (P.info? ty).map (·.size) = some cells.size) (h1 : cells.all (·.oneCell') = true) (C : World → Prop) (hC : C (w.setCells b o cells.toList))
    (h : ∀ w', C w' → wpList P ops Q rest (a.put op.dst undef) w') : wpList P ops Q (op :: rest) a w :=
 wpList_store_mid hgd ty x y ho b o cells hx hy ht hi h1 (h _ hC)
theorem Below.setCells {B b : Nat} {w0 : World} (hB : B ≤ b) : ∀ (vs : List Value) (o : Nat) (w : World), Below B w0 w → Below B w0 (w.setCells b o vs)
 | [], _, _, h => h
 | v :: vs, o, w, h => Below.setCells hB vs (o + 1) _ (h.setCell (p := ⟨b, o, none⟩) hB v)
theorem size_setCells (b : Nat) : ∀ (vs : List Value) (o : Nat) (w : World), (w.setCells b o vs).heap.size = w.heap.size
 | [], _, _ => rfl
 | v :: vs, o, w => by
  show ((w.setCell ⟨b, o, none⟩ v).setCells b (o + 1) vs).heap.size = _
  rw [size_setCells b vs (o + 1), World.size_setCell]
theorem lay1 {P : Program} {c : Code} {Q : Exit → Act → World → Prop} {a : Act} {W : World} (C : World → Prop) (hC : C W) (h : ∀ W', C W' → c.wp P Q a W') : c.wp P Q a W := h W hC
theorem results_cell_mid {P : Program} {fn : Func} {p : Tmp} {ty : TypeId} (h : fn.results = #[.cell p ty]) (tmps : Array Value) (w : World) (g : Nat) (cs : List Value) (d : TypeDesc)
    (hp : tmps.getD p undef = .pointer (some ⟨g, 0, none⟩)) (hc : w.rangeAt g 0 cs) (hu : P.underlying ty = some d) (hd : d.isRow = true) (hi : (P.info? ty).map (·.size) = some cs.length) :
    (results fn tmps).run P w = .ok (.agg cs.toArray) w := by
 have hp' : tmps[p]?.getD undef = .pointer (some ⟨g, 0, none⟩) := by simpa using hp
 simp [results, h, hp', asAddr, run_loadVar_mid w g 0 ty cs d hc hu hd hi]
theorem results_cell_mid2 {P : Program} {fn : Func} {p u : Tmp} {ty : TypeId} (h : fn.results = #[.cell p ty, .tmp u]) (tmps : Array Value) (w : World) (g : Nat) (cs : List Value) (d : TypeDesc)
    (hp : tmps.getD p undef = .pointer (some ⟨g, 0, none⟩)) (hc : w.rangeAt g 0 cs) (hu : P.underlying ty = some d) (hd : d.isRow = true) (hi : (P.info? ty).map (·.size) = some cs.length) :
    (results fn tmps).run P w = .ok (.tuple #[.agg cs.toArray, tmps.getD u undef]) w := by
 have hp' : tmps[p]?.getD undef = .pointer (some ⟨g, 0, none⟩) := by simpa using hp
 rw [results_cell_tmp h]
 simp [hp', asAddr, run_loadVar_mid w g 0 ty cs d hc hu hd hi, Result.andThen]
section
variable {α : Type} {enc : α → List Value} {w w' : World} {g b n : Nat}
theorem LocE.range (h : LocE enc w g) : ∃ x, w.rangeAt g 0 (enc x) := by
 obtain ⟨hg, x, hx⟩ := h
 exact ⟨x, fun j v hv => by rw [Nat.zero_add]; exact (hx j v hv).1⟩
theorem LocE.there (h : LocE enc w g) (hn : ∀ x, (enc x).length = n) : w.there g 0 n := by
 obtain ⟨hg, x, hx⟩ := h
 intro j hj
 have h1 := hx j _ (List.getElem?_eq_getElem (by rw [hn]; exact hj))
 rw [Nat.zero_add]
 exact ⟨by rw [h1.1]; rfl, h1.2⟩
theorem LocE.otherS (h : LocE enc w g) {g' : Nat} (hn : g ≠ g') : ∀ (vs : List Value) (o : Nat), LocE enc (w.setCells g' o vs) g := by
 intro vs
 induction vs generalizing w with
 | nil => intro o; exact h
 | cons v vs ih => intro o; exact ih (h.other o v hn) (o + 1)
theorem LocE.layS (h : LocE enc w g) (hn : ∀ x, (enc x).length = n) (y : α) {vs : List Value} (hv : vs = enc y) : LocE enc (w.setCells g 0 vs) g := by
 subst hv
 have ht := h.there hn
 refine ⟨by rw [size_setCells]; exact h.1, y, fun i u hu => ⟨?_, ?_⟩⟩
 · have := World.rangeAt_setCells_same w g 0 (enc y) (by rw [hn]; exact ht) i u hu
   rwa [Nat.zero_add] at this
 · have hi : i < n := by have := (List.getElem?_eq_some_iff.1 hu).1; rwa [hn] at this
   have := (World.there_setCells ht g 0 (enc y) i hi).2
   rwa [Nat.zero_add] at this
end
@[reducible] def It0 : It := ⟨⟨#[]⟩, 0, 0, false, 0, 0, 0, 0, 0, false, 0, false, 0, 0, 0, false, 0, 0, 0⟩
set_option maxHeartbeats 8000000 in
theorem ritem_any (b : Nat) (A : Option Addr) (n cp : Nat) (bs : List Int) (p0 : Nat) (c0 : Int) (W : World) (h : RdAt W b A n cp bs p0 c0) :
    Calls Tryz.prog 119 #[.pointer (some ⟨b, 0, none⟩)] W (RdPost IsIt W b A n cp bs p0) := by
 have hbw := cell_lt h.c0
 simp only [] at hbw
 have HR0 := Lib.hid h
 have HQ0 : Hid (p0 ≤ p0) := Lib.hid (Nat.le_refl _)
 clear h
 go_enter Tryz.func119, Tryz.ntmps119
 have HLa : Hid (LocE encIt ((W.alloc (.cells #[.string ⟨#[]⟩, .int .i64 0, .int .i64 0, .bool false, .int .i64 0, .int .i64 0, .int .i64 0, .int .i64 0, .int .i64 0, .bool false, .int .i64 0, .bool false, .int .i64 0, .int .i64 0, .int .i64 0, .bool false, .int .i64 0, .int .i64 0, .int .i64 0] 183)).alloc (.cells #[.string ⟨#[]⟩, .int .i64 0, .int .i64 0, .bool false, .int .i64 0, .int .i64 0, .int .i64 0, .int .i64 0, .int .i64 0, .bool false, .int .i64 0, .bool false, .int .i64 0, .int .i64 0, .int .i64 0, .bool false, .int .i64 0, .int .i64 0, .int .i64 0] 183)) W.heap.size) := Lib.hid ((LocE.fresh (enc := encIt) W #[.string ⟨#[]⟩, .int .i64 0, .int .i64 0, .bool false, .int .i64 0, .int .i64 0, .int .i64 0, .int .i64 0, .int .i64 0, .bool false, .int .i64 0, .bool false, .int .i64 0, .int .i64 0, .int .i64 0, .bool false, .int .i64 0, .int .i64 0, .int .i64 0] 183 It0 rfl).below ((Below.refl _ _).alloc (Nat.le_refl _) _))
 have HMa : Hid (LocE encIt ((W.alloc (.cells #[.string ⟨#[]⟩, .int .i64 0, .int .i64 0, .bool false, .int .i64 0, .int .i64 0, .int .i64 0, .int .i64 0, .int .i64 0, .bool false, .int .i64 0, .bool false, .int .i64 0, .int .i64 0, .int .i64 0, .bool false, .int .i64 0, .int .i64 0, .int .i64 0] 183)).alloc (.cells #[.string ⟨#[]⟩, .int .i64 0, .int .i64 0, .bool false, .int .i64 0, .int .i64 0, .int .i64 0, .int .i64 0, .int .i64 0, .bool false, .int .i64 0, .bool false, .int .i64 0, .int .i64 0, .int .i64 0, .bool false, .int .i64 0, .int .i64 0, .int .i64 0] 183)) (W.heap.size + 1)) := Lib.hid (by have h := LocE.fresh (enc := encIt) (W.alloc (.cells #[.string ⟨#[]⟩, .int .i64 0, .int .i64 0, .bool false, .int .i64 0, .int .i64 0, .int .i64 0, .int .i64 0, .int .i64 0, .bool false, .int .i64 0, .bool false, .int .i64 0, .int .i64 0, .int .i64 0, .bool false, .int .i64 0, .int .i64 0, .int .i64 0] 183)) #[.string ⟨#[]⟩, .int .i64 0, .int .i64 0, .bool false, .int .i64 0, .int .i64 0, .int .i64 0, .int .i64 0, .int .i64 0, .bool false, .int .i64 0, .bool false, .int .i64 0, .int .i64 0, .int .i64 0, .bool false, .int .i64 0, .int .i64 0, .int .i64 0] 183 It0 rfl; simpa using h)
 have HBa : Hid (Below W.heap.size W ((W.alloc (.cells #[.string ⟨#[]⟩, .int .i64 0, .int .i64 0, .bool false, .int .i64 0, .int .i64 0, .int .i64 0, .int .i64 0, .int .i64 0, .bool false, .int .i64 0, .bool false, .int .i64 0, .int .i64 0, .int .i64 0, .bool false, .int .i64 0, .int .i64 0, .int .i64 0] 183)).alloc (.cells #[.string ⟨#[]⟩, .int .i64 0, .int .i64 0, .bool false, .int .i64 0, .int .i64 0, .int .i64 0, .int .i64 0, .int .i64 0, .bool false, .int .i64 0, .bool false, .int .i64 0, .int .i64 0, .int .i64 0, .bool false, .int .i64 0, .int .i64 0, .int .i64 0] 183))) := Lib.hid Qb
 go_wp2_with ((with_reducible show wpList _ _ _ (_ :: _) _ _); refine wpList_store_lay rfl 183 (.tmp 3) (.tmp 4) rfl (W.heap.size + 1) 0 #[.string ⟨#[]⟩, .int .i64 0, .int .i64 0, .bool false, .int .i64 0, .int .i64 0, .int .i64 0, .int .i64 0, .int .i64 0, .bool false, .int .i64 0, .bool false, .int .i64 0, .int .i64 0, .int .i64 0, .bool false, .int .i64 0, .int .i64 0, .int .i64 0] rfl rfl (HMa.out.there encIt_len) (by kernel_rfl) (by kernel_rfl) (fun w' => LocE encIt w' (W.heap.size + 1) ∧ LocE encIt w' W.heap.size ∧ Below W.heap.size W w') ⟨HMa.out.layS encIt_len It0 rfl, HLa.out.otherS (by omega) _ _, Below.setCells (by omega) _ _ _ HBa.out⟩ ?_; rintro w0 ⟨hM0, hL0, hB0⟩; have HM0 := Lib.hid hM0; have HL0 := Lib.hid hL0; have HRz := Lib.hid (HR0.out.below hB0); have HA0 := Lib.hid (Away.of hB0 hbw); have hr0 : W.heap.size < w0.heap.size := HL0.out.1; have hz0 : W.heap.size + 1 < w0.heap.size := HM0.out.1; clear hM0 hL0 hB0 HLa HMa HBa)
 refine (rstr_any b A n cp bs p0 c0 _ HRz.out).mono ?_; rintro e w1 ⟨v, p1, c1, rfl, ⟨x1, rfl⟩, hR, hpq, hlt, hA⟩
 have HR1 := Lib.hid hR
 have HQ1 : Hid (p0 ≤ p1) := Lib.hid (Nat.le_trans HQ0.out hpq)
 have HT1 : Hid (c1 = 0 → p0 < p1) := Lib.hid (fun h => Nat.lt_of_le_of_lt HQ0.out (hlt h))
 have HL1 : Hid (LocE encIt w1 W.heap.size) := Lib.hid ((HL0.out).away hA (by omega))
 have HM1 : Hid (LocE encIt w1 (W.heap.size + 1)) := Lib.hid ((HM0.out).away hA (by omega))
 have HA1 : Hid (Away b W w1) := Lib.hid (HA0.out.trans hA)
 have hr1 : W.heap.size < w1.heap.size := HL1.out.1
 have hz1 : W.heap.size + 1 < w1.heap.size := HM1.out.1
 clear hR hpq hlt hA hr0 hz0 HRz
 obtain ⟨u1_0, hu1_0, hf1_0⟩ := HM1.out.exp 0 19 encIt_len (by decide)
 go_wp2_with (fail)
 refine (rwhole_any b A n cp bs p1 c1 _ (HR1.out.low Qb)).mono ?_; rintro e w2 ⟨v, p2, c2, rfl, ⟨x2, rfl⟩, hR, hpq, hlt, hA⟩
 have HR2 := Lib.hid hR
 have HQ2 : Hid (p0 ≤ p2) := Lib.hid (Nat.le_trans HQ1.out hpq)
 have HT2 : Hid (c2 = 0 → p0 < p2) := Lib.hid (fun h => Nat.lt_of_le_of_lt HQ1.out (hlt h))
 have HL2 : Hid (LocE encIt w2 W.heap.size) := Lib.hid (((HL1.out).other 0 (.string x1) (by omega)).away hA (by omega))
 have HM2 : Hid (LocE encIt w2 (W.heap.size + 1)) := Lib.hid (((HM1.out).set 0 (.string x1) (fun x => ⟨{ x with nm := x1 }, rfl⟩)).away hA (by omega))
 have HA2 : Hid (Away b W w2) := Lib.hid ((HA1.out.own Qb hbw).trans hA)
 have hr2 : W.heap.size < w2.heap.size := HL2.out.1
 have hz2 : W.heap.size + 1 < w2.heap.size := HM2.out.1
 clear hR hpq hlt hA
 clear hu1_0 hf1_0 hr1 hz1
 obtain ⟨u2_1, hu2_1, hf2_1⟩ := HM2.out.exp 1 19 encIt_len (by decide)
 go_wp2_with (fail)
 refine (rsmall_any b A n cp bs p2 c2 _ (HR2.out.low Qb)).mono ?_; rintro e w3 ⟨v, p3, c3, rfl, ⟨x3, rfl⟩, hR, hpq, hlt, hA⟩
 have HR3 := Lib.hid hR
 have HQ3 : Hid (p0 ≤ p3) := Lib.hid (Nat.le_trans HQ2.out hpq)
 have HT3 : Hid (c3 = 0 → p0 < p3) := Lib.hid (fun h => Nat.lt_of_le_of_lt HQ2.out (hlt h))
 have HL3 : Hid (LocE encIt w3 W.heap.size) := Lib.hid (((HL2.out).other 1 (.int .i64 x2) (by omega)).away hA (by omega))
 have HM3 : Hid (LocE encIt w3 (W.heap.size + 1)) := Lib.hid (((HM2.out).set 1 (.int .i64 x2) (fun x => ⟨{ x with ep := x2 }, rfl⟩)).away hA (by omega))
 have HA3 : Hid (Away b W w3) := Lib.hid ((HA2.out.own Qb hbw).trans hA)
 have hr3 : W.heap.size < w3.heap.size := HL3.out.1
 have hz3 : W.heap.size + 1 < w3.heap.size := HM3.out.1
 clear hR hpq hlt hA
 clear hu2_1 hf2_1 hr2 hz2
 obtain ⟨u3_2, hu3_2, hf3_2⟩ := HM3.out.exp 2 19 encIt_len (by decide)
 go_wp2_with (fail)
 refine (truth_any2 b A n cp bs p3 c3 _ (HR3.out.low Qb)).mono ?_; rintro e w4 ⟨v, p4, c4, rfl, ⟨x4, rfl⟩, hR, hpq, hlt, hA⟩
 have HR4 := Lib.hid hR
 have HQ4 : Hid (p0 ≤ p4) := Lib.hid (Nat.le_trans HQ3.out hpq)
 have HT4 : Hid (c4 = 0 → p0 < p4) := Lib.hid (fun h => Nat.lt_of_le_of_lt HQ3.out (hlt h))
 have HL4 : Hid (LocE encIt w4 W.heap.size) := Lib.hid (((HL3.out).other 2 (.int .i64 x3) (by omega)).away hA (by omega))
 have HM4 : Hid (LocE encIt w4 (W.heap.size + 1)) := Lib.hid (((HM3.out).set 2 (.int .i64 x3) (fun x => ⟨{ x with who := x3 }, rfl⟩)).away hA (by omega))
 have HA4 : Hid (Away b W w4) := Lib.hid ((HA3.out.own Qb hbw).trans hA)
 have hr4 : W.heap.size < w4.heap.size := HL4.out.1
 have hz4 : W.heap.size + 1 < w4.heap.size := HM4.out.1
 clear hR hpq hlt hA
 clear hu3_2 hf3_2 hr3 hz3
 obtain ⟨u4_3, hu4_3, hf4_3⟩ := HM4.out.exp 3 19 encIt_len (by decide)
 go_wp2_with (fail)
 refine (rsmall_any b A n cp bs p4 c4 _ (HR4.out.low Qb)).mono ?_; rintro e w5 ⟨v, p5, c5, rfl, ⟨x5, rfl⟩, hR, hpq, hlt, hA⟩
 have HR5 := Lib.hid hR
 have HQ5 : Hid (p0 ≤ p5) := Lib.hid (Nat.le_trans HQ4.out hpq)
 have HT5 : Hid (c5 = 0 → p0 < p5) := Lib.hid (fun h => Nat.lt_of_le_of_lt HQ4.out (hlt h))
 have HL5 : Hid (LocE encIt w5 W.heap.size) := Lib.hid (((HL4.out).other 3 (.bool x4) (by omega)).away hA (by omega))
 have HM5 : Hid (LocE encIt w5 (W.heap.size + 1)) := Lib.hid (((HM4.out).set 3 (.bool x4) (fun x => ⟨{ x with al := x4 }, rfl⟩)).away hA (by omega))
 have HA5 : Hid (Away b W w5) := Lib.hid ((HA4.out.own Qb hbw).trans hA)
 have hr5 : W.heap.size < w5.heap.size := HL5.out.1
 have hz5 : W.heap.size + 1 < w5.heap.size := HM5.out.1
 clear hR hpq hlt hA
 clear hu4_3 hf4_3 hr4 hz4
 obtain ⟨u5_4, hu5_4, hf5_4⟩ := HM5.out.exp 4 19 encIt_len (by decide)
 go_wp2_with (fail)
 refine (rwhole_any b A n cp bs p5 c5 _ (HR5.out.low Qb)).mono ?_; rintro e w6 ⟨v, p6, c6, rfl, ⟨x6, rfl⟩, hR, hpq, hlt, hA⟩
 have HR6 := Lib.hid hR
 have HQ6 : Hid (p0 ≤ p6) := Lib.hid (Nat.le_trans HQ5.out hpq)
 have HT6 : Hid (c6 = 0 → p0 < p6) := Lib.hid (fun h => Nat.lt_of_le_of_lt HQ5.out (hlt h))
 have HL6 : Hid (LocE encIt w6 W.heap.size) := Lib.hid (((HL5.out).other 4 (.int .i64 x5) (by omega)).away hA (by omega))
 have HM6 : Hid (LocE encIt w6 (W.heap.size + 1)) := Lib.hid (((HM5.out).set 4 (.int .i64 x5) (fun x => ⟨{ x with kd := x5 }, rfl⟩)).away hA (by omega))
 have HA6 : Hid (Away b W w6) := Lib.hid ((HA5.out.own Qb hbw).trans hA)
 have hr6 : W.heap.size < w6.heap.size := HL6.out.1
 have hz6 : W.heap.size + 1 < w6.heap.size := HM6.out.1
 clear hR hpq hlt hA
 clear hu5_4 hf5_4 hr5 hz5
 obtain ⟨u6_5, hu6_5, hf6_5⟩ := HM6.out.exp 5 19 encIt_len (by decide)
 go_wp2_with (fail)
 refine (rwhole_any b A n cp bs p6 c6 _ (HR6.out.low Qb)).mono ?_; rintro e w7 ⟨v, p7, c7, rfl, ⟨x7, rfl⟩, hR, hpq, hlt, hA⟩
 have HR7 := Lib.hid hR
 have HQ7 : Hid (p0 ≤ p7) := Lib.hid (Nat.le_trans HQ6.out hpq)
 have HT7 : Hid (c7 = 0 → p0 < p7) := Lib.hid (fun h => Nat.lt_of_le_of_lt HQ6.out (hlt h))
 have HL7 : Hid (LocE encIt w7 W.heap.size) := Lib.hid (((HL6.out).other 5 (.int .i64 x6) (by omega)).away hA (by omega))
 have HM7 : Hid (LocE encIt w7 (W.heap.size + 1)) := Lib.hid (((HM6.out).set 5 (.int .i64 x6) (fun x => ⟨{ x with sc := x6 }, rfl⟩)).away hA (by omega))
 have HA7 : Hid (Away b W w7) := Lib.hid ((HA6.out.own Qb hbw).trans hA)
 have hr7 : W.heap.size < w7.heap.size := HL7.out.1
 have hz7 : W.heap.size + 1 < w7.heap.size := HM7.out.1
 clear hR hpq hlt hA
 clear hu6_5 hf6_5 hr6 hz6
 obtain ⟨u7_6, hu7_6, hf7_6⟩ := HM7.out.exp 6 19 encIt_len (by decide)
 go_wp2_with (fail)
 refine (rsmall_any b A n cp bs p7 c7 _ (HR7.out.low Qb)).mono ?_; rintro e w8 ⟨v, p8, c8, rfl, ⟨x8, rfl⟩, hR, hpq, hlt, hA⟩
 have HR8 := Lib.hid hR
 have HQ8 : Hid (p0 ≤ p8) := Lib.hid (Nat.le_trans HQ7.out hpq)
 have HT8 : Hid (c8 = 0 → p0 < p8) := Lib.hid (fun h => Nat.lt_of_le_of_lt HQ7.out (hlt h))
 have HL8 : Hid (LocE encIt w8 W.heap.size) := Lib.hid (((HL7.out).other 6 (.int .i64 x7) (by omega)).away hA (by omega))
 have HM8 : Hid (LocE encIt w8 (W.heap.size + 1)) := Lib.hid (((HM7.out).set 6 (.int .i64 x7) (fun x => ⟨{ x with ver := x7 }, rfl⟩)).away hA (by omega))
 have HA8 : Hid (Away b W w8) := Lib.hid ((HA7.out.own Qb hbw).trans hA)
 have hr8 : W.heap.size < w8.heap.size := HL8.out.1
 have hz8 : W.heap.size + 1 < w8.heap.size := HM8.out.1
 clear hR hpq hlt hA
 clear hu7_6 hf7_6 hr7 hz7
 obtain ⟨u8_7, hu8_7, hf8_7⟩ := HM8.out.exp 7 19 encIt_len (by decide)
 go_wp2_with (fail)
 refine (rint_any b A n cp bs p8 c8 _ (HR8.out.low Qb)).mono ?_; rintro e w9 ⟨v, p9, c9, rfl, ⟨x9, rfl⟩, hR, hpq, hlt, hA⟩
 have HR9 := Lib.hid hR
 have HQ9 : Hid (p0 ≤ p9) := Lib.hid (Nat.le_trans HQ8.out hpq)
 have HT9 : Hid (c9 = 0 → p0 < p9) := Lib.hid (fun h => Nat.lt_of_le_of_lt HQ8.out (hlt h))
 have HL9 : Hid (LocE encIt w9 W.heap.size) := Lib.hid (((HL8.out).other 7 (.int .i64 x8) (by omega)).away hA (by omega))
 have HM9 : Hid (LocE encIt w9 (W.heap.size + 1)) := Lib.hid (((HM8.out).set 7 (.int .i64 x8) (fun x => ⟨{ x with wr := x8 }, rfl⟩)).away hA (by omega))
 have HA9 : Hid (Away b W w9) := Lib.hid ((HA8.out.own Qb hbw).trans hA)
 have hr9 : W.heap.size < w9.heap.size := HL9.out.1
 have hz9 : W.heap.size + 1 < w9.heap.size := HM9.out.1
 clear hR hpq hlt hA
 clear hu8_7 hf8_7 hr8 hz8
 obtain ⟨u9_8, hu9_8, hf9_8⟩ := HM9.out.exp 8 19 encIt_len (by decide)
 go_wp2_with (fail)
 refine (truth_any2 b A n cp bs p9 c9 _ (HR9.out.low Qb)).mono ?_; rintro e w10 ⟨v, p10, c10, rfl, ⟨x10, rfl⟩, hR, hpq, hlt, hA⟩
 have HR10 := Lib.hid hR
 have HQ10 : Hid (p0 ≤ p10) := Lib.hid (Nat.le_trans HQ9.out hpq)
 have HT10 : Hid (c10 = 0 → p0 < p10) := Lib.hid (fun h => Nat.lt_of_le_of_lt HQ9.out (hlt h))
 have HL10 : Hid (LocE encIt w10 W.heap.size) := Lib.hid (((HL9.out).other 8 (.int .i64 x9) (by omega)).away hA (by omega))
 have HM10 : Hid (LocE encIt w10 (W.heap.size + 1)) := Lib.hid (((HM9.out).set 8 (.int .i64 x9) (fun x => ⟨{ x with flow := x9 }, rfl⟩)).away hA (by omega))
 have HA10 : Hid (Away b W w10) := Lib.hid ((HA9.out.own Qb hbw).trans hA)
 have hr10 : W.heap.size < w10.heap.size := HL10.out.1
 have hz10 : W.heap.size + 1 < w10.heap.size := HM10.out.1
 clear hR hpq hlt hA
 clear hu9_8 hf9_8 hr9 hz9
 obtain ⟨u10_9, hu10_9, hf10_9⟩ := HM10.out.exp 9 19 encIt_len (by decide)
 go_wp2_with (fail)
 refine (rint_any b A n cp bs p10 c10 _ (HR10.out.low Qb)).mono ?_; rintro e w11 ⟨v, p11, c11, rfl, ⟨x11, rfl⟩, hR, hpq, hlt, hA⟩
 have HR11 := Lib.hid hR
 have HQ11 : Hid (p0 ≤ p11) := Lib.hid (Nat.le_trans HQ10.out hpq)
 have HT11 : Hid (c11 = 0 → p0 < p11) := Lib.hid (fun h => Nat.lt_of_le_of_lt HQ10.out (hlt h))
 have HL11 : Hid (LocE encIt w11 W.heap.size) := Lib.hid (((HL10.out).other 9 (.bool x10) (by omega)).away hA (by omega))
 have HM11 : Hid (LocE encIt w11 (W.heap.size + 1)) := Lib.hid (((HM10.out).set 9 (.bool x10) (fun x => ⟨{ x with hr := x10 }, rfl⟩)).away hA (by omega))
 have HA11 : Hid (Away b W w11) := Lib.hid ((HA10.out.own Qb hbw).trans hA)
 have hr11 : W.heap.size < w11.heap.size := HL11.out.1
 have hz11 : W.heap.size + 1 < w11.heap.size := HM11.out.1
 clear hR hpq hlt hA
 clear hu10_9 hf10_9 hr10 hz10
 obtain ⟨u11_10, hu11_10, hf11_10⟩ := HM11.out.exp 10 19 encIt_len (by decide)
 go_wp2_with (fail)
 refine (rext_any b A n cp bs p11 c11 _ (HR11.out.low Qb)).mono ?_; rintro e w12 ⟨v, p12, c12, rfl, ⟨x12, rfl⟩, hR, hpq, hlt, hA⟩
 have HR12 := Lib.hid hR
 have HQ12 : Hid (p0 ≤ p12) := Lib.hid (Nat.le_trans HQ11.out hpq)
 have HT12 : Hid (c12 = 0 → p0 < p12) := Lib.hid (fun h => Nat.lt_of_le_of_lt HQ11.out (hlt h))
 have HL12 : Hid (LocE encIt w12 W.heap.size) := Lib.hid (((HL11.out).other 10 (.int .i64 x11) (by omega)).away hA (by omega))
 have HM12 : Hid (LocE encIt w12 (W.heap.size + 1)) := Lib.hid (((HM11.out).set 10 (.int .i64 x11) (fun x => ⟨{ x with rest := x11 }, rfl⟩)).away hA (by omega))
 have HA12 : Hid (Away b W w12) := Lib.hid ((HA11.out.own Qb hbw).trans hA)
 have hr12 : W.heap.size < w12.heap.size := HL12.out.1
 have hz12 : W.heap.size + 1 < w12.heap.size := HM12.out.1
 clear hR hpq hlt hA
 clear hu11_10 hf11_10 hr11 hz11
 obtain ⟨u12_11, hu12_11, hf12_11⟩ := HM12.out.exp 11 19 encIt_len (by decide)
 obtain ⟨u12_12, hu12_12, hf12_12⟩ := HM12.out.exp 12 19 encIt_len (by decide)
 obtain ⟨u12_13, hu12_13, hf12_13⟩ := HM12.out.exp 13 19 encIt_len (by decide)
 obtain ⟨u12_14, hu12_14, hf12_14⟩ := HM12.out.exp 14 19 encIt_len (by decide)
 go_wp2_with (fail)
 refine (rext_any b A n cp bs p12 c12 _ (HR12.out.low Qb)).mono ?_; rintro e w13 ⟨v, p13, c13, rfl, ⟨x13, rfl⟩, hR, hpq, hlt, hA⟩
 have HR13 := Lib.hid hR
 have HQ13 : Hid (p0 ≤ p13) := Lib.hid (Nat.le_trans HQ12.out hpq)
 have HT13 : Hid (c13 = 0 → p0 < p13) := Lib.hid (fun h => Nat.lt_of_le_of_lt HQ12.out (hlt h))
 have HL13 : Hid (LocE encIt w13 W.heap.size) := Lib.hid ((((((HL12.out).other 11 (.bool x12.has) (by omega)).other 12 (.int .i64 x12.val) (by omega)).other 13 (.int .i64 x12.org) (by omega)).other 14 (.int .i64 x12.age) (by omega)).away hA (by omega))
 have HM13 : Hid (LocE encIt w13 (W.heap.size + 1)) := Lib.hid ((((((HM12.out).set 11 (.bool x12.has) (fun x => ⟨{ x with h1 := x12.has }, rfl⟩)).set 12 (.int .i64 x12.val) (fun x => ⟨{ x with v1 := x12.val }, rfl⟩)).set 13 (.int .i64 x12.org) (fun x => ⟨{ x with o1 := x12.org }, rfl⟩)).set 14 (.int .i64 x12.age) (fun x => ⟨{ x with a1 := x12.age }, rfl⟩)).away hA (by omega))
 have HA13 : Hid (Away b W w13) := Lib.hid ((HA12.out.own Qb hbw).trans hA)
 have hr13 : W.heap.size < w13.heap.size := HL13.out.1
 have hz13 : W.heap.size + 1 < w13.heap.size := HM13.out.1
 clear hR hpq hlt hA
 clear hu12_11 hf12_11 hu12_12 hf12_12 hu12_13 hf12_13 hu12_14 hf12_14 hr12 hz12
 obtain ⟨u13_15, hu13_15, hf13_15⟩ := HM13.out.exp 15 19 encIt_len (by decide)
 obtain ⟨u13_16, hu13_16, hf13_16⟩ := HM13.out.exp 16 19 encIt_len (by decide)
 obtain ⟨u13_17, hu13_17, hf13_17⟩ := HM13.out.exp 17 19 encIt_len (by decide)
 obtain ⟨u13_18, hu13_18, hf13_18⟩ := HM13.out.exp 18 19 encIt_len (by decide)
 have HM14 : Hid (LocE encIt ((((w13.setCell ⟨W.heap.size + 1, 15, none⟩ (.bool x13.has)).setCell ⟨W.heap.size + 1, 16, none⟩ (.int .i64 x13.val)).setCell ⟨W.heap.size + 1, 17, none⟩ (.int .i64 x13.org)).setCell ⟨W.heap.size + 1, 18, none⟩ (.int .i64 x13.age)) (W.heap.size + 1)) := Lib.hid (((((HM13.out).set 15 (.bool x13.has) (fun x => ⟨{ x with h2 := x13.has }, rfl⟩)).set 16 (.int .i64 x13.val) (fun x => ⟨{ x with v2 := x13.val }, rfl⟩)).set 17 (.int .i64 x13.org) (fun x => ⟨{ x with o2 := x13.org }, rfl⟩)).set 18 (.int .i64 x13.age) (fun x => ⟨{ x with a2 := x13.age }, rfl⟩))
 have HL14 : Hid (LocE encIt ((((w13.setCell ⟨W.heap.size + 1, 15, none⟩ (.bool x13.has)).setCell ⟨W.heap.size + 1, 16, none⟩ (.int .i64 x13.val)).setCell ⟨W.heap.size + 1, 17, none⟩ (.int .i64 x13.org)).setCell ⟨W.heap.size + 1, 18, none⟩ (.int .i64 x13.age)) W.heap.size) := Lib.hid (((((HL13.out).other 15 (.bool x13.has) (by omega)).other 16 (.int .i64 x13.val) (by omega)).other 17 (.int .i64 x13.org) (by omega)).other 18 (.int .i64 x13.age) (by omega))
 go_upto_region 15 with (fail)
 refine lay1 (fun W' => LocE encIt W' (W.heap.size + 1) ∧ LocE encIt W' W.heap.size ∧ RdAt W' b A n cp bs p13 c13 ∧ Away b W W') ⟨HM14.out, HL14.out, HR13.out.low Qb, HA13.out.own Qb hbw⟩ ?_
 rintro w14 ⟨hM, hL, hR, hA⟩
 have HL15 := Lib.hid hL; have HR15 := Lib.hid hR; have HA15 := Lib.hid hA
 obtain ⟨y, hy⟩ := hM.range
 have HY := Lib.hid hy
 clear hy hM hL hR hA HM13 HL13 HM14 HL14 HR13 HA13 hr13 hz13 hu13_15 hf13_15 hu13_16 hf13_16 hu13_17 hf13_17 hu13_18 hf13_18
 go_wp2_with (first | ((with_reducible show wpList _ _ _ (_ :: _) _ _); refine wpList_load_mid rfl 183 (.tmp 3) rfl (W.heap.size + 1) 0 rfl (encIt y) _ HY.out Tryz.underlying183 rfl (by kernel_rfl) ?_) | ((with_reducible show wpList _ _ _ (_ :: _) _ _); refine wpList_store_lay rfl 183 (.tmp 2) (.tmp 53) rfl W.heap.size 0 (encIt y).toArray rfl rfl (HL15.out.there encIt_len) (by kernel_rfl) (all_oneCell_toArray (encIt_one y)) (fun w' => LocE encIt w' W.heap.size ∧ w'.rangeAt W.heap.size 0 (encIt y) ∧ RdAt w' b A n cp bs p13 c13 ∧ Away b W w') ⟨HL15.out.layS encIt_len y rfl, World.rangeAt_setCells_same _ _ _ _ (HL15.out.there encIt_len), HR15.out.low (Below.setCells (by omega) _ _ _ (Below.refl _ _)), HA15.out.own (Below.setCells (Nat.le_refl _) _ _ _ (Below.refl _ _)) hbw⟩ ?_; rintro w15 ⟨hL15, hY15, hR15, hA15⟩))
 refine bodyPost_ret (v := ItV y) (results_cell_mid rfl _ _ W.heap.size (encIt y) _ rfl hY15 Tryz.underlying183 rfl (by kernel_rfl)) rfl ?_
 exact ⟨_, p13, c13, rfl, ⟨y, rfl⟩, hR15, HQ13.out, HT13.out, hA15⟩
end Go.Proofs.YtkfodkbgmpbmfaaGreat
