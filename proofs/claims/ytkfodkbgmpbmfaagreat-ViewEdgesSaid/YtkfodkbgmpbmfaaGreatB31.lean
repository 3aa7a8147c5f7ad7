/- Chapter 22, parts on the way: Wv -/
import Derived.Deep.RegionLaw
import Derived.Test.YtkfodkbgmpbmfaaGreatB01
import Derived.Test.YtkfodkbgmpbmfaaGreatB29
import Derived.Test.YtkfodkbgmpbmfaaGreatB30
set_option linter.unusedVariables false
set_option linter.unusedSimpArgs false
namespace Go.Proofs.YtkfodkbgmpbmfaaGreat
open Go.RowKit Go.Shelf
set_option linter.unusedVariables false
set_option linter.unusedSimpArgs false
set_option maxRecDepth 100000
def LocX {α : Type} (enc : α → List Value) (w : World) (g : Nat) (x : α) : Prop := g < w.heap.size ∧ ∀ i u, (enc x)[i]? = some u → w.cell? ⟨g, i, none⟩ = some u ∧ w.frozen? ⟨g, i, none⟩ = false
section
variable {α : Type} {enc : α → List Value} {w w' : World} {g b n : Nat} {x : α}
theorem LocX.loc (h : LocX enc w g x) : LocE enc w g := ⟨h.1, x, h.2⟩
theorem LocX.away (h : LocX enc w g x) (hA : Away b w w') (hn : g ≠ b) : LocX enc w' g x :=
 ⟨Nat.lt_of_lt_of_le h.1 hA.low.size, fun i u hu => ⟨(hA.cell (p := ⟨g, i, none⟩) h.1 hn).trans (h.2 i u hu).1, (hA.frozen (p := ⟨g, i, none⟩) h.1 hn).trans (h.2 i u hu).2⟩⟩
theorem LocX.below {B : Nat} (h : LocX enc w g x) (hb : Below B w w') (hB : g < B) : LocX enc w' g x :=
 ⟨Nat.lt_of_lt_of_le h.1 hb.size, fun i u hu => ⟨(hb.cell (p := ⟨g, i, none⟩) hB).trans (h.2 i u hu).1, (hb.frozen (p := ⟨g, i, none⟩) hB).trans (h.2 i u hu).2⟩⟩
theorem LocE.belowB {B : Nat} (h : LocE enc w g) (hb : Below B w w') (hB : g < B) : LocE enc w' g := by
 obtain ⟨hg, x, hx⟩ := h
 exact (LocX.below (x := x) ⟨hg, hx⟩ hb hB).loc
theorem LocX.set (h : LocX enc w g x) (o : Nat) (v : Value) (x' : α) (e : enc x' = (enc x).set o v) : LocX enc (w.setCell ⟨g, o, none⟩ v) g x' := by
 obtain ⟨hg, hx⟩ := h
 refine ⟨by rw [World.size_setCell]; exact hg, fun i u hu => ?_⟩
 rw [e, List.getElem?_set] at hu
 rw [World.frozen?_setCell]
 by_cases hi : o = i
 · subst hi
   rw [if_pos rfl] at hu
   split at hu
   · rename_i hlt
     obtain rfl := Option.some.inj hu
     have h1 := hx o _ (List.getElem?_eq_getElem hlt)
     exact ⟨World.cell?_setCell_same _ _ _ h1.1, h1.2⟩
   · cases hu
 · rw [if_neg hi] at hu
   have h1 := hx i u hu
   refine ⟨(World.cell?_setCell_other w _ _ v (fun e => hi ?_)).trans h1.1, h1.2⟩
   injection e
theorem LocX.fresh (w : World) (C : Array Value) (t : TypeId) (x : α) (hC : C.toList = enc x) : LocX enc (w.alloc (.cells C t)) w.heap.size x := by
 refine ⟨by simp, fun i u hu => ⟨?_, ?_⟩⟩
 · rw [World.cell?_alloc_mark, ← hu, ← hC]
   try simp
 · rw [World.frozen?_alloc_mark]
   try simp
theorem LocX.range (h : LocX enc w g x) : w.rangeAt g 0 (enc x) := fun j v hv => by rw [Nat.zero_add]; exact (h.2 j v hv).1
theorem OwnE.away {k : Nat} {e : TypeId} {base : Nat} {v : Value} {rs : List α} (h : OwnE enc k e w base v rs) (hA : Away b w w') (hb : b < base) : OwnE enc k e w' base v rs := by
 refine ⟨h.1, ?_⟩
 rcases h.2 with hn | ⟨g, cap, cur, rfl, hg, hc, rest⟩
 · exact .inl hn
 · exact .inr ⟨g, cap, cur, rfl, hg, (hA.blk g (Array.getElem?_eq_some_iff.1 hc).1 (by omega)).trans hc, rest⟩
end
theorem encPk_one (x : Pk) : ∀ u ∈ encPk x, u.oneCell' = true := by
 intro u hu
 simp only [encPk, List.mem_cons, List.not_mem_nil, or_false] at hu
 rcases hu with rfl | rfl | rfl | rfl | rfl | rfl | rfl | rfl <;> rfl
theorem item_inf : (Tryz.prog.info? 183).map (fun i => (i.zero, i.size, i.bytes)) = some (some (.agg #[.string ⟨#[]⟩, .int .i64 0, .int .i64 0, .bool false, .int .i64 0, .int .i64 0, .int .i64 0, .int .i64 0, .int .i64 0, .bool false, .int .i64 0, .bool false, .int .i64 0, .int .i64 0, .int .i64 0, .bool false, .int .i64 0, .int .i64 0, .int .i64 0]), 19, 160) := by kernel_rfl
theorem step_app1E {P : Program} {α : Type} {enc : α → List Value} {k bytes : Nat} (hk : ∀ x, (enc x).length = k) (h1 : ∀ x, ∀ u ∈ enc x, u.oneCell' = true) (hk0 : 0 < k) {ops : Array Oper} {o : Oper} {a : Act} {w : World} {K : Act → World → Prop} {Q : Exit → Act → World → Prop} {E : Prop} (hgd : o.guard = none) (s x : Operand) (t e : TypeId)
    (ho : o.op = .call { callee := .builtin .append, args := #[s, x], argTypes := #[t, t] }) (ht : P.underlying t = some (.slice e)) {z : Value} (hi : (P.info? e).map (fun i => (i.zero, i.size, i.bytes)) = some (some z, k, bytes)) (hzs : z.cells.size = k)
    (base : Nat) (OL : List α) (A2 : Option Addr) (n2 cp2 : Nat) (hn2 : OL.length = n2) (hs : a.eval s = .slice A2 n2 cp2) (hown : OwnE enc k e w base (.slice A2 n2 cp2) OL)
    (g : Addr) (c : Nat) (hx : a.eval x = .slice (some g) 1 c) (y : α) (hr : CellsE enc w g y) (hg : g.block < w.heap.size) (h63 : n2 + 1 ≤ maxLen) (hb : (n2 + 1) * bytes ≤ 140737488355328) (hbase : base ≤ w.heap.size)
    (h : ∀ O3 A3 n3 cp3 w3, O3 = OL ++ [y] → O3.length = n3 → OwnE enc k e w3 base (.slice A3 n3 cp3) O3 → Below base w w3 → K (a.put o.dst (.slice A3 n3 cp3)) w3) :
    if Region.wanted o (yielded ops a.tmps) = true then Oper.wp P o a w K Q else E := by
 obtain ⟨i0, hi0, hz0, hz1, hz2⟩ := info_parts hi
 subst hn2
 have hr2 : Reads w w.heap.size k (some g) 1 (enc y) := ⟨by rw [hk, Nat.one_mul], fun _ => ⟨g, rfl, hg, hr⟩⟩
 refine step_append_any w hgd s x t ho base e i0 z k bytes ht hi0 hz0 hz1 hz2 hzs hk0 _ OL.length (flatE enc OL) hs hown w.heap.size (some g) 1 c (enc y) hx hr2 (h1 y) h63 hb hbase ?_
 intro v' w' hown' hg' hat'
 obtain ⟨A3, c3, rfl⟩ := row_slice' hown'
 have hbl := (row_grown hown hg' hbase).1
 have hl : (OL ++ [y]).length = OL.length + 1 := by simp
 exact h (OL ++ [y]) A3 _ c3 w' rfl hl (by unfold OwnE; rw [flatE_snoc, hl]; exact hown') hbl
theorem step_call {P : Program} {ops : Array Oper} {o : Oper} {a : Act} {w : World} {K : Act → World → Prop} {Q : Exit → Act → World → Prop} {E : Prop} {f : FuncId} {args : Array Value} (hgd : o.guard = none) (hr : (execOp a.eval o).run P w = .ok (.enter f args) w)
    (h : Calls P f args w fun e w' => ∃ v, e = .returned v ∧ K (a.put o.dst v) w') : if Region.wanted o (yielded ops a.tmps) = true then Oper.wp P o a w K Q else E := by
 have hw : Region.wanted o (yielded ops a.tmps) = true := by simp [Region.wanted, hgd]
 rw [if_pos hw]
 unfold Oper.wp
 rw [hr, Oper.upon_enter]
 refine h.mono ?_
 rintro e w' ⟨v, rfl, hk⟩
 exact hk
def rankR (n b : Nat) (w : World) : Nat := 2 * (n - (intOf ((w.cell? ⟨b, 1, none⟩).getD undef)).toNat) + if intOf ((w.cell? ⟨b, 2, none⟩).getD undef) = 0 then 1 else 0
theorem rankR_at {n b cp p : Nat} {A : Option Addr} {bs : List Int} {c : Int} {w : World} (h : RdAt w b A n cp bs p c) : rankR n b w = 2 * (n - p) + if c = 0 then 1 else 0 := by
 unfold rankR
 rw [h.c1, h.c2]
 rfl
def DcPost (w : World) (e : Ending) (w' : World) : Prop := ∃ (y : Pk) (er : Int), e = .returned (.tuple #[PkV y, .int .i64 er]) ∧ Below w.heap.size w w'
@[reducible] def Pk0 : Pk := ⟨0, 0, 0, 0, 0, 0, 0, none, 0, 0⟩
set_option maxHeartbeats 8000000 in
theorem wopen5_any (A : Option Addr) (n cp : Nat) (bs : List Int) (W : World) (hr : RowsE encY8 1 W W.heap.size A n bs) (hc : n ≤ cp) (hm : n ≤ 65535) (hg : ∀ x ∈ bs, 0 ≤ x ∧ x < 256) :
    Calls Tryz.prog 83 #[.slice A n cp] W (DcPost W) := by
 obtain ⟨p0, hp0⟩ : ∃ p, p = 0 := ⟨_, rfl⟩
 obtain ⟨c0, hc0⟩ : ∃ c : Int, c = 0 := ⟨_, rfl⟩
 have HR0 : Hid (RdAt ((W.alloc (.cells #[.int .i64 0, .int .i64 0, .int .i64 0, .int .i64 0, .int .i64 0, .int .i64 0, .int .i64 0, .slice none 0 0] 84)).alloc (.cells #[.slice A n cp, .int .i64 0, .int .i64 0] 179)) (W.heap.size + 1) A n cp bs p0 c0) := Lib.hid (by
  subst hp0 hc0
  exact ⟨by go_simp, by go_simp, by go_simp, by go_simp, by go_simp, (hr.below Qb).more (by omega), Nat.zero_le _, by omega, hc, hg⟩)
 have HL0 : Hid (LocE encPk ((W.alloc (.cells #[.int .i64 0, .int .i64 0, .int .i64 0, .int .i64 0, .int .i64 0, .int .i64 0, .int .i64 0, .slice none 0 0] 84)).alloc (.cells #[.slice A n cp, .int .i64 0, .int .i64 0] 179)) W.heap.size) := Lib.hid ((LocE.fresh (enc := encPk) W #[.int .i64 0, .int .i64 0, .int .i64 0, .int .i64 0, .int .i64 0, .int .i64 0, .int .i64 0, .slice none 0 0] 84 Pk0 rfl).below ((Below.refl _ _).alloc (Nat.le_refl _) _))
 have HM := Lib.hid hm
 have HP0 := Lib.hid hp0
 have HC0 := Lib.hid hc0
 clear hr hc hm hg hp0 hc0
 go_enter Tryz.func83, Tryz.ntmps83
 go_wp2_with (fail)
 refine (rsmall_any (W.heap.size + 1) A n cp bs p0 c0 _ (HR0.out.low Qb)).mono ?_; rintro e w1 ⟨v, p1, c1, rfl, ⟨x1, rfl⟩, hR, hpq, hlt, hA⟩
 have HR1 := Lib.hid hR
 have hs := hA.low.size
 simp at hs
 have HL1 : Hid (LocE encPk w1 W.heap.size) := Lib.hid (HL0.out.away hA (by omega))
 have HB1 : Hid (Below W.heap.size W w1) := Lib.hid ((Qb : Below W.heap.size W ((W.alloc (.cells #[.int .i64 0, .int .i64 0, .int .i64 0, .int .i64 0, .int .i64 0, .int .i64 0, .int .i64 0, .slice none 0 0] 84)).alloc (.cells #[.slice A n cp, .int .i64 0, .int .i64 0] 179))).trans (hA.low.mono (by omega)))
 have hr1 : W.heap.size + 1 < w1.heap.size := by omega
 clear hR hpq hlt hA hs
 go_wp2_with (fail)
 refine (rsmall_any (W.heap.size + 1) A n cp bs p1 c1 _ (HR1.out.low Qb)).mono ?_; rintro e w2 ⟨v, p2, c2, rfl, ⟨x2, rfl⟩, hR, hpq, hlt, hA⟩
 have HR2 := Lib.hid hR
 have HL2 : Hid (LocE encPk w2 W.heap.size) := Lib.hid ((HL1.out.below ((Below.refl _ _).alloc (Nat.le_refl _) _)).away hA (by omega))
 have HX2 : Hid (LocX encPk w2 w1.heap.size ⟨x1, 0, 0, 0, 0, 0, 0, none, 0, 0⟩) := Lib.hid ((LocX.fresh (enc := encPk) w1 #[.int .i64 x1, .int .i64 0, .int .i64 0, .int .i64 0, .int .i64 0, .int .i64 0, .int .i64 0, .slice none 0 0] 84 ⟨x1, 0, 0, 0, 0, 0, 0, none, 0, 0⟩ rfl).away hA (by omega))
 have HB2 : Hid (Below W.heap.size W w2) := Lib.hid (HB1.out.trans ((Qb : Below W.heap.size w1 _).trans (hA.low.mono (by omega))))
 have hz2 : w1.heap.size < w2.heap.size := HX2.out.1
 clear hR hpq hlt hA
 have hu2 := (HX2.out.2 1 _ rfl).1; have hf2 := (HX2.out.2 1 _ rfl).2
 go_wp2_with (fail)
 refine (rsmall_any (W.heap.size + 1) A n cp bs p2 c2 _ (HR2.out.low Qb)).mono ?_; rintro e w3 ⟨v, p3, c3, rfl, ⟨x3, rfl⟩, hR, hpq, hlt, hA⟩
 have HR3 := Lib.hid hR
 have HL3 : Hid (LocE encPk w3 W.heap.size) := Lib.hid ((HL2.out.other 1 (.int .i64 x2) (by omega)).away hA (by omega))
 have HX3 : Hid (LocX encPk w3 w1.heap.size ⟨x1, x2, 0, 0, 0, 0, 0, none, 0, 0⟩) := Lib.hid ((HX2.out.set 1 (.int .i64 x2) ⟨x1, x2, 0, 0, 0, 0, 0, none, 0, 0⟩ rfl).away hA (by omega))
 have HB3 : Hid (Below W.heap.size W w3) := Lib.hid (HB2.out.trans ((Qb : Below W.heap.size w2 _).trans (hA.low.mono (by omega))))
 have hz3 : w1.heap.size < w3.heap.size := HX3.out.1
 clear hR hpq hlt hA hu2 hf2 hz2
 have hu3 := (HX3.out.2 2 _ rfl).1; have hf3 := (HX3.out.2 2 _ rfl).2
 go_wp2_with (fail)
 refine (rwhole_any (W.heap.size + 1) A n cp bs p3 c3 _ (HR3.out.low Qb)).mono ?_; rintro e w4 ⟨v, p4, c4, rfl, ⟨x4, rfl⟩, hR, hpq, hlt, hA⟩
 have HR4 := Lib.hid hR
 have HL4 : Hid (LocE encPk w4 W.heap.size) := Lib.hid ((HL3.out.other 2 (.int .i64 x3) (by omega)).away hA (by omega))
 have HX4 : Hid (LocX encPk w4 w1.heap.size ⟨x1, x2, x3, 0, 0, 0, 0, none, 0, 0⟩) := Lib.hid ((HX3.out.set 2 (.int .i64 x3) ⟨x1, x2, x3, 0, 0, 0, 0, none, 0, 0⟩ rfl).away hA (by omega))
 have HB4 : Hid (Below W.heap.size W w4) := Lib.hid (HB3.out.trans ((Qb : Below W.heap.size w3 _).trans (hA.low.mono (by omega))))
 have hz4 : w1.heap.size < w4.heap.size := HX4.out.1
 clear hR hpq hlt hA hu3 hf3 hz3
 have hu4 := (HX4.out.2 3 _ rfl).1; have hf4 := (HX4.out.2 3 _ rfl).2
 go_wp2_with (fail)
 refine (rwhole_any (W.heap.size + 1) A n cp bs p4 c4 _ (HR4.out.low Qb)).mono ?_; rintro e w5 ⟨v, p5, c5, rfl, ⟨x5, rfl⟩, hR, hpq, hlt, hA⟩
 have HR5 := Lib.hid hR
 have HL5 : Hid (LocE encPk w5 W.heap.size) := Lib.hid ((HL4.out.other 3 (.int .i64 x4) (by omega)).away hA (by omega))
 have HX5 : Hid (LocX encPk w5 w1.heap.size ⟨x1, x2, x3, x4, 0, 0, 0, none, 0, 0⟩) := Lib.hid ((HX4.out.set 3 (.int .i64 x4) ⟨x1, x2, x3, x4, 0, 0, 0, none, 0, 0⟩ rfl).away hA (by omega))
 have HB5 : Hid (Below W.heap.size W w5) := Lib.hid (HB4.out.trans ((Qb : Below W.heap.size w4 _).trans (hA.low.mono (by omega))))
 have hz5 : w1.heap.size < w5.heap.size := HX5.out.1
 clear hR hpq hlt hA hu4 hf4 hz4
 have hu5 := (HX5.out.2 4 _ rfl).1; have hf5 := (HX5.out.2 4 _ rfl).2
 go_wp2_with (fail)
 refine (rwhole_any (W.heap.size + 1) A n cp bs p5 c5 _ (HR5.out.low Qb)).mono ?_; rintro e w6 ⟨v, p6, c6, rfl, ⟨x6, rfl⟩, hR, hpq, hlt, hA⟩
 have HR6 := Lib.hid hR
 have HL6 : Hid (LocE encPk w6 W.heap.size) := Lib.hid ((HL5.out.other 4 (.int .i64 x5) (by omega)).away hA (by omega))
 have HX6 : Hid (LocX encPk w6 w1.heap.size ⟨x1, x2, x3, x4, x5, 0, 0, none, 0, 0⟩) := Lib.hid ((HX5.out.set 4 (.int .i64 x5) ⟨x1, x2, x3, x4, x5, 0, 0, none, 0, 0⟩ rfl).away hA (by omega))
 have HB6 : Hid (Below W.heap.size W w6) := Lib.hid (HB5.out.trans ((Qb : Below W.heap.size w5 _).trans (hA.low.mono (by omega))))
 have hz6 : w1.heap.size < w6.heap.size := HX6.out.1
 clear hR hpq hlt hA hu5 hf5 hz5
 have hu6 := (HX6.out.2 5 _ rfl).1; have hf6 := (HX6.out.2 5 _ rfl).2
 go_wp2_with (fail)
 refine (rwhole_any (W.heap.size + 1) A n cp bs p6 c6 _ (HR6.out.low Qb)).mono ?_; rintro e w7 ⟨v, p7, c7, rfl, ⟨x7, rfl⟩, hR, hpq, hlt, hA⟩
 have HR7 := Lib.hid hR
 have HL7 : Hid (LocE encPk w7 W.heap.size) := Lib.hid ((HL6.out.other 5 (.int .i64 x6) (by omega)).away hA (by omega))
 have HX7 : Hid (LocX encPk w7 w1.heap.size ⟨x1, x2, x3, x4, x5, x6, 0, none, 0, 0⟩) := Lib.hid ((HX6.out.set 5 (.int .i64 x6) ⟨x1, x2, x3, x4, x5, x6, 0, none, 0, 0⟩ rfl).away hA (by omega))
 have HB7 : Hid (Below W.heap.size W w7) := Lib.hid (HB6.out.trans ((Qb : Below W.heap.size w6 _).trans (hA.low.mono (by omega))))
 have hz7 : w1.heap.size < w7.heap.size := HX7.out.1
 clear hR hpq hlt hA hu6 hf6 hz6
 have hu7 := (HX7.out.2 6 _ rfl).1; have hf7 := (HX7.out.2 6 _ rfl).2
 go_wp2_with (fail)
 refine (rwhole_any (W.heap.size + 1) A n cp bs p7 c7 _ (HR7.out.low Qb)).mono ?_; rintro e w8 ⟨v, p8, c8, rfl, ⟨x8, rfl⟩, hR, hpq, hlt, hA⟩
 have HR8 := Lib.hid hR
 have HL8 : Hid (LocE encPk w8 W.heap.size) := Lib.hid ((HL7.out.other 6 (.int .i64 x7) (by omega)).away hA (by omega))
 have HX8 : Hid (LocX encPk w8 w1.heap.size ⟨x1, x2, x3, x4, x5, x6, x7, none, 0, 0⟩) := Lib.hid ((HX7.out.set 6 (.int .i64 x7) ⟨x1, x2, x3, x4, x5, x6, x7, none, 0, 0⟩ rfl).away hA (by omega))
 have HB8 : Hid (Below W.heap.size W w8) := Lib.hid (HB7.out.trans ((Qb : Below W.heap.size w7 _).trans (hA.low.mono (by omega))))
 have hz8 : w1.heap.size < w8.heap.size := HX8.out.1
 clear hR hpq hlt hA hu7 hf7 hz7
 skip
 have HXS := Lib.hid (HX8.out)
 go_wp2
 go_loopw [7] (fun kv w' => ∃ (k : Int) (p : Nat) (c : Int) (y : Pk) (OL : List It), kv = .int .i64 k ∧ Hid (RdAt w' (W.heap.size + 1) A n cp bs p c) ∧ Hid (OL.length ≤ p + 1 ∧ (c = 0 → OL.length ≤ p)) ∧ Hid (OL.length = y.il) ∧ Hid (LocX encPk w' w1.heap.size y) ∧ Hid (LocE encPk w' W.heap.size) ∧ Hid (OwnE encIt 19 183 w' (w1.heap.size + 1) (.slice y.ia y.il y.ic) OL) ∧ Hid (Below W.heap.size W w')) (fun _ w' => rankR n (W.heap.size + 1) w')
 case atStart => exact ⟨0, p8, c8, ⟨x1, x2, x3, x4, x5, x6, x7, none, 0, 0⟩, [], rfl, HR8, Lib.hid ⟨by simp, by simp⟩, Lib.hid rfl, HX8, HL8, Lib.hid (OwnE.nil _ _ _), HB8⟩
 case round =>
  obtain ⟨k, p, c, y, OL, rfl, HR, HP, HY, HX, HL, HO, HB⟩ := hrel
  clear HR8 HL8 HX8 HB8 HXS hz8
  obtain ⟨D, hD⟩ : ∃ D, decide (k < x8) = D := ⟨_, rfl⟩
  have HRI : Hid (RowsE encIt 19 wr wr.heap.size y.ia y.il OL) := Lib.hid (by
   obtain ⟨A4, c4, e, hr⟩ := OwnE.at_ encIt_len HO.out
   injection e with e1 e2 e3
   rw [e1, e2]
   exact hr)
  have d0 := HR.out.c0
  have d1 := HR.out.c1
  have d2 := HR.out.c2
  cases D with
  | false =>
   by_cases hc : c = 0
   · subst hc
     obtain ⟨b2, hb2⟩ : ∃ b, ((p : Int) != (n : Int)) = b := ⟨_, rfl⟩
     cases b2 with
     | true =>
      go_wp2_with ((with_reducible show wpList _ _ _ (_ :: _) _ _); refine wpList_store_lay rfl 84 (.tmp 2) (.tmp 67) rfl W.heap.size 0 #[.int .i64 0, .int .i64 0, .int .i64 0, .int .i64 0, .int .i64 0, .int .i64 0, .int .i64 0, .slice none 0 0] rfl rfl (HL.out.there encPk_len) (by kernel_rfl) (by kernel_rfl) (fun w' => w'.rangeAt W.heap.size 0 (encPk Pk0) ∧ Below W.heap.size W w') ⟨World.rangeAt_setCells_same _ _ _ _ (HL.out.there encPk_len), Below.setCells (Nat.le_refl _) _ _ _ HB.out⟩ ?_; rintro wz ⟨hYz, hBz⟩)
      refine bodyPost_ret (results_cell_mid2 (p := 2) (u := 3) (ty := 84) rfl _ _ W.heap.size (encPk Pk0) _ rfl hYz Tryz.underlying84 rfl (by kernel_rfl)) rfl ⟨Pk0, 20, rfl, hBz⟩
     | false =>
      go_wp2_with ((with_reducible show wpList _ _ _ (_ :: _) _ _); refine wpList_load_mid rfl 84 (.tmp 5) rfl w1.heap.size 0 rfl (encPk y) _ HX.out.range Tryz.underlying84 rfl (by kernel_rfl) ?_)
      refine (wfit_any y OL _ HRI.out).mono ?_; rintro e w9 ⟨bb, rfl, -, hb9⟩
      have HL9 := Lib.hid (HL.out.below hb9)
      have HX9 := Lib.hid (HX.out.below hb9 HX.out.1)
      have HB9 : Hid (Below W.heap.size W w9) := Lib.hid (HB.out.trans (hb9.mono HB.out.size))
      clear hb9
      cases bb with
      | false =>
       go_wp2_with ((with_reducible show wpList _ _ _ (_ :: _) _ _); refine wpList_store_lay rfl 84 (.tmp 2) (.tmp 71) rfl W.heap.size 0 #[.int .i64 0, .int .i64 0, .int .i64 0, .int .i64 0, .int .i64 0, .int .i64 0, .int .i64 0, .slice none 0 0] rfl rfl (HL9.out.there encPk_len) (by kernel_rfl) (by kernel_rfl) (fun w' => w'.rangeAt W.heap.size 0 (encPk Pk0) ∧ Below W.heap.size W w') ⟨World.rangeAt_setCells_same _ _ _ _ (HL9.out.there encPk_len), Below.setCells (Nat.le_refl _) _ _ _ HB9.out⟩ ?_; rintro wz ⟨hYz, hBz⟩)
       refine bodyPost_ret (results_cell_mid2 (p := 2) (u := 3) (ty := 84) rfl _ _ W.heap.size (encPk Pk0) _ rfl hYz Tryz.underlying84 rfl (by kernel_rfl)) rfl ⟨Pk0, 54, rfl, hBz⟩
      | true =>
       go_wp2_with (first | ((with_reducible show wpList _ _ _ (_ :: _) _ _); refine wpList_load_mid rfl 84 (.tmp 5) rfl w1.heap.size 0 rfl (encPk y) _ HX9.out.range Tryz.underlying84 rfl (by kernel_rfl) ?_) | ((with_reducible show wpList _ _ _ (_ :: _) _ _); refine wpList_store_lay rfl 84 (.tmp 2) (.tmp 72) rfl W.heap.size 0 (encPk y).toArray rfl rfl (HL9.out.there encPk_len) (by kernel_rfl) (all_oneCell_toArray (encPk_one y)) (fun w' => w'.rangeAt W.heap.size 0 (encPk y) ∧ Below W.heap.size W w') ⟨World.rangeAt_setCells_same _ _ _ _ (HL9.out.there encPk_len), Below.setCells (Nat.le_refl _) _ _ _ HB9.out⟩ ?_; rintro wz ⟨hYz, hBz⟩))
       refine bodyPost_ret (results_cell_mid2 (p := 2) (u := 3) (ty := 84) rfl _ _ W.heap.size (encPk y) _ rfl hYz Tryz.underlying84 rfl (by kernel_rfl)) rfl ⟨y, 0, rfl, hBz⟩
   · have q1 : (c == 0) = false := by simpa using hc
     have q2 : (c != 0) = true := by simpa using hc
     clear hc
     go_wp2_with ((with_reducible show wpList _ _ _ (_ :: _) _ _); refine wpList_store_lay rfl 84 (.tmp 2) (.tmp 67) rfl W.heap.size 0 #[.int .i64 0, .int .i64 0, .int .i64 0, .int .i64 0, .int .i64 0, .int .i64 0, .int .i64 0, .slice none 0 0] rfl rfl (HL.out.there encPk_len) (by kernel_rfl) (by kernel_rfl) (fun w' => w'.rangeAt W.heap.size 0 (encPk Pk0) ∧ Below W.heap.size W w') ⟨World.rangeAt_setCells_same _ _ _ _ (HL.out.there encPk_len), Below.setCells (Nat.le_refl _) _ _ _ HB.out⟩ ?_; rintro wz ⟨hYz, hBz⟩)
     refine bodyPost_ret (results_cell_mid2 (p := 2) (u := 3) (ty := 84) rfl _ _ W.heap.size (encPk Pk0) _ rfl hYz Tryz.underlying84 rfl (by kernel_rfl)) rfl ⟨Pk0, 20, rfl, hBz⟩
  | true =>
   by_cases hc : c = 0
   rotate_left
   · have q1 : (c == 0) = false := by simpa using hc
     have q2 : (c != 0) = true := by simpa using hc
     clear hc
     go_wp2_with ((with_reducible show wpList _ _ _ (_ :: _) _ _); refine wpList_store_lay rfl 84 (.tmp 2) (.tmp 67) rfl W.heap.size 0 #[.int .i64 0, .int .i64 0, .int .i64 0, .int .i64 0, .int .i64 0, .int .i64 0, .int .i64 0, .slice none 0 0] rfl rfl (HL.out.there encPk_len) (by kernel_rfl) (by kernel_rfl) (fun w' => w'.rangeAt W.heap.size 0 (encPk Pk0) ∧ Below W.heap.size W w') ⟨World.rangeAt_setCells_same _ _ _ _ (HL.out.there encPk_len), Below.setCells (Nat.le_refl _) _ _ _ HB.out⟩ ?_; rintro wz ⟨hYz, hBz⟩)
     refine bodyPost_ret (results_cell_mid2 (p := 2) (u := 3) (ty := 84) rfl _ _ W.heap.size (encPk Pk0) _ rfl hYz Tryz.underlying84 rfl (by kernel_rfl)) rfl ⟨Pk0, 20, rfl, hBz⟩
   subst hc
   have hRd := HR.out
   obtain ⟨c0', c1', c2', f1', f2', -, hle', -, -, -⟩ := hRd
   have u7 := (HX.out.2 7 _ rfl).1
   have f7 := (HX.out.2 7 _ rfl).2
   have hz : w1.heap.size < wr.heap.size := HX.out.1
   have hbr : W.heap.size + 1 < wr.heap.size := by omega
   have HN1 : Hid (y.il + 1 ≤ maxLen) := Lib.hid (by have h1 := HP.out.1; have h2 := HY.out; have h3 := HM.out; have h4 := HR.out.le; simp only [maxLen]; omega)
   have HN2 : Hid ((y.il + 1) * 160 ≤ 140737488355328) := Lib.hid (by have h1 := HP.out.1; have h2 := HY.out; have h3 := HM.out; have h4 := HR.out.le; omega)
   have HS : Hid (W.heap.size + 1 < wr.heap.size ∧ w1.heap.size < wr.heap.size) := Lib.hid ⟨hbr, hz⟩
   obtain ⟨kd, frm, dst, boot, life, echo, elife, ia, il, ic⟩ := y
   simp only [] at u7 f7 HY HN1 HN2 HO HX
   clear c0' c1' f1' f2' hle'
   go_wp2_with (fail)
   go_region_law (first
    | (refine step_app1E encIt_len encIt_one (by decide) rfl (.tmp 47) (.tmp 50) 82 183 rfl Tryz.underlying82 item_inf rfl (w1.heap.size + 1) OL ia il ic HY.out rfl (by exact HO9.out.below ((Below.refl _ _).alloc (Nat.le_refl _) _)) ⟨w9.heap.size, 0, none⟩ 1 rfl x9 (fun i u hu => by have h := ((LocX.fresh (enc := encIt) w9 (encIt x9).toArray 183 x9 rfl).2 i u hu).1; rw [Addr.add_lit, Nat.zero_add]; exact h) (by simp) HN1.out HN2.out (by simp; omega) ?_; rintro O3 A3 n3 cp3 w3 hO3 hn3 hown3 hb3; have HO3 := Lib.hid hO3; have HN3 := Lib.hid hn3; have HW3 := Lib.hid hown3; have HB3 : Hid (Below (w1.heap.size + 1) w9 w3) := Lib.hid ((Qb : Below (w1.heap.size + 1) w9 _).trans hb3); clear hO3 hn3 hown3 hb3; have u3 := (HB3.out.cell (p := ⟨w1.heap.size, 7, none⟩) (Nat.lt_succ_self _)).trans u9; have g3 := (HB3.out.frozen (p := ⟨w1.heap.size, 7, none⟩) (Nat.lt_succ_self _)).trans g9)
    | (refine step_call (f := 119) (args := #[.pointer (some ⟨(W.heap.size + 1), 0, none⟩)]) rfl (by go_simp) ((ritem_any (W.heap.size + 1) A n cp bs p 0 _ (HR.out.below Qb)).mono ?_); rintro e w9 ⟨v, p9, c9, rfl, ⟨x9, rfl⟩, hR9, hpq9, hlt9, hA9⟩; refine ⟨_, rfl, ?_⟩; have HA9 : Hid (Away (W.heap.size + 1) wr w9) := Lib.hid ((Away.of (b := (W.heap.size + 1)) (Qb : Below wr.heap.size wr _) HS.out.1).trans hA9); have HR9 := Lib.hid hR9; have HQ9 := Lib.hid (And.intro hpq9 hlt9); clear hR9 hpq9 hlt9 hA9; have u9 := (HA9.out.cell (p := ⟨w1.heap.size, 7, none⟩) HS.out.2 (by simp only []; omega)).trans u7; have g9 := (HA9.out.frozen (p := ⟨w1.heap.size, 7, none⟩) HS.out.2 (by simp only []; omega)).trans f7; have HO9 := Lib.hid (HO.out.away HA9.out (by omega)); have hz9 : w1.heap.size < w9.heap.size := Nat.lt_of_lt_of_le HS.out.2 HA9.out.low.size))
   all_goals
    have HX3 : Hid (LocX encPk (w3.setCell ⟨w1.heap.size, 7, none⟩ (.slice A3 n3 cp3)) w1.heap.size ⟨kd, frm, dst, boot, life, echo, elife, A3, n3, cp3⟩) := Lib.hid (((HX.out.away HA9.out (by omega)).below HB3.out (Nat.lt_succ_self _)).set 7 _ _ rfl)
    have HR3 : Hid (RdAt (w3.setCell ⟨w1.heap.size, 7, none⟩ (.slice A3 n3 cp3)) (W.heap.size + 1) A n cp bs p9 c9) := Lib.hid (HR9.out.low ((HB3.out.mono (by omega)).setCell (p := ⟨w1.heap.size, 7, none⟩) (by simp only []; omega) _))
    have HW4 : Hid (OwnE encIt 19 183 (w3.setCell ⟨w1.heap.size, 7, none⟩ (.slice A3 n3 cp3)) (w1.heap.size + 1) (.slice A3 n3 cp3) O3) := Lib.hid (HW3.out.setc' (by simp only []; omega) _)
    have HL3 : Hid (LocE encPk (w3.setCell ⟨w1.heap.size, 7, none⟩ (.slice A3 n3 cp3)) W.heap.size) := Lib.hid (((HL.out.away HA9.out (by omega)).belowB HB3.out (by omega)).other 7 _ (by omega))
    have HBN : Hid (Below W.heap.size W (w3.setCell ⟨w1.heap.size, 7, none⟩ (.slice A3 n3 cp3))) := Lib.hid (((HB.out.trans (HA9.out.low.mono (by omega))).trans (HB3.out.mono (by omega))).setCell (p := ⟨w1.heap.size, 7, none⟩) (by simp only []; omega) _)
    have HP3 : Hid (O3.length ≤ p9 + 1 ∧ (c9 = 0 → O3.length ≤ p9)) := Lib.hid (by
     have h1 := HP.out.2 (by first | rfl | trivial)
     have h2 := HQ9.out
     have h3 : O3.length = OL.length + 1 := by rw [HO3.out]; simp
     refine ⟨by omega, fun h => ?_⟩
     have := h2.2 h
     omega)
    have HM3 : Hid (rankR n (W.heap.size + 1) (w3.setCell ⟨w1.heap.size, 7, none⟩ (.slice A3 n3 cp3)) < rankR n (W.heap.size + 1) wr) := Lib.hid (by
     rw [rankR_at HR3.out, rankR_at HR.out]
     have h2 := HQ9.out
     have h3 := HR3.out.le
     have h4 := HR.out.le
     by_cases h : c9 = 0
     · have := h2.2 h
       rw [if_pos h, if_pos rfl]
       omega
     · rw [if_neg h, if_pos rfl]
       omega)
    go_wp2
    go_roundw
    case rel => exact ⟨_, p9, c9, ⟨kd, frm, dst, boot, life, echo, elife, A3, n3, cp3⟩, O3, rfl, HR3, HP3, HN3, HX3, HL3, HW4, HBN⟩
    case measure => exact HM3.out
set_option maxHeartbeats 8000000 in
theorem wdecode_any (A : Option Addr) (n cp : Nat) (bs : List Int) (W : World) (hr : RowsE encY8 1 W W.heap.size A n bs) (hc : n ≤ cp) (hm : n ≤ 140737488351232) (hg : ∀ x ∈ bs, 0 ≤ x ∧ x < 256) :
    Calls Tryz.prog 42 #[.slice A n cp] W (DcPost W) := by
 have HL0 : Hid (LocE encPk (W.alloc (.cells #[.int .i64 0, .int .i64 0, .int .i64 0, .int .i64 0, .int .i64 0, .int .i64 0, .int .i64 0, .slice none 0 0] 84)) W.heap.size) := Lib.hid (LocE.fresh (enc := encPk) W #[.int .i64 0, .int .i64 0, .int .i64 0, .int .i64 0, .int .i64 0, .int .i64 0, .int .i64 0, .slice none 0 0] 84 Pk0 rfl)
 have C := Lib.hid (wopen_any A n cp bs (W.alloc (.cells #[.int .i64 0, .int .i64 0, .int .i64 0, .int .i64 0, .int .i64 0, .int .i64 0, .int .i64 0, .slice none 0 0] 84)) ((hr.below ((Below.refl _ _).alloc (Nat.le_refl _) _)).more (by simp)) hc hm hg)
 clear hr hc hm hg
 go_enter Tryz.func42, Tryz.ntmps42
 go_wp2_with (fail)
 refine C.out.mono ?_; rintro e w1 ⟨A1, m, c1, q, er, bs1, rfl, hok, hb1⟩
 have HOK := Lib.hid hok
 have HL1 := Lib.hid (HL0.out.below hb1)
 have HB1 : Hid (Below W.heap.size W w1) := Lib.hid ((Qb : Below W.heap.size W (W.alloc (.cells #[.int .i64 0, .int .i64 0, .int .i64 0, .int .i64 0, .int .i64 0, .int .i64 0, .int .i64 0, .slice none 0 0] 84))).trans (hb1.mono (by simp)))
 clear hok hb1 C HL0
 by_cases he : er = 0
 rotate_left
 · have q0 : (er != 0) = true := by simpa using he
   clear he
   go_wp2_with ((with_reducible show wpList _ _ _ (_ :: _) _ _); refine wpList_store_lay rfl 84 (.tmp 2) (.tmp 15) rfl W.heap.size 0 #[.int .i64 0, .int .i64 0, .int .i64 0, .int .i64 0, .int .i64 0, .int .i64 0, .int .i64 0, .slice none 0 0] rfl rfl (HL1.out.there encPk_len) (by kernel_rfl) (by kernel_rfl) (fun w' => w'.rangeAt W.heap.size 0 (encPk Pk0) ∧ Below W.heap.size W w') ⟨World.rangeAt_setCells_same _ _ _ _ (HL1.out.there encPk_len), Below.setCells (Nat.le_refl _) _ _ _ HB1.out⟩ ?_; rintro wz ⟨hYz, hBz⟩)
   refine bodyPost_ret (results_cell_mid2 (p := 2) (u := 3) (ty := 84) rfl _ _ W.heap.size (encPk Pk0) _ rfl hYz Tryz.underlying84 rfl (by kernel_rfl)) rfl ⟨Pk0, er, rfl, hBz⟩
 subst he
 obtain ⟨hm1, hr1, hc1, hg1⟩ := HOK.out rfl
 have C2 := Lib.hid (wopen5_any A1 m c1 bs1 w1 hr1 hc1 hm1 hg1)
 clear hm1 hr1 hc1 hg1 HOK
 obtain ⟨b2, hb2⟩ : ∃ b, (q != (n : Int)) = b := ⟨_, rfl⟩
 cases b2 with
 | true =>
  go_wp2_with ((with_reducible show wpList _ _ _ (_ :: _) _ _); refine wpList_store_lay rfl 84 (.tmp 2) (.tmp 21) rfl W.heap.size 0 #[.int .i64 0, .int .i64 0, .int .i64 0, .int .i64 0, .int .i64 0, .int .i64 0, .int .i64 0, .slice none 0 0] rfl rfl (HL1.out.there encPk_len) (by kernel_rfl) (by kernel_rfl) (fun w' => w'.rangeAt W.heap.size 0 (encPk Pk0) ∧ Below W.heap.size W w') ⟨World.rangeAt_setCells_same _ _ _ _ (HL1.out.there encPk_len), Below.setCells (Nat.le_refl _) _ _ _ HB1.out⟩ ?_; rintro wz ⟨hYz, hBz⟩)
  refine bodyPost_ret (results_cell_mid2 (p := 2) (u := 3) (ty := 84) rfl _ _ W.heap.size (encPk Pk0) _ rfl hYz Tryz.underlying84 rfl (by kernel_rfl)) rfl ⟨Pk0, 20, rfl, hBz⟩
 | false =>
  go_wp2_with (fail)
  refine C2.out.mono ?_; rintro e w2 ⟨y, er, rfl, hb2'⟩
  have HL2 := Lib.hid (HL1.out.below hb2')
  have HB2 : Hid (Below W.heap.size W w2) := Lib.hid (HB1.out.trans (hb2'.mono HB1.out.size))
  clear hb2' C2
  go_wp2_with ((with_reducible show wpList _ _ _ (_ :: _) _ _); refine wpList_store_lay rfl 84 (.tmp 2) (.tmp 24) rfl W.heap.size 0 (encPk y).toArray rfl rfl (HL2.out.there encPk_len) (by kernel_rfl) (all_oneCell_toArray (encPk_one y)) (fun w' => w'.rangeAt W.heap.size 0 (encPk y) ∧ Below W.heap.size W w') ⟨World.rangeAt_setCells_same _ _ _ _ (HL2.out.there encPk_len), Below.setCells (Nat.le_refl _) _ _ _ HB2.out⟩ ?_; rintro wz ⟨hYz, hBz⟩)
  refine bodyPost_ret (results_cell_mid2 (p := 2) (u := 3) (ty := 84) rfl _ _ W.heap.size (encPk y) _ rfl hYz Tryz.underlying84 rfl (by kernel_rfl)) rfl ⟨y, er, rfl, hBz⟩
end Go.Proofs.YtkfodkbgmpbmfaaGreat
