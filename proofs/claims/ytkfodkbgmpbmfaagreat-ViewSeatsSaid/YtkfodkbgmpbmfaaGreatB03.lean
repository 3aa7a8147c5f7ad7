/- Chapter 22, parts on the way: DirL DirM DirK DirW Ext ExtB Row St -/
import Derived.Maps.AppendAt
import Derived.Test.YtkfodkbgmpbmfaaGreatRows
import Derived.WalkKit
import Derived.WalkSpells
import Derived.WalkLawsBesides
import Derived.Deep.QuietTactic
import Derived.BigQuiet
import Derived.Deep.RegionHeld3
import Derived.Laws.EntriesVeiled
import Derived.Lib.Hide
import Derived.Outline
import Derived.Laws.IdiomCopy
import Derived.RowKit
import Derived.Test.YtkfodkbgmpbmfaaGreatB01
import Derived.Test.YtkfodkbgmpbmfaaGreatB02
set_option linter.unusedVariables false
set_option linter.unusedSimpArgs false
namespace Go.Proofs.YtkfodkbgmpbmfaaGreat
open Go.RowKit Go.Shelf
set_option linter.unusedVariables false
attribute [local go_sem] Oper.semAt_some
theorem cells_new (W : World) (c : Ch) : ∀ (j : Nat) (u : Value), (chV c)[j]? = some u → (W.alloc (Obj.cells #[.string c.name, .int .i64 c.ep, .int .i64 c.who, .bool c.al, .int .i64 c.kd, .int .i64 c.sc] 34)).cell? ((⟨W.heap.size, 0, none⟩ : Addr).add j) = some u := by
 intro j u hu
 have hj : j < 6 := by have := (List.getElem?_eq_some_iff.1 hu).1; simpa [chV] using this
 rw [Addr.add_lit]
 match j, hj with
 | 0, _ | 1, _ | 2, _ | 3, _ | 4, _ | 5, _ => simp [chV] at hu; subst hu; go_simp
theorem row_grown {W w1 : World} {base : Nat} {e : TypeId} {size : Nat} {v : Value} {n : Nat} {xs : List Value} (h : W.ownsRow base e size v n xs) (hg : W.grownBy w1 v.ownBlock) (hb : base ≤ W.heap.size) : Below base W w1 ∧ KeepsOthers W w1 := by
 refine ⟨(Below.refl base W).grown hg hb fun j ej => ?_, KeepsOthers.of_grownBy hg fun j o ej hj => ?_⟩
 · rcases h.2 with ⟨rfl, _⟩ | ⟨g, cap, cur, rfl, hb, _⟩
   · simp [Value.ownBlock] at ej
   · obtain rfl : g = j := by simpa [Value.ownBlock] using ej
     exact hb
 · rcases h.2 with ⟨rfl, _⟩ | ⟨g, cap, cur, rfl, _, hgb, _⟩
   · simp [Value.ownBlock] at ej
   · obtain rfl : g = j := by simpa [Value.ownBlock] using ej
     rw [hgb] at hj; cases hj; rfl
end Go.Proofs.YtkfodkbgmpbmfaaGreat
namespace Go.Proofs.YtkfodkbgmpbmfaaGreat
set_option linter.unusedVariables false
theorem bl_nil (a : List UInt8) : Op.bytesLess a [] = false := by cases a <;> rfl
theorem bl_cons (a b : UInt8) (x y : List UInt8) : Op.bytesLess (a :: x) (b :: y) = (decide (a < b) || (a == b && Op.bytesLess x y)) := rfl
theorem bl_irrefl : ∀ a : List UInt8, Op.bytesLess a a = false
 | [] => rfl
 | a :: x => by rw [bl_cons, bl_irrefl x]; simp
theorem bl_trans : ∀ a b c : List UInt8, Op.bytesLess a b = true → Op.bytesLess b c = true → Op.bytesLess a c = true
 | _, _, [] => fun _ h => by rw [bl_nil] at h; cases h
 | _, [], _ :: _ => fun h _ => by rw [bl_nil] at h; cases h
 | [], _ :: _, _ :: _ => fun _ _ => rfl
 | a :: x, b :: y, c :: z => by
  intro h1 h2
  rw [bl_cons] at *
  simp only [Bool.or_eq_true, decide_eq_true_eq, Bool.and_eq_true, beq_iff_eq] at *
  rcases h1 with h1 | ⟨rfl, h1⟩
  · rcases h2 with h2 | ⟨rfl, h2⟩
    · exact .inl (UInt8.lt_trans h1 h2)
    · exact .inl h1
  · rcases h2 with h2 | ⟨rfl, h2⟩
    · exact .inl h2
    · exact .inr ⟨rfl, bl_trans x y z h1 h2⟩
theorem bl_total : ∀ a b : List UInt8, Op.bytesLess a b = false → Op.bytesLess b a = false → a = b
 | [], [], _, _ => rfl
 | [], _ :: _, h, _ => by cases h
 | _ :: _, [], _, h => by cases h
 | a :: x, b :: y, h1, h2 => by
  rw [bl_cons] at h1 h2
  simp only [Bool.or_eq_false_iff, decide_eq_false_iff_not, Bool.and_eq_false_iff, beq_eq_false_iff_ne] at h1 h2
  have hab : a = b := by
   have e1 := h1.1; have e2 := h2.1
   rw [UInt8.lt_iff_toNat_lt] at e1 e2
   exact UInt8.toNat_inj.1 (by omega)
  subst hab
  rw [bl_total x y (h1.2.resolve_left (by simp)) (h2.2.resolve_left (by simp))]
theorem ltN_trans {a b c : ByteArray} (h1 : ltN a b = true) (h2 : ltN b c = true) : ltN a c = true := bl_trans _ _ _ h1 h2
def eqN (a b : ByteArray) : Bool := a.toList == b.toList
theorem eqN_iff {a b : ByteArray} : eqN a b = true ↔ a.toList = b.toList := by unfold eqN; exact beq_iff_eq
theorem ltN_total {a b : ByteArray} (h1 : ltN a b = false) (h2 : ltN b a = false) : eqN a b = true := eqN_iff.2 (bl_total _ _ h1 h2)
theorem ltN_eqN {a b : ByteArray} (h : ltN a b = true) : eqN a b = false := by
 cases h2 : eqN a b with
 | false => rfl
 | true => have h3 := eqN_iff.1 h2; unfold ltN at h; rw [h3, bl_irrefl] at h; cases h
theorem eqN_comm (a b : ByteArray) : eqN a b = eqN b a := by
 unfold eqN; rw [Bool.eq_iff_iff, beq_iff_eq, beq_iff_eq]; exact eq_comm
def putS (c : Ch) (st : List Ch × Bool) (x : Ch) : List Ch × Bool :=
 let s1 := if (!st.2 && !ltN x.name c.name) = true then (st.1 ++ [c], true) else st
 if eqN x.name c.name = true then s1 else (s1.1 ++ [x], s1.2)
theorem fit_of_fits {ls : List Ch} (h : fitsB ls = true) : ls.length ≤ 8 ∧ ∀ c ∈ ls, chFit c.name c.ep c.who c.kd c.sc = true := by
 unfold fitsB at h
 simp only [Bool.and_eq_true, List.all_eq_true, List.mem_range, decide_eq_true_eq] at h
 refine ⟨h.1, fun c hc => ?_⟩
 obtain ⟨i, hi, rfl⟩ := List.getElem_of_mem hc
 have := h.2 i hi
 cases i with
 | zero => rwa [okAt_zero (List.getElem?_eq_getElem hi)] at this
 | succ j =>
  rw [okAt_succ (List.getElem?_eq_getElem hi) (List.getElem?_eq_getElem (by omega))] at this
  exact (Bool.and_eq_true _ _ ▸ this).1
end Go.Proofs.YtkfodkbgmpbmfaaGreat
namespace Go.Proofs.YtkfodkbgmpbmfaaGreat
open Go.RowKit
set_option linter.unusedVariables false
theorem row_low {W : World} {base : Nat} {e : TypeId} {size : Nat} {v : Value} {n : Nat} {xs : List Value} (h : W.ownsRow base e size v n xs) {B : Nat} {W' : World} (hb : Below B W W') (hB : W.heap.size ≤ B) : W'.ownsRow base e size v n xs := by
 refine ⟨h.1, ?_⟩
 rcases h.2 with hn | ⟨g, cap, cur, hv, hb', hgb, rest⟩
 · exact .inl hn
 · exact .inr ⟨g, cap, cur, hv, hb', (hb.block g (Nat.lt_of_lt_of_le (Array.getElem?_eq_some_iff.1 hgb).1 hB)).trans hgb, rest⟩
end Go.Proofs.YtkfodkbgmpbmfaaGreat
namespace Go.Proofs.YtkfodkbgmpbmfaaGreat
open Go.RowKit
set_option linter.unusedVariables false
theorem below_drewN {B : Nat} {a w : World} (h : Below B a w) (n : Nat) : Below B a (w.drewN n) := ⟨h.os, h.tape, h.output, h.size, h.block⟩
theorem wpList_app1 {w : World} {ops : Array Oper} {rest : List Oper} {o : Oper} {a : Act} {Q : Exit → Act → World → Prop} (hgd : o.guard = none) (s x : Operand)
    (ho : o.op = .call { callee := .builtin .append, args := #[s, x], argTypes := #[171, 171] }) (base : Nat) (OL : List Ch) (A : Option Addr) (cp : Nat) (hs : a.eval s = .slice A OL.length cp)
    (hown : w.ownsRow base 34 6 (.slice A OL.length cp) OL.length (flatC OL)) (ad : Addr) (m : Nat) (hx : a.eval x = .slice (some ad) 1 m) (c : Ch) (hc : ∀ j u, (chV c)[j]? = some u → w.cell? (ad.add j) = some u)
    (hm : OL.length < 2513169434850) (hbase : base ≤ w.heap.size)
    (h : ∀ OL' A' cp' w', OL' = OL ++ [c] → w'.ownsRow base 34 6 (.slice A' OL'.length cp') OL'.length (flatC OL') → Below base w w' → wpList Tryz.prog ops Q rest (a.put o.dst (.slice A' OL'.length cp')) w') :
    wpList Tryz.prog ops Q (o :: rest) a w := by
 obtain ⟨i0, hi0, hz0, hz1, hz2⟩ := info_parts chan_inf
 refine wpList_append_own_at w hgd s x _ ho base 34 i0 _ 6 56 Tryz.underlying171 hi0 hz0 hz1 hz2 rfl (by omega) _ _ _ hs hown ad 1 m (chV c) hx rfl hc (chV_one c) (by simp only [maxLen]; omega) (by omega) hbase ?_
 intro v' w' h1 h2 _ _
 obtain ⟨hb, _⟩ := row_grown hown h2 hbase
 rw [← flatC_snoc, show OL.length + 1 = (OL ++ [c]).length by simp] at h1
 obtain ⟨A', cp', rfl⟩ := row_slice h1
 exact h _ A' cp' w' rfl h1 hb
end Go.Proofs.YtkfodkbgmpbmfaaGreat
namespace Go.Proofs.YtkfodkbgmpbmfaaGreat
open Go.RowKit Go.BigFrame

structure E where
 has : Bool
 val : Int
 org : Int
 age : Int
deriving DecidableEq
@[reducible] def E0 : E := ⟨false, 0, 0, 0⟩
def flowB (x : Int) : Bool := decide (-2147483647 ≤ x) && decide (x ≤ 2147483647)
def efitB (h : Bool) (v o a : Int) : Bool :=
 if h then flowB v && decide (0 ≤ o) && decide (o < 16) && decide (0 ≤ a) && decide (a < 64) else decide (v = 0) && decide (o = 0) && decide (a = 0)
end Go.Proofs.YtkfodkbgmpbmfaaGreat
namespace Go.Proofs.YtkfodkbgmpbmfaaGreat
open Go.RowKit Go.BigFrame
set_option maxHeartbeats 2000000 in
theorem erfit_any (h : Bool) (v o a : Int) (w : World) :
    Calls Tryz.prog 115 #[.agg #[.bool h, .int .i64 v, .int .i64 o, .int .i64 a]] w fun e w' => e = .returned (.bool (efitB h v o a)) ∧ Below w.heap.size w w' := by
 cases h
 all_goals
  go_enter Tryz.func115, Tryz.ntmps115
  go_wp2
  all_goals go_ret
  all_goals exact ⟨by simp_all [efitB, flowB] <;> omega, Qb⟩
end Go.Proofs.YtkfodkbgmpbmfaaGreat
namespace Go.Proofs.YtkfodkbgmpbmfaaGreat
open Go.RowKit
set_option linter.unusedVariables false
def flatE {α : Type} (enc : α → List Value) (xs : List α) : List Value := xs.flatMap enc
def CellsE {α : Type} (enc : α → List Value) (w : World) (p : Addr) (x : α) : Prop := ∀ i u, (enc x)[i]? = some u → w.cell? (p.add i) = some u
def RowsE {α : Type} (enc : α → List Value) (k : Nat) (w : World) (B : Nat) (A : Option Addr) (n : Nat) (rs : List α) : Prop :=
 rs.length = n ∧ (0 < n → ∃ ad, A = some ad ∧ ad.block < B ∧ ∀ j x, rs[j]? = some x → CellsE enc w (ad.add (j * k)) x)
def OwnE {α : Type} (enc : α → List Value) (k : Nat) (e : TypeId) (w : World) (base : Nat) (v : Value) (rs : List α) : Prop := w.ownsRow base e k v rs.length (flatE enc rs)
def RowE {α : Type} (enc : α → List Value) (k : Nat) (w : World) (ad : Addr) (n : Nat) (R : Nat → α) : Prop := ∀ t, t < n → CellsE enc w (ad.add (t * k)) (R t) ∧ ∀ i, i < k → w.frozen? ((ad.add (t * k)).add i) = false
theorem row_slice' {W : World} {base : Nat} {e : TypeId} {size : Nat} {v : Value} {n : Nat} {xs : List Value} (h : W.ownsRow base e size v n xs) : ∃ A c, v = .slice A n c := by
 rcases h.2 with ⟨rfl, rfl⟩ | ⟨g, cap, cur, rfl, _⟩
 · exact ⟨none, 0, rfl⟩
 · exact ⟨_, _, rfl⟩
section
variable {α : Type} {k : Nat} {enc : α → List Value}
theorem flatE_snoc (xs : List α) (x : α) : flatE enc (xs ++ [x]) = flatE enc xs ++ enc x := by unfold flatE; simp
theorem flatE_one (h1 : ∀ x, ∀ u ∈ enc x, u.oneCell' = true) (xs : List α) : ∀ u ∈ flatE enc xs, u.oneCell' = true := by
 intro u hu
 obtain ⟨c, _, h⟩ := List.mem_flatMap.1 hu
 exact h1 c u h
theorem flatE_len (hk : ∀ x, (enc x).length = k) (xs : List α) : (flatE enc xs).length = xs.length * k := by
 induction xs with
 | nil => simp [flatE]
 | cons c cs ih =>
  have : flatE enc (c :: cs) = enc c ++ flatE enc cs := rfl
  rw [this, List.length_append, ih, hk, List.length_cons, Nat.add_mul]
  omega
theorem flatE_at (hk : ∀ x, (enc x).length = k) : ∀ (xs : List α) (j i : Nat), i < k → (flatE enc xs)[j * k + i]? = (xs[j]?).bind fun c => (enc c)[i]? := by
 intro xs
 induction xs with
 | nil => intro j i hi; simp [flatE]
 | cons c cs ih =>
  intro j i hi
  have hd : flatE enc (c :: cs) = enc c ++ flatE enc cs := rfl
  have hl := hk c
  rw [hd]
  cases j with
  | zero =>
   rw [List.getElem?_append_left (by omega)]
   simp
  | succ j =>
   have e : (j + 1) * k + i = k + (j * k + i) := by rw [Nat.add_mul]; omega
   rw [e, List.getElem?_append_right (by omega), hl, show k + (j * k + i) - k = j * k + i by omega, ih j i hi]
   simp
theorem CellsE.below {w w' : World} {B : Nat} {p : Addr} {x : α} (h : CellsE enc w p x) (hp : p.block < B) (hb : Below B w w') : CellsE enc w' p x := fun i u hu => (hb.cell (by rw [block_of_add]; exact hp)).trans (h i u hu)
theorem RowsE.below {w w' : World} {B n : Nat} {A : Option Addr} {rs : List α} (h : RowsE enc k w B A n rs) (hb : Below B w w') : RowsE enc k w' B A n rs :=
 ⟨h.1, fun hn => by
  obtain ⟨ad, e, hB, hc⟩ := h.2 hn
  exact ⟨ad, e, hB, fun j x hx => (hc j x hx).below (by rw [block_of_add]; exact hB) hb⟩⟩
theorem RowsE.more {w : World} {B B' n : Nat} {A : Option Addr} {rs : List α} (h : RowsE enc k w B A n rs) (hB : B ≤ B') : RowsE enc k w B' A n rs :=
 ⟨h.1, fun hn => by
  obtain ⟨ad, e, hb, hc⟩ := h.2 hn
  exact ⟨ad, e, by omega, hc⟩⟩
theorem RowsE.get {w : World} {B n : Nat} {A : Option Addr} {rs : List α} (h : RowsE enc k w B A n rs) {j : Nat} (hj : j < n) : ∃ ad x, A = some ad ∧ ad.block < B ∧ rs[j]? = some x ∧ CellsE enc w (ad.add (j * k)) x := by
 obtain ⟨ad, e, hb, hc⟩ := h.2 (by omega)
 have hl : j < rs.length := by have := h.1; omega
 exact ⟨ad, rs[j], e, hb, List.getElem?_eq_getElem hl, hc j _ (List.getElem?_eq_getElem hl)⟩
theorem rowsE_nil (w : World) (B : Nat) (A : Option Addr) : RowsE enc k w B A 0 [] := ⟨rfl, fun h => by cases h⟩
theorem RowsE.reads (hk : ∀ x, (enc x).length = k) {w : World} {B n : Nat} {A : Option Addr} {rs : List α} (h : RowsE enc k w B A n rs) : Reads w B k A n (flatE enc rs) := by
 refine ⟨by rw [flatE_len hk, h.1], fun hn => ?_⟩
 obtain ⟨ad, e, hb, hc⟩ := h.2 hn
 refine ⟨ad, e, hb, fun j u hu => ?_⟩
 have hj : j < rs.length * k := by have := (List.getElem?_eq_some_iff.1 hu).1; rwa [flatE_len hk] at this
 have hk0 : 0 < k := by rcases Nat.eq_zero_or_pos k with h0 | h0; subst h0; simp at hj; exact h0
 obtain ⟨q, i, hi, rfl⟩ : ∃ q i, i < k ∧ j = q * k + i := ⟨j / k, j % k, Nat.mod_lt _ hk0, by rw [Nat.mul_comm, Nat.div_add_mod]⟩
 have hq : q < rs.length := by
  rcases Nat.lt_or_ge q rs.length with h1 | h1
  · exact h1
  · have := Nat.mul_le_mul_right k h1; omega
 rw [flatE_at hk rs q i hi, List.getElem?_eq_getElem hq] at hu
 have := hc q _ (List.getElem?_eq_getElem hq) i u (by simpa using hu)
 rwa [add_of_add] at this
theorem rows_of_reads (hk : ∀ x, (enc x).length = k) {w : World} {B n : Nat} {A : Option Addr} {rs : List α} (hl : rs.length = n) (h : Reads w B k A n (flatE enc rs)) : RowsE enc k w B A n rs := by
 refine ⟨hl, fun hn => ?_⟩
 obtain ⟨ad, e, hb, hc⟩ := h.2 hn
 refine ⟨ad, e, hb, fun j x hx i u hu => ?_⟩
 have hi : i < k := by have := (List.getElem?_eq_some_iff.1 hu).1; rwa [hk] at this
 rw [add_of_add]
 exact hc _ u (by rw [flatE_at hk rs j i hi, hx]; exact hu)
theorem OwnE.at_ (hk : ∀ x, (enc x).length = k) {e : TypeId} {w : World} {base : Nat} {v : Value} {rs : List α} (h : OwnE enc k e w base v rs) : ∃ A c, v = .slice A rs.length c ∧ RowsE enc k w w.heap.size A rs.length rs := by
 obtain ⟨A, c, rfl⟩ := row_slice' h
 exact ⟨A, c, rfl, rows_of_reads hk rfl (Reads.of_own h)⟩
theorem OwnE.nil (e : TypeId) (w : World) (base : Nat) : OwnE enc k e w base (.slice none 0 0) ([] : List α) := ⟨by simp [flatE], .inl ⟨rfl, rfl⟩⟩
theorem OwnE.below {e : TypeId} {w w' : World} {base : Nat} {v : Value} {rs : List α} (h : OwnE enc k e w base v rs) (hb : Below w.heap.size w w') : OwnE enc k e w' base v rs := by
 refine ⟨h.1, ?_⟩
 rcases h.2 with hn | ⟨g, cap, cur, rfl, hg, hc, rest⟩
 · exact .inl hn
 · exact .inr ⟨g, cap, cur, rfl, hg, (hb.block g (Array.getElem?_eq_some_iff.1 hc).1).trans hc, rest⟩
theorem OwnE.less {e : TypeId} {w : World} {base base' : Nat} {v : Value} {rs : List α} (h : OwnE enc k e w base v rs) (hb : base' ≤ base) : OwnE enc k e w base' v rs := by
 refine ⟨h.1, ?_⟩
 rcases h.2 with hn | ⟨g, cap, cur, rfl, hg, rest⟩
 · exact .inl hn
 · exact .inr ⟨g, cap, cur, rfl, by omega, rest⟩
theorem OwnE.row (hk : ∀ x, (enc x).length = k) {e : TypeId} {w : World} {base : Nat} {v : Value} {rs : List α} (d : α) (h : OwnE enc k e w base v rs) (hn : 0 < rs.length) : ∃ ad c, v = .slice (some ad) rs.length c ∧ ad.spot = none ∧ base ≤ ad.block ∧ ad.block < w.heap.size ∧ rs.length ≤ c ∧ RowE enc k w ad rs.length (fun t => (rs[t]?).getD d) := by
 obtain ⟨A, c0, e0, hc⟩ := h.at_ hk
 rcases h.2 with ⟨rfl, hn'⟩ | ⟨g, cap, cur, rfl, hg, hcur, hcap, _⟩
 · omega
 · obtain ⟨rfl, _, rfl⟩ := Value.slice.inj e0
   obtain ⟨ad, h1, h2, h3⟩ := hc.2 hn
   obtain rfl := Option.some.inj h1
   refine ⟨_, _, rfl, rfl, hg, h2, hcap, fun t ht => ⟨?_, ?_⟩⟩
   · have := h3 t _ (List.getElem?_eq_getElem ht)
     simp only [List.getElem?_eq_getElem ht, Option.getD_some]
     exact this
   · have hf : ∀ o s, w.frozen? ⟨g, o, s⟩ = false := fun o s => by unfold World.frozen?; rw [hcur]; simp
     intro i _
     rw [add_of_add, Addr.add_lit]
     exact hf _ _
end
end Go.Proofs.YtkfodkbgmpbmfaaGreat
namespace Go.Proofs.YtkfodkbgmpbmfaaGreat
open Go.RowKit
set_option linter.unusedVariables false
structure St where
 ch : Ch
 has : Bool
 inp : Int
 mn : E
 mx : E
@[reducible] def St0 : St := ⟨Ch0, false, 0, E0, E0⟩
def stV (x : St) : List Value := [.string x.ch.name, .int .i64 x.ch.ep, .int .i64 x.ch.who, .bool x.ch.al, .int .i64 x.ch.kd, .int .i64 x.ch.sc, .bool x.has, .int .i64 x.inp, .bool x.mn.has, .int .i64 x.mn.val, .int .i64 x.mn.org, .int .i64 x.mn.age, .bool x.mx.has, .int .i64 x.mx.val, .int .i64 x.mx.org, .int .i64 x.mx.age]
theorem stV_len (x : St) : (stV x).length = 16 := rfl
theorem stV_one (x : St) : ∀ u ∈ stV x, u.oneCell' = true := by
 intro u hu
 simp only [stV, List.mem_cons, List.not_mem_nil, or_false] at hu
 rcases hu with rfl | rfl | rfl | rfl | rfl | rfl | rfl | rfl | rfl | rfl | rfl | rfl | rfl | rfl | rfl | rfl <;> rfl
def st16 (w : World) (p : Addr) (x : St) : Prop := w.cell? p = some (.string x.ch.name) ∧ w.cell? ⟨p.block, p.off + 1, none⟩ = some (.int .i64 x.ch.ep) ∧ w.cell? ⟨p.block, p.off + 2, none⟩ = some (.int .i64 x.ch.who) ∧ w.cell? ⟨p.block, p.off + 3, none⟩ = some (.bool x.ch.al) ∧ w.cell? ⟨p.block, p.off + 4, none⟩ = some (.int .i64 x.ch.kd) ∧ w.cell? ⟨p.block, p.off + 5, none⟩ = some (.int .i64 x.ch.sc) ∧ w.cell? ⟨p.block, p.off + 6, none⟩ = some (.bool x.has) ∧ w.cell? ⟨p.block, p.off + 7, none⟩ = some (.int .i64 x.inp) ∧ w.cell? ⟨p.block, p.off + 8, none⟩ = some (.bool x.mn.has) ∧ w.cell? ⟨p.block, p.off + 9, none⟩ = some (.int .i64 x.mn.val) ∧ w.cell? ⟨p.block, p.off + 10, none⟩ = some (.int .i64 x.mn.org) ∧ w.cell? ⟨p.block, p.off + 11, none⟩ = some (.int .i64 x.mn.age) ∧ w.cell? ⟨p.block, p.off + 12, none⟩ = some (.bool x.mx.has) ∧ w.cell? ⟨p.block, p.off + 13, none⟩ = some (.int .i64 x.mx.val) ∧ w.cell? ⟨p.block, p.off + 14, none⟩ = some (.int .i64 x.mx.org) ∧ w.cell? ⟨p.block, p.off + 15, none⟩ = some (.int .i64 x.mx.age)
theorem st16_of {w : World} {p : Addr} {x : St} (h : CellsE stV w p x) : st16 w p x := by
 have h0 := h 0 _ rfl
 have e : ∀ i, p.add (i + 1) = ⟨p.block, p.off + (i + 1), none⟩ := add_next p
 have hs : ∀ i u, (stV x)[i + 1]? = some u → w.cell? ⟨p.block, p.off + (i + 1), none⟩ = some u := fun i u hu => by rw [← e]; exact h (i + 1) u hu
 exact ⟨h0, hs 0 _ rfl, hs 1 _ rfl, hs 2 _ rfl, hs 3 _ rfl, hs 4 _ rfl, hs 5 _ rfl, hs 6 _ rfl, hs 7 _ rfl, hs 8 _ rfl, hs 9 _ rfl, hs 10 _ rfl, hs 11 _ rfl, hs 12 _ rfl, hs 13 _ rfl, hs 14 _ rfl⟩
theorem st16.below {w w' : World} {B : Nat} {p : Addr} {x : St} (h : st16 w p x) (hp : p.block < B) (hb : Below B w w') : st16 w' p x := by
 obtain ⟨h0, h1, h2, h3, h4, h5, h6, h7, h8, h9, h10, h11, h12, h13, h14, h15⟩ := h
 exact ⟨(hb.cell hp).trans h0, (hb.cell (p := ⟨_, _, none⟩) hp).trans h1, (hb.cell (p := ⟨_, _, none⟩) hp).trans h2, (hb.cell (p := ⟨_, _, none⟩) hp).trans h3, (hb.cell (p := ⟨_, _, none⟩) hp).trans h4, (hb.cell (p := ⟨_, _, none⟩) hp).trans h5, (hb.cell (p := ⟨_, _, none⟩) hp).trans h6, (hb.cell (p := ⟨_, _, none⟩) hp).trans h7, (hb.cell (p := ⟨_, _, none⟩) hp).trans h8, (hb.cell (p := ⟨_, _, none⟩) hp).trans h9, (hb.cell (p := ⟨_, _, none⟩) hp).trans h10, (hb.cell (p := ⟨_, _, none⟩) hp).trans h11, (hb.cell (p := ⟨_, _, none⟩) hp).trans h12, (hb.cell (p := ⟨_, _, none⟩) hp).trans h13, (hb.cell (p := ⟨_, _, none⟩) hp).trans h14, (hb.cell (p := ⟨_, _, none⟩) hp).trans h15⟩
def StsAt (w : World) (B : Nat) (A : Option Addr) (n : Nat) (rs : List St) : Prop := RowsE stV 16 w B A n rs ∧ ∀ x ∈ rs, x.ch.name.size ≤ maxLen
theorem StsAt.below {w w' : World} {B n : Nat} {A : Option Addr} {rs : List St} (h : StsAt w B A n rs) (hb : Below B w w') : StsAt w' B A n rs := ⟨h.1.below hb, h.2⟩
theorem StsAt.more {w : World} {B B' n : Nat} {A : Option Addr} {rs : List St} (h : StsAt w B A n rs) (hB : B ≤ B') : StsAt w B' A n rs := ⟨h.1.more hB, h.2⟩
theorem StsAt.get {w : World} {B n : Nat} {A : Option Addr} {rs : List St} (h : StsAt w B A n rs) {k : Nat} (hk : k < n) : ∃ ad x, A = some ad ∧ ad.block < B ∧ rs[k]? = some x ∧ x.ch.name.size ≤ maxLen ∧ st16 w (ad.add (k * 16)) x := by
 obtain ⟨ad, x, e, hb, hx, hc⟩ := h.1.get hk
 exact ⟨ad, x, e, hb, hx, h.2 x (List.mem_of_getElem? hx), st16_of hc⟩
theorem StsAt.len {w : World} {B n : Nat} {A : Option Addr} {rs : List St} (h : StsAt w B A n rs) : rs.length = n := h.1.1
theorem sts_nil (w : World) (B : Nat) (A : Option Addr) : StsAt w B A 0 [] := ⟨rowsE_nil w B A, by simp⟩
theorem cells_new' (W : World) (g : Nat) (hg : W.heap.size = g) (c : Ch) : ∀ (j : Nat) (u : Value), (chV c)[j]? = some u → (W.alloc (Obj.cells #[.string c.name, .int .i64 c.ep, .int .i64 c.who, .bool c.al, .int .i64 c.kd, .int .i64 c.sc] 34)).cell? ((⟨g, 0, none⟩ : Addr).add j) = some u := by
 subst hg
 exact cells_new W c
theorem recs_next {rs : List St} {k : Nat} {x : St} (h : rs[k]? = some x) : (rs.take (k + 1)).map St.ch = (rs.take k).map St.ch ++ [x.ch] := by
 rw [List.take_add_one, h]
 simp
set_option maxRecDepth 100000 in
set_option maxHeartbeats 8000000 in
theorem rrecords_any (A : Option Addr) (n cp : Nat) (rs : List St) (w : World) (hr : StsAt w w.heap.size A n rs) (hm : n * 136 ≤ 140737488351232) :
    Calls Tryz.prog 113 #[.slice A n cp] w fun x w' => ∃ lv, x = .returned lv ∧ OwnC w' w.heap.size lv (rs.map St.ch) ∧ Below w.heap.size w w' := by
 have HR := Lib.hid hr
 clear hr
 go_enter Tryz.func113, Tryz.ntmps113
 go_wp2
 go_loopw [3, 4] (fun v i w' => ∃ (k : Nat) (A2 : Option Addr) (cp2 : Nat) (OL : List Ch), k ≤ n ∧ i = .int .i64 k ∧ v = .slice A2 OL.length cp2 ∧ Hid (OL = (rs.take k).map St.ch) ∧ Hid (w'.ownsRow w.heap.size 34 6 (.slice A2 OL.length cp2) OL.length (flatC OL)) ∧ OL.length ≤ k ∧ KeptC w [] [] w') (fun _ i _ => n - (intOf i).toNat)
 case atStart => exact ⟨0, none, 0, [], Nat.zero_le _, rfl, rfl, Lib.hid rfl, Lib.hid ⟨rfl, .inl ⟨rfl, rfl⟩⟩, by simp, Qk⟩
 case round =>
  obtain ⟨k, A2, cp2, OL, hk, rfl, rfl, HO, HW, hol, hK⟩ := hrel
  have kb0 := hK.1
  clear hK
  by_cases hlt : k < n
  rotate_left
  · obtain rfl : k = n := by omega
    go_wp2
    go_ret
    refine ⟨_, rfl, ?_, kb0⟩
    have e := HO.out
    rw [List.take_of_length_le (Nat.le_of_eq HR.out.len)] at e
    rw [← e]
    exact HW.out
  · obtain ⟨adx, yx, hAx, habx, hxx, hszx, hc16x⟩ := HR.out.get hlt
    subst hAx
    obtain ⟨p, hpx⟩ : ∃ p, adx.add (k * 16) = p := ⟨_, rfl⟩
    have hpbx : p.block < w.heap.size := by rw [← hpx, block_of_add]; exact habx
    rw [hpx] at hc16x
    have hpwx : p.block < wr.heap.size := by have := kb0.size; omega
    obtain ⟨⟨xs, xe, xm, xa, xk, xc⟩, xh, xi, ⟨xp, xv, xo, xg⟩, ⟨xq, xu, xr, xt⟩⟩ := yx
    obtain ⟨c0, c1, c2, c3, c4, c5, c6, c7, c8, c9, c10, c11, c12, c13, c14, c15⟩ := hc16x.below hpbx kb0
    have HXx := Lib.hid hxx
    clear hxx hszx hc16x
    simp only [] at c0 c1 c2 c3 c4 c5 c6 c7 c8 c9 c10 c11 c12 c13 c14 c15
    have hws := kb0.size
    go_wp2_with (at_builtin; go_must (refine wpList_app1 rfl _ _ rfl w.heap.size OL A2 cp2 rfl (by exact row_low HW.out Qb (Nat.le_refl _)) ⟨wr.heap.size, 0, none⟩ 1 rfl ⟨xs, xe, xm, xa, xk, xc⟩ (by exact cells_new' _ _ (by simp) ⟨xs, xe, xm, xa, xk, xc⟩) (by omega) (by first | (simp; done) | (simp; omega) | omega) ?_); intro O3 A3 cp3 w3 hO3 hown3 hb3; have hL3 : O3.length ≤ OL.length + 1 := (by rw [hO3]; simp); have HO3 := Lib.hid hO3; have HW3 := Lib.hid hown3; have kb3 : Below w.heap.size w w3 := (Qb2 kb0 hb3); clear hO3 hown3 hb3)
    go_roundw
    case rel => exact ⟨k + 1, A3, cp3, O3, by omega, by go_num, rfl, Lib.hid (by rw [HO3.out, HO.out, recs_next HXx.out]), HW3, by omega, (Qk1 kb3)⟩
    case measure => simp [intOf]; omega
end Go.Proofs.YtkfodkbgmpbmfaaGreat
