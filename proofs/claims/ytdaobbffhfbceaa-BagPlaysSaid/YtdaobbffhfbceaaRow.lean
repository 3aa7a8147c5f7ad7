/- Rows of values of k cells each: as they are read, as a call's own, as they are written. -/
import Derived.Test.YtdaobbffhfbceaaApp
import Derived.Laws.IdiomCopy
import Derived.RowKit
namespace Go.Proofs.Ytdaobbffhfbceaa
open Go.RowKit
set_option linter.unusedVariables false
def flatE {α : Type} (enc : α → List Value) (xs : List α) : List Value := xs.flatMap enc
/-- The cells of one value. -/
def CellsE {α : Type} (enc : α → List Value) (w : World) (p : Addr) (x : α) : Prop := ∀ i u, (enc x)[i]? = some u → w.cell? (p.add i) = some u
def RowsE {α : Type} (enc : α → List Value) (k : Nat) (w : World) (B : Nat) (A : Option Addr) (n : Nat) (rs : List α) : Prop :=
  rs.length = n ∧ (0 < n → ∃ ad, A = some ad ∧ ad.block < B ∧ ∀ j x, rs[j]? = some x → CellsE enc w (ad.add (j * k)) x)
def OwnE {α : Type} (enc : α → List Value) (k : Nat) (e : TypeId) (w : World) (base : Nat) (v : Value) (rs : List α) : Prop := w.ownsRow base e k v rs.length (flatE enc rs)
/-- A row that may be written. -/
def RowE {α : Type} (enc : α → List Value) (k : Nat) (w : World) (ad : Addr) (n : Nat) (R : Nat → α) : Prop := ∀ t, t < n → CellsE enc w (ad.add (t * k)) (R t) ∧ ∀ i, i < k → w.frozen? ((ad.add (t * k)).add i) = false
theorem adde (a : Addr) (i : Nat) : (a.add i).off = a.off + i := by unfold Addr.add; split <;> simp_all
theorem row_slice' {W : World} {base : Nat} {e : TypeId} {size : Nat} {v : Value} {n : Nat} {xs : List Value} (h : W.ownsRow base e size v n xs) : ∃ A c, v = .slice A n c := by
  rcases h.2 with ⟨rfl, rfl⟩ | ⟨g, cap, cur, rfl, _⟩
  · exact ⟨none, 0, rfl⟩
  · exact ⟨_, _, rfl⟩
section
variable {α : Type} {k : Nat} {enc : α → List Value}
theorem flatE_snoc (xs : List α) (x : α) : flatE enc (xs ++ [x]) = flatE enc xs ++ enc x := by unfold flatE; simp
theorem flatE_one (h1 : ∀ x, ∀ u ∈ enc x, u.oneCell' = true) (xs : List α) : ∀ u ∈ flatE enc xs, u.oneCell' = true := by
  intro u hu
  obtain ⟨c, _, h⟩ := List.mem_flatMap.1 hu
  exact h1 c u h
theorem flatE_len (hk : ∀ x, (enc x).length = k) (xs : List α) : (flatE enc xs).length = xs.length * k := by
  induction xs with
  | nil => simp [flatE]
  | cons c cs ih =>
    have : flatE enc (c :: cs) = enc c ++ flatE enc cs := rfl
    rw [this, List.length_append, ih, hk, List.length_cons, Nat.add_mul]
    omega
theorem flatE_at (hk : ∀ x, (enc x).length = k) : ∀ (xs : List α) (j i : Nat), i < k → (flatE enc xs)[j * k + i]? = (xs[j]?).bind fun c => (enc c)[i]? := by
  intro xs
  induction xs with
  | nil => intro j i hi; simp [flatE]
  | cons c cs ih =>
    intro j i hi
    have hd : flatE enc (c :: cs) = enc c ++ flatE enc cs := rfl
    have hl := hk c
    rw [hd]
    cases j with
    | zero =>
      rw [List.getElem?_append_left (by omega)]
      simp
    | succ j =>
      have e : (j + 1) * k + i = k + (j * k + i) := by rw [Nat.add_mul]; omega
      rw [e, List.getElem?_append_right (by omega), hl, show k + (j * k + i) - k = j * k + i by omega, ih j i hi]
      simp
theorem CellsE.below {w w' : World} {B : Nat} {p : Addr} {x : α} (h : CellsE enc w p x) (hp : p.block < B) (hb : Below B w w') : CellsE enc w' p x := fun i u hu => (hb.cell (by rw [block_of_add]; exact hp)).trans (h i u hu)
theorem RowsE.below {w w' : World} {B n : Nat} {A : Option Addr} {rs : List α} (h : RowsE enc k w B A n rs) (hb : Below B w w') : RowsE enc k w' B A n rs :=
  ⟨h.1, fun hn => by
    obtain ⟨ad, e, hB, hc⟩ := h.2 hn
    exact ⟨ad, e, hB, fun j x hx => (hc j x hx).below (by rw [block_of_add]; exact hB) hb⟩⟩
theorem RowsE.more {w : World} {B B' n : Nat} {A : Option Addr} {rs : List α} (h : RowsE enc k w B A n rs) (hB : B ≤ B') : RowsE enc k w B' A n rs :=
  ⟨h.1, fun hn => by
    obtain ⟨ad, e, hb, hc⟩ := h.2 hn
    exact ⟨ad, e, by omega, hc⟩⟩
theorem RowsE.get {w : World} {B n : Nat} {A : Option Addr} {rs : List α} (h : RowsE enc k w B A n rs) {j : Nat} (hj : j < n) : ∃ ad x, A = some ad ∧ ad.block < B ∧ rs[j]? = some x ∧ CellsE enc w (ad.add (j * k)) x := by
  obtain ⟨ad, e, hb, hc⟩ := h.2 (by omega)
  have hl : j < rs.length := by have := h.1; omega
  exact ⟨ad, rs[j], e, hb, List.getElem?_eq_getElem hl, hc j _ (List.getElem?_eq_getElem hl)⟩
theorem rowsE_nil (w : World) (B : Nat) (A : Option Addr) : RowsE enc k w B A 0 [] := ⟨rfl, fun h => by cases h⟩
theorem RowsE.reads (hk : ∀ x, (enc x).length = k) {w : World} {B n : Nat} {A : Option Addr} {rs : List α} (h : RowsE enc k w B A n rs) : Reads w B k A n (flatE enc rs) := by
  refine ⟨by rw [flatE_len hk, h.1], fun hn => ?_⟩
  obtain ⟨ad, e, hb, hc⟩ := h.2 hn
  refine ⟨ad, e, hb, fun j u hu => ?_⟩
  have hj : j < rs.length * k := by have := (List.getElem?_eq_some_iff.1 hu).1; rwa [flatE_len hk] at this
  have hk0 : 0 < k := by rcases Nat.eq_zero_or_pos k with h0 | h0; subst h0; simp at hj; exact h0
  obtain ⟨q, i, hi, rfl⟩ : ∃ q i, i < k ∧ j = q * k + i := ⟨j / k, j % k, Nat.mod_lt _ hk0, by rw [Nat.mul_comm, Nat.div_add_mod]⟩
  have hq : q < rs.length := by
    rcases Nat.lt_or_ge q rs.length with h1 | h1
    · exact h1
    · have := Nat.mul_le_mul_right k h1; omega
  rw [flatE_at hk rs q i hi, List.getElem?_eq_getElem hq] at hu
  have := hc q _ (List.getElem?_eq_getElem hq) i u (by simpa using hu)
  rwa [add_of_add] at this
theorem rows_of_reads (hk : ∀ x, (enc x).length = k) {w : World} {B n : Nat} {A : Option Addr} {rs : List α} (hl : rs.length = n) (h : Reads w B k A n (flatE enc rs)) : RowsE enc k w B A n rs := by
  refine ⟨hl, fun hn => ?_⟩
  obtain ⟨ad, e, hb, hc⟩ := h.2 hn
  refine ⟨ad, e, hb, fun j x hx i u hu => ?_⟩
  have hi : i < k := by have := (List.getElem?_eq_some_iff.1 hu).1; rwa [hk] at this
  rw [add_of_add]
  exact hc _ u (by rw [flatE_at hk rs j i hi, hx]; exact hu)
theorem OwnE.at_ (hk : ∀ x, (enc x).length = k) {e : TypeId} {w : World} {base : Nat} {v : Value} {rs : List α} (h : OwnE enc k e w base v rs) : ∃ A c, v = .slice A rs.length c ∧ RowsE enc k w w.heap.size A rs.length rs := by
  obtain ⟨A, c, rfl⟩ := row_slice' h
  exact ⟨A, c, rfl, rows_of_reads hk rfl (Reads.of_own h)⟩
theorem OwnE.nil (e : TypeId) (w : World) (base : Nat) : OwnE enc k e w base (.slice none 0 0) ([] : List α) := ⟨by simp [flatE], .inl ⟨rfl, rfl⟩⟩
theorem OwnE.below {e : TypeId} {w w' : World} {base : Nat} {v : Value} {rs : List α} (h : OwnE enc k e w base v rs) (hb : Below w.heap.size w w') : OwnE enc k e w' base v rs := by
  refine ⟨h.1, ?_⟩
  rcases h.2 with hn | ⟨g, cap, cur, rfl, hg, hc, rest⟩
  · exact .inl hn
  · exact .inr ⟨g, cap, cur, rfl, hg, (hb.block g (Array.getElem?_eq_some_iff.1 hc).1).trans hc, rest⟩
theorem OwnE.less {e : TypeId} {w : World} {base base' : Nat} {v : Value} {rs : List α} (h : OwnE enc k e w base v rs) (hb : base' ≤ base) : OwnE enc k e w base' v rs := by
  refine ⟨h.1, ?_⟩
  rcases h.2 with hn | ⟨g, cap, cur, rfl, hg, rest⟩
  · exact .inl hn
  · exact .inr ⟨g, cap, cur, rfl, by omega, rest⟩
theorem RowE.below {W W' : World} {ad : Addr} {n B : Nat} {R : Nat → α} (h : RowE enc k W ad n R) (hB : ad.block < B) (hb : Below B W W') : RowE enc k W' ad n R := fun t ht =>
  ⟨(h t ht).1.below (by rw [block_of_add]; exact hB) hb, fun i hi => (hb.frozen (by rw [block_of_add, block_of_add]; exact hB)).trans ((h t ht).2 i hi)⟩
theorem OwnE.row (hk : ∀ x, (enc x).length = k) {e : TypeId} {w : World} {base : Nat} {v : Value} {rs : List α} (d : α) (h : OwnE enc k e w base v rs) (hn : 0 < rs.length) : ∃ ad c, v = .slice (some ad) rs.length c ∧ ad.spot = none ∧ base ≤ ad.block ∧ ad.block < w.heap.size ∧ rs.length ≤ c ∧ RowE enc k w ad rs.length (fun t => (rs[t]?).getD d) := by
  obtain ⟨A, c0, e0, hc⟩ := h.at_ hk
  rcases h.2 with ⟨rfl, hn'⟩ | ⟨g, cap, cur, rfl, hg, hcur, hcap, _⟩
  · omega
  · obtain ⟨rfl, _, rfl⟩ := Value.slice.inj e0
    obtain ⟨ad, h1, h2, h3⟩ := hc.2 hn
    obtain rfl := Option.some.inj h1
    refine ⟨_, _, rfl, rfl, hg, h2, hcap, fun t ht => ⟨?_, ?_⟩⟩
    · have := h3 t _ (List.getElem?_eq_getElem ht)
      simp only [List.getElem?_eq_getElem ht, Option.getD_some]
      exact this
    · have hf : ∀ o s, w.frozen? ⟨g, o, s⟩ = false := fun o s => by unfold World.frozen?; rw [hcur]; simp
      intro i _
      rw [add_of_add, Addr.add_lit]
      exact hf _ _
/-- One cell of a row written. -/
theorem row_set (hk : ∀ x, (enc x).length = k) {W : World} {ad : Addr} {n t0 i0 : Nat} {R : Nat → α} {x : α} {v : Value} (h : RowE enc k W ad n R) (ht0 : t0 < n) (hi0 : i0 < k) (hx : enc x = (enc (R t0)).set i0 v) :
    RowE enc k (W.setCell ((ad.add (t0 * k)).add i0) v) ad n (fun t => if t = t0 then x else R t) := by
  intro t ht
  obtain ⟨hc, hu⟩ := h t ht
  refine ⟨fun i u hu' => ?_, fun i hi => by rw [World.frozen?_setCell]; exact hu i hi⟩
  have hi : i < k := by
    have := (List.getElem?_eq_some_iff.1 hu').1
    rwa [hk] at this
  by_cases e : t = t0
  · subst e
    simp only [if_true, hx] at hu'
    by_cases e2 : i = i0
    · subst e2
      have hl : i < (enc (R t)).length := by rw [hk]; exact hi
      rw [List.getElem?_set_self hl] at hu'
      obtain rfl := Option.some.inj hu'
      exact World.cell?_setCell_same _ _ _ (hc i _ (List.getElem?_eq_getElem hl))
    · rw [List.getElem?_set_ne (Ne.symm e2)] at hu'
      rw [World.cell?_setCell_other]
      · exact hc i u hu'
      · intro e3
        have := congrArg Addr.off e3
        simp only [adde] at this
        omega
  · simp only [if_neg e] at hu'
    rw [World.cell?_setCell_other]
    · exact hc i u hu'
    · intro e3
      have := congrArg Addr.off e3
      simp only [adde] at this
      apply e
      rcases Nat.lt_trichotomy t t0 with h1 | h1 | h1
      · have := Nat.mul_le_mul_right k (show t + 1 ≤ t0 by omega)
        rw [Nat.add_mul] at this
        omega
      · exact h1
      · have := Nat.mul_le_mul_right k (show t0 + 1 ≤ t by omega)
        rw [Nat.add_mul] at this
        omega
theorem row_rows {w : World} {ad : Addr} {n m : Nat} {R : Nat → α} {L : List α} (h : RowE enc k w ad n R) (hm : m ≤ n) (hl : L.length = m) (hR : ∀ t x, L[t]? = some x → R t = x) (hab : ad.block < w.heap.size) : RowsE enc k w w.heap.size (some ad) m L := by
  refine ⟨hl, fun _ => ⟨ad, rfl, hab, fun j x hx => ?_⟩⟩
  have hj := (List.getElem?_eq_some_iff.1 hx).1
  rw [← hR j x hx]
  exact (h j (by omega)).1
end
end Go.Proofs.Ytdaobbffhfbceaa
