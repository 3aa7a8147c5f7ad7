/- The map of severed pairs: what it holds, a look-up, a store, a deletion. -/
import Derived.Test.YtdaobbffhfbceaaBgL
import Derived.Test.YtdaobbffhfbceaaQuiet
import Derived.Maps.Own
import Derived.Maps.OwnOps
import Derived.Maps.OwnSet
import Derived.Maps.Views
import Derived.Maps.RangeWalk
import Derived.DeepKeys4
import Derived.OpenShut
namespace Go.Proofs.Ytdaobbffhfbceaa
open Go.ChangeShapes Go.WideShapes Go.RowKit Go.Maps
set_option linter.unusedVariables false
set_option linter.unusedSimpArgs false
set_option maxRecDepth 100000
theorem lk_lay : laidOutB Try.prog = true := by kernel_rfl
theorem lk_row : 64 < Try.prog.types.size := of_decide_eq_true (by kernel_rfl)
theorem lk_wide : (match Try.prog.underlying 64 with | some (.array _ _) | some (.struct _) => true | _ => false) = true := by kernel_rfl
theorem lk_law : Keyed Try.prog 64 := Keyed.of_law (deep_law_laid lk_lay (m := 2) (by omega) lk_row (by kernel_rfl) lk_wide)
theorem lk_key : Try.prog.keyType 64 = true := by kernel_rfl
theorem lk_cells : Try.prog.cellsOf 64 = 2 := by kernel_rfl
theorem lk_int : Try.prog.cellsOf 3 = 1 := by kernel_rfl
theorem lk_types : ∃ m, Try.prog.types.size = m + 1 := ⟨Try.prog.types.size - 1, by have : 0 < Try.prog.types.size := of_decide_eq_true (by kernel_rfl); omega⟩
def klit (x : LK) : Lit := .string (keyBytes [.int .i64 x.1, .int .i64 x.2])
theorem wf_i64 {x : Int} (h : i64B x) : (Lit.int .i64 x).wf = true := WalkArith.wf_i64 (by unfold i64B at h; omega)
theorem keyOf_link {x : LK} (h1 : i64B x.1) (h2 : i64B x.2) : keyOf Try.prog 64 (lAgg x) = some (klit x) := by
  have w1 := wf_i64 h1
  have w2 := wf_i64 h2
  obtain ⟨m, hm⟩ := lk_types
  unfold keyOf
  simp only [Try.underlying64]
  rw [if_pos (by simp [lk_key, Value.formed, Try.underlying64, lk_cells]), hm]
  unfold Program.keyLits
  simp only [Try.underlying64, Value.cells]
  rw [if_pos (by rw [lk_cells]; exact ⟨rfl, by simp⟩)]
  obtain ⟨m2, hm2⟩ : ∃ m2, m = m2 + 1 := ⟨m - 1, by have : 1 < Try.prog.types.size := of_decide_eq_true (by kernel_rfl); omega⟩
  subst hm2
  simp [lk_int, Program.keyLits, Try.underlying3, w1, w2, klit]
theorem klit_inj {x y : LK} (hx : i64B x.1 ∧ i64B x.2) (hy : i64B y.1 ∧ i64B y.2) (h : klit x = klit y) : x = y := by
  have h1 := keyOf_link hx.1 hx.2
  have h2 := keyOf_link hy.1 hy.2
  rw [h] at h1
  have := lk_law.inj h1 h2
  obtain ⟨a, b⟩ := x
  obtain ⟨c, d⟩ := y
  simpa using this
abbrev DU := DataW Unit
def one1 : DU := .lit (.int .i64 1)
/-- The datum of a map that has just these pairs, each at 1. -/
structure SevD (D : DU) (sv : List LK) : Prop where
  size : Maps.size D = sv.length
  has : ∀ kl, Maps.has D kl = sv.any (fun x => (klit x).sameKey kl)
  one : ∀ kl z, Maps.has D kl = true → D.atKey kl z = one1
  nd : sv.Nodup
  tidy : Tidy D
theorem has_klit {D : DU} {sv : List LK} (h : SevD D sv) (hs : ∀ x ∈ sv, i64B x.1 ∧ i64B x.2) {x : LK} (hx : i64B x.1 ∧ i64B x.2) : Maps.has D (klit x) = decide (x ∈ sv) := by
  rw [h.has, Bool.eq_iff_iff, List.any_eq_true, decide_eq_true_eq]
  constructor
  · rintro ⟨y, hy, e⟩
    have := klit_inj (hs y hy) hx (WideAt.sameKey_eq e)
    exact this ▸ hy
  · intro h1
    exact ⟨x, h1, WideAt.sameKey_self (lk_law.key (keyOf_link hx.1 hx.2))⟩
theorem sevD0 : SevD (.map []) [] := ⟨rfl, fun _ => rfl, fun kl z h => (by cases h), List.nodup_nil, tidy_empty⟩
theorem klit_key {x : LK} (hx : i64B x.1 ∧ i64B x.2) : WideAt.IsKeyLit (klit x) := lk_law.key (keyOf_link hx.1 hx.2)
theorem nodup_len {l m : List LK} (hl : l.Nodup) (hm : m.Nodup) (h : ∀ x, x ∈ l ↔ x ∈ m) : l.length = m.length := ((List.perm_ext_iff_of_nodup hl hm).2 h).length_eq
theorem SevD.put {D : DU} {sv sv' : List LK} {x : LK} (h : SevD D sv) (hs : ∀ x ∈ sv, i64B x.1 ∧ i64B x.2) (hx : i64B x.1 ∧ i64B x.2) (hm : ∀ y, y ∈ sv' ↔ y = x ∨ y ∈ sv) (hn : sv'.Nodup) : SevD (D.put (klit x) one1) sv' := by
  have hk := klit_key hx
  refine ⟨?_, fun kl => ?_, fun kl z hh => ?_, hn, h.tidy.put hk _⟩
  · rw [size_put h.tidy, has_klit h hs hx, h.size]
    by_cases hxs : x ∈ sv
    · rw [if_pos (by simpa using hxs)]
      exact nodup_len h.nd hn (fun y => by rw [hm]; exact ⟨.inr, fun h => h.elim (fun e => e ▸ hxs) id⟩)
    · rw [if_neg (by simpa using hxs), ← List.length_cons (a := x)]
      exact nodup_len (List.nodup_cons.2 ⟨hxs, h.nd⟩) hn (fun y => by rw [hm, List.mem_cons])
  · by_cases e : kl = klit x
    · subst e
      rw [has_put_same h.tidy.isMap hk]
      symm
      rw [List.any_eq_true]
      exact ⟨x, (hm x).2 (.inl rfl), WideAt.sameKey_self hk⟩
    · rw [has_put_other e, h.has, Bool.eq_iff_iff, List.any_eq_true, List.any_eq_true]
      constructor
      · rintro ⟨y, hy, e2⟩
        exact ⟨y, (hm y).2 (.inr hy), e2⟩
      · rintro ⟨y, hy, e2⟩
        rcases (hm y).1 hy with rfl | hy
        · exact absurd (WideAt.sameKey_eq e2).symm e
        · exact ⟨y, hy, e2⟩
  · by_cases e : kl = klit x
    · subst e
      exact atKey_put_same h.tidy.isMap hk _ _
    · rw [has_put_other e] at hh
      rw [atKey_put_other e]
      exact h.one kl z hh
theorem SevD.del {D : DU} {sv sv' : List LK} {x : LK} (h : SevD D sv) (hs : ∀ x ∈ sv, i64B x.1 ∧ i64B x.2) (hx : i64B x.1 ∧ i64B x.2) (hm : ∀ y, y ∈ sv' ↔ y ≠ x ∧ y ∈ sv) (hn : sv'.Nodup) : SevD (D.del (klit x)) sv' := by
  have hk := klit_key hx
  refine ⟨?_, fun kl => ?_, fun kl z hh => ?_, hn, h.tidy.del _⟩
  · have h1 := size_del h.tidy (k := klit x)
    rw [has_klit h hs hx, h.size] at h1
    by_cases hxs : x ∈ sv
    · rw [if_pos (by simpa using hxs)] at h1
      have := nodup_len (l := x :: sv') (m := sv) (List.nodup_cons.2 ⟨fun hh => ((hm x).1 hh).1 rfl, hn⟩) h.nd (fun y => by
        rw [List.mem_cons, hm]
        constructor
        · rintro (rfl | h2)
          · exact hxs
          · exact h2.2
        · intro h2
          by_cases e : y = x
          · exact .inl e
          · exact .inr ⟨e, h2⟩)
      rw [List.length_cons] at this
      omega
    · rw [if_neg (by simpa using hxs)] at h1
      have := nodup_len (l := sv') (m := sv) hn h.nd (fun y => by
        rw [hm]
        exact ⟨fun h2 => h2.2, fun h2 => ⟨fun e => hxs (e ▸ h2), h2⟩⟩)
      omega
  · by_cases e : kl = klit x
    · subst e
      rw [has_del_same]
      symm
      rw [List.any_eq_false]
      intro y hy e2
      have h2 := (hm y).1 hy
      exact h2.1 (klit_inj (hs y h2.2) hx (WideAt.sameKey_eq e2))
    · rw [has_del_other e, h.has, Bool.eq_iff_iff, List.any_eq_true, List.any_eq_true]
      constructor
      · rintro ⟨y, hy, e2⟩
        refine ⟨y, (hm y).2 ⟨?_, hy⟩, e2⟩
        rintro rfl
        exact e (WideAt.sameKey_eq e2).symm
      · rintro ⟨y, hy, e2⟩
        exact ⟨y, ((hm y).1 hy).2, e2⟩
  · by_cases e : kl = klit x
    · subst e
      rw [has_del_same] at hh
      cases hh
    · rw [has_del_other e] at hh
      rw [atKey_del_other e]
      exact h.one kl z hh
noncomputable abbrev plI : Value → Option (DU × List MemPlace) := plainElem Try.prog 3
/-- Block bm is the map of these pairs. -/
def MapAt (w : World) (bm : Nat) (sv : List LK) : Prop := ∃ D, w.ownsMap Try.prog 64 plI bm (Maps.size D) D ∧ SevD D sv
theorem own_tight {w : World} {b n : Nat} {D : DU} (h : w.ownsMap Try.prog 64 plI b n D) : w.ownsMap Try.prog 64 plI b (Maps.size D) D := by
  obtain ⟨es, clock, hb, F, hs, rfl⟩ := h
  exact ⟨es, clock, hb, F, by simp [Maps.size, length_sorted], rfl⟩
theorem zero_int (w : World) : (zeroValue 3).run Try.prog w = .ok (.int .i64 0) w := by kernel_rfl
theorem MapAt.lt {w : World} {bm : Nat} {sv : List LK} (h : MapAt w bm sv) : bm < w.heap.size := by
  obtain ⟨D, h, _⟩ := h
  exact h.lt
theorem MapAt.same {w w' : World} {bm : Nat} {sv : List LK} (h : MapAt w bm sv) (hb : w'.heap[bm]? = w.heap[bm]?) : MapAt w' bm sv := by
  obtain ⟨D, ⟨es, clock, h1, h2⟩, hD⟩ := h
  exact ⟨D, ⟨es, clock, hb.trans h1, h2⟩, hD⟩
theorem MapAt.obj {w : World} {bm : Nat} {sv : List LK} (h : MapAt w bm sv) : ∃ es clock, w.heap[bm]? = some (.map es clock) := by
  obtain ⟨D, ⟨es, clock, h1, _⟩, _⟩ := h
  exact ⟨es, clock, h1⟩
theorem mapAt_made (w : World) : MapAt (w.alloc (.map #[] 0)) w.heap.size [] := ⟨.map [], World.ownsMap_made w _ _ _, sevD0⟩
/-- A look-up. -/
theorem MapAt.look {w : World} {bm : Nat} {sv : List LK} (h : MapAt w bm sv) (hs : ∀ x ∈ sv, i64B x.1 ∧ i64B x.2) {x : LK} (hx : i64B x.1 ∧ i64B x.2) :
    (Instr.lookup 44 (.map (some bm)) (lAgg x) false).run Try.prog w = .ok (.int .i64 (if x ∈ sv then 1 else 0)) w := by
  obtain ⟨D, h1, hD⟩ := h
  obtain ⟨c, hrun, hat, _⟩ := h1.lookup_int lk_law Try.underlying44 Try.underlying3 (zero_int w) (keyOf_link hx.1 hx.2)
  rw [hrun]
  have hh := has_klit hD hs hx
  by_cases e : x ∈ sv
  · rw [if_pos e]
    rw [hD.one _ _ (by rw [hh]; simpa using e)] at hat
    unfold one1 at hat
    injection hat with hat
    injection hat with _ hat
    rw [hat]
  · rw [if_neg e]
    rw [atKey_of_not_has (by rw [hh]; simpa using e)] at hat
    injection hat with hat
    injection hat with _ hat
    rw [hat]
/-- A store. -/
theorem MapAt.store {w : World} {bm : Nat} {sv sv' : List LK} (h : MapAt w bm sv) (hs : ∀ x ∈ sv, i64B x.1 ∧ i64B x.2) {x : LK} (hx : i64B x.1 ∧ i64B x.2) (hl : sv.length < maxLen) (hm : ∀ y, y ∈ sv' ↔ y = x ∨ y ∈ sv) (hn : sv'.Nodup) :
    ∃ w', (Instr.mapUpdate 44 (.map (some bm)) (lAgg x) (.int .i64 1)).run Try.prog w = .ok () w' ∧ MapAt w' bm sv' ∧ w.grownBy w' (some bm) := by
  obtain ⟨D, h1, hD⟩ := h
  obtain ⟨w', hrun, h2, h3⟩ := h1.update lk_law Try.underlying44 (by rw [hD.size]; exact hl) (keyOf_link hx.1 hx.2) (plainElem_int Try.underlying3 (by decide : (Lit.int .i64 1).wf = true))
  exact ⟨w', hrun, ⟨_, own_tight h2, hD.put hs hx hm hn⟩, h3⟩
/-- A deletion. -/
theorem MapAt.drop {w : World} {bm : Nat} {sv sv' : List LK} (h : MapAt w bm sv) (hs : ∀ x ∈ sv, i64B x.1 ∧ i64B x.2) {x : LK} (hx : i64B x.1 ∧ i64B x.2) (hm : ∀ y, y ∈ sv' ↔ y ≠ x ∧ y ∈ sv) (hn : sv'.Nodup) (ty : TypeId) :
    ∃ w', (Builtin.delete_ #[44, 64] ty #[.map (some bm), lAgg x]).run Try.prog w = .ok (.tuple #[]) w' ∧ MapAt w' bm sv' ∧ w.grownBy w' (some bm) := by
  obtain ⟨D, h1, hD⟩ := h
  obtain ⟨w', hrun, h2, h3⟩ := h1.drop lk_law Try.underlying44 (keyOf_link hx.1 hx.2) ty
  exact ⟨w', hrun, ⟨_, own_tight h2, hD.del hs hx hm hn⟩, h3.grown⟩
end Go.Proofs.Ytdaobbffhfbceaa
