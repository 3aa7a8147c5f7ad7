/- A row of packets that is written: as a function of the place. Delete: what the call computes. -/
import Derived.Test.YtdaobbffhfbceaaBgB
import Derived.Deep.OwnRows
import Derived.Deep.RegionLaw
import Derived.Laws.IdiomCopy
namespace Go.Proofs.Ytdaobbffhfbceaa
open Go.RowKit Go.Shelf
set_option linter.unusedVariables false
set_option linter.unusedSimpArgs false
set_option maxRecDepth 100000
def cellD (d : Dg) (i : Nat) : Value := ((encD d)[i]?).getD undef
/-- The cells of a row whose first n packets are R. -/
def rowF (n : Nat) (R : Nat → Dg) (f0 : Nat → Value) (j : Nat) : Value := if j < n * 4 then cellD (R (j / 4)) (j % 4) else f0 j
abbrev RowAt (w : World) (g cap n : Nat) (R : Nat → Dg) (f0 : Nat → Value) : Prop := w.rowIs g 33 (cap * 4) (rowF n R f0)
theorem rowF_at {n : Nat} {R : Nat → Dg} {f0 : Nat → Value} {t i : Nat} (ht : t < n) (hi : i < 4) : rowF n R f0 (t * 4 + i) = cellD (R t) i := by
  unfold rowF
  rw [if_pos (by omega), show (t * 4 + i) / 4 = t by omega, show (t * 4 + i) % 4 = i by omega]
theorem RowAt.at_ {w : World} {g cap n : Nat} {R : Nat → Dg} {f0 : Nat → Value} (h : RowAt w g cap n R f0) (hn : n ≤ cap) {t : Nat} (ht : t < n) :
    w.cell? ⟨g, t * 4, none⟩ = some (.int .i64 (R t).num) ∧ w.cell? ⟨g, t * 4 + 1, none⟩ = some (.int .i64 (R t).frm) ∧ w.cell? ⟨g, t * 4 + 2, none⟩ = some (.int .i64 (R t).dst) ∧ w.cell? ⟨g, t * 4 + 3, none⟩ = some (.string (R t).body) := by
  refine ⟨?_, ?_, ?_, ?_⟩
  · rw [h.cell (show t * 4 < cap * 4 by omega), show t * 4 = t * 4 + 0 from rfl, rowF_at ht (by omega)]; rfl
  · rw [h.cell (show t * 4 + 1 < cap * 4 by omega), rowF_at ht (by omega)]; rfl
  · rw [h.cell (show t * 4 + 2 < cap * 4 by omega), rowF_at ht (by omega)]; rfl
  · rw [h.cell (show t * 4 + 3 < cap * 4 by omega), rowF_at ht (by omega)]; rfl
theorem flat_at {ls : List Dg} {j : Nat} {u : Value} (h : (flatE encD ls)[j]? = some u) : ∃ d, ls[j / 4]? = some d ∧ u = cellD d (j % 4) := by
  have hj : j = j / 4 * 4 + j % 4 := by omega
  rw [hj, flatE_at encD_len ls (j / 4) (j % 4) (by omega)] at h
  obtain ⟨d, hd, hu⟩ := Option.bind_eq_some_iff.1 h
  refine ⟨d, hd, ?_⟩
  unfold cellD
  rw [hu]
  rfl
theorem own_is {w : World} {lv : Value} {ls : List Dg} (h : RowD w lv ls) (h0 : 0 < ls.length) :
    ∃ g cap f0, lv = .slice (some ⟨g, 0, none⟩) ls.length cap ∧ ls.length ≤ cap ∧ cap ≤ maxLen ∧ RowAt w g cap ls.length (fun t => (ls[t]?).getD Dg0) f0 := by
  rcases h.2 with ⟨_, h1⟩ | ⟨g, cap, cur, rfl, _, hg, hn, hc, hsz, ht⟩
  · omega
  · refine ⟨g, cap, fun j => (cur[j]?).getD undef, rfl, hn, hc, cur, hg, hsz, fun j hj => ?_⟩
    unfold rowF
    have hjs : j < cur.size := by omega
    by_cases e : j < ls.length * 4
    · rw [if_pos e]
      have h2 : (cur.toList.take (ls.length * 4))[j]? = (flatE encD ls)[j]? := by rw [ht]
      rw [List.getElem?_take_of_lt e, Array.getElem?_toList] at h2
      rw [Array.getElem?_eq_getElem hjs] at h2 ⊢
      obtain ⟨d, hd, hu⟩ := flat_at h2.symm
      simp only [hd, Option.getD_some, hu]
    · rw [if_neg e]
      simp [Array.getElem?_eq_getElem hjs]
theorem is_own {w : World} {g cap n : Nat} {R : Nat → Dg} {f0 : Nat → Value} {ls : List Dg} (h : RowAt w g cap n R f0) (hn : ls.length ≤ n) (hnc : n ≤ cap) (hc : cap ≤ maxLen) (hR : ∀ t d, ls[t]? = some d → R t = d) : RowD w (.slice (some ⟨g, 0, none⟩) ls.length cap) ls := by
  obtain ⟨cur, hg, hsz, hf⟩ := h
  refine ⟨flatE_len encD_len ls, .inr ⟨g, cap, cur, rfl, Nat.zero_le _, hg, by omega, hc, hsz, ?_⟩⟩
  refine List.ext_getElem? fun j => ?_
  by_cases e : j < ls.length * 4
  · rw [List.getElem?_take_of_lt e, Array.getElem?_toList, hf j (by omega)]
    have hl : j < (flatE encD ls).length := by rw [flatE_len encD_len]; exact e
    have h2 : (flatE encD ls)[j]? = some (flatE encD ls)[j] := List.getElem?_eq_getElem hl
    obtain ⟨d, hd, hu⟩ := flat_at h2
    rw [h2, hu]
    unfold rowF
    rw [if_pos (by omega), hR _ _ hd]
  · rw [List.getElem?_eq_none (by rw [List.length_take]; omega), List.getElem?_eq_none (by rw [flatE_len encD_len]; omega)]
theorem row_put {w : World} {g cap n : Nat} {R : Nat → Dg} {f0 : Nat → Value} (h : RowAt w g cap n R f0) {t : Nat} (ht : t < n) (x : Dg) :
    RowAt ((((w.setCell ⟨g, t * 4, none⟩ (.int .i64 x.num)).setCell ⟨g, t * 4 + 1, none⟩ (.int .i64 x.frm)).setCell ⟨g, t * 4 + 2, none⟩ (.int .i64 x.dst)).setCell ⟨g, t * 4 + 3, none⟩ (.string x.body)) g cap n (fun s => if s = t then x else R s) f0 := by
  refine ((((h.set (t * 4) _).set (t * 4 + 1) _).set (t * 4 + 2) _).set (t * 4 + 3) _).congr fun j hj => ?_
  unfold rowF
  by_cases e : j < n * 4
  · rw [if_pos e, if_pos e]
    dsimp only
    by_cases e2 : j / 4 = t
    · rw [if_pos e2]
      have h4 : j % 4 < 4 := Nat.mod_lt _ (by omega)
      have hj2 : j = t * 4 + j % 4 := by omega
      generalize j % 4 = r at *
      match r, h4 with
      | 0, _ => rw [if_neg (by omega), if_neg (by omega), if_neg (by omega), if_pos (by omega)]; rfl
      | 1, _ => rw [if_neg (by omega), if_neg (by omega), if_pos (by omega)]; rfl
      | 2, _ => rw [if_neg (by omega), if_pos (by omega)]; rfl
      | 3, _ => rw [if_pos (by omega)]; rfl
    · rw [if_neg e2, if_neg (by omega), if_neg (by omega), if_neg (by omega), if_neg (by omega)]
  · rw [if_neg e, if_neg e]
    rw [if_neg (by omega), if_neg (by omega), if_neg (by omega), if_neg (by omega)]
theorem is_setCells {w : World} {g N : Nat} {T : TypeId} {f : Nat → Value} : ∀ (vs : List Value) (o : Nat) {w : World} {f : Nat → Value}, w.rowIs g T N f → (w.setCells g o vs).rowIs g T N (fun j => if o ≤ j ∧ j < o + vs.length then (vs[j - o]?).getD undef else f j)
  | [], o, w, f, h => h.congr fun j _ => by rw [if_neg (by simp only [List.length_nil]; omega)]
  | v :: vs, o, w, f, h => by
    refine (is_setCells (w := w) (f := f) vs (o + 1) (h.set o v)).congr fun j _ => ?_
    by_cases e : o + 1 ≤ j ∧ j < o + 1 + vs.length
    · rw [if_pos e, if_pos (by simp; omega), show j - o = (j - (o + 1)) + 1 by omega, List.getElem?_cons_succ]
    · rw [if_neg e]
      by_cases e2 : j = o
      · subst e2
        rw [if_pos rfl, if_pos (by simp)]
        simp
      · rw [if_neg e2, if_neg (by simp; omega)]
/-- Some packets laid over the row. -/
theorem row_lay {w : World} {g cap n i : Nat} {R : Nat → Dg} {f0 : Nat → Value} {xs : List Dg} (h : RowAt w g cap n R f0) (hi : i + xs.length ≤ n) :
    RowAt (w.setCells g (i * 4) (flatE encD xs)) g cap n (fun s => if i ≤ s ∧ s < i + xs.length then (xs[s - i]?).getD Dg0 else R s) f0 := by
  refine (is_setCells (w := w) (f := rowF n R f0) (flatE encD xs) (i * 4) h).congr fun j hj => ?_
  rw [flatE_len encD_len]
  unfold rowF
  by_cases e : i * 4 ≤ j ∧ j < i * 4 + xs.length * 4
  · rw [if_pos e, if_pos (by omega)]
    dsimp only
    rw [if_pos (by omega)]
    have hl : j - i * 4 < (flatE encD xs).length := by rw [flatE_len encD_len]; omega
    have h2 := List.getElem?_eq_getElem hl
    obtain ⟨d, hd, hu⟩ := flat_at h2
    rw [h2, Option.getD_some, hu, show j / 4 - i = (j - i * 4) / 4 by omega, hd, show j % 4 = (j - i * 4) % 4 by omega]
    rfl
  · rw [if_neg e]
    by_cases e2 : j < n * 4
    · rw [if_pos e2, if_pos e2]
      dsimp only
      rw [if_neg (by omega)]
    · rw [if_neg e2, if_neg e2]
def zerosD (k : Nat) : List Value := (Builtin.zeroCells #[.int .i64 0, .int .i64 0, .int .i64 0, .string ⟨#[]⟩] k).toList
theorem zerosD_len (k : Nat) : (zerosD k).length = k * 4 := by unfold zerosD Builtin.zeroCells; simp
theorem zerosD_one (k : Nat) : ∀ v ∈ zerosD k, v.oneCell' = true := by
  intro v hv
  unfold zerosD Builtin.zeroCells at hv
  simp at hv
  obtain ⟨i, _, rfl⟩ := hv
  have h6 : i % 4 < 4 := Nat.mod_lt _ (by omega)
  generalize i % 4 = r at h6
  match r, h6 with
  | 0, _ | 1, _ | 2, _ | 3, _ => rfl
theorem zerosD_flat (k : Nat) : zerosD k = flatE encD (List.replicate k Dg0) := by
  refine List.ext_getElem? fun j => ?_
  by_cases e : j < k * 4
  · have hl : j < (flatE encD (List.replicate k Dg0)).length := by rw [flatE_len encD_len, List.length_replicate]; exact e
    have h2 := List.getElem?_eq_getElem hl
    obtain ⟨d, hd, hu⟩ := flat_at h2
    rw [h2, hu]
    have hd2 : d = Dg0 := List.eq_of_mem_replicate (List.mem_of_getElem? hd)
    subst hd2
    unfold zerosD Builtin.zeroCells
    have h6 : j % 4 < 4 := Nat.mod_lt _ (by omega)
    simp [e]
    generalize j % 4 = r at h6
    match r, h6 with
    | 0, _ | 1, _ | 2, _ | 3, _ => rfl
  · rw [List.getElem?_eq_none (by rw [zerosD_len]; omega), List.getElem?_eq_none (by rw [flatE_len encD_len, List.length_replicate]; omega)]
theorem run_clear_dgs (W : World) (p : Addr) (hp : p.spot = none) (k c : Nat) (hk : 0 < k) (hc : ∀ j, j < k * 4 → (W.cell? ⟨p.block, p.off + j, none⟩).isSome = true) (hf : ∀ j, j < k * 4 → W.frozen? ⟨p.block, p.off + j, none⟩ = false) (ty : TypeId) :
    (Builtin.clear_ #[43] ty #[.slice (some p) k c]).run Try.prog W = .ok (.tuple #[]) (W.setCells p.block p.off (zerosD k)) := by
  obtain ⟨b, o, s⟩ := p
  subst hp
  have hst := run_storeCells_cells (P := Try.prog) b o (zerosD k) 0 W (by simpa [zerosD_len] using hc) (by simpa [zerosD_len] using hf) (zerosD_one k)
  simp only [Nat.add_zero] at hst
  obtain ⟨m, rfl⟩ : ∃ m, k = m + 1 := ⟨k - 1, by omega⟩
  unfold zerosD at hst ⊢
  simp [Builtin.clear_, run_underlying Try.underlying43, Value.cells, hst]
theorem turn_setCells {F : List Nat} {w : World} {g : Nat} (hg : g ∈ F ∨ w.heap.size ≤ g) : ∀ (vs : List Value) (o : Nat) {W : World}, Turn F w W → Turn F w (W.setCells g o vs)
  | [], _, _, h => h
  | v :: vs, o, W, h => turn_setCells hg vs (o + 1) (h.setCell hg _)
theorem dg_inf : (Try.prog.info? 33).map (fun i => (i.zero, i.size, i.bytes)) = some (some (.agg #[.int .i64 0, .int .i64 0, .int .i64 0, .string ⟨#[]⟩]), 4, 40) := by kernel_rfl
end Go.Proofs.Ytdaobbffhfbceaa
