/- Alive of dir and of its reference: what each call computes, for every list of records. -/
import Derived.Test.YtblaccmphofbcaaDirW
import Derived.Laws.IdiomCopy
namespace Go.Proofs.Ytblaccmphofbcaa
open Go.RowKit
set_option linter.unusedVariables false
theorem cfar {W : World} {a b : Addr} {v : Value} (h : a ≠ b) : (W.setCell a v).cell? b = W.cell? b := by first | exact World.cell?_setCell_other _ _ _ _ h | exact World.cell?_setCell_other _ _ _ h | exact World.cell?_setCell_other _ _ h | exact World.cell?_setCell_other _ h
theorem csame {W : World} {a : Addr} {v u : Value} (h : W.cell? a = some u) : (W.setCell a v).cell? a = some v := by first | exact World.cell?_setCell_same _ _ _ h | exact World.cell?_setCell_same _ _ h | exact World.cell?_setCell_same _ h
def unf6 (w : World) (p : Addr) : Prop := w.frozen? p = false ∧ w.frozen? ⟨p.block, p.off + 1, none⟩ = false ∧ w.frozen? ⟨p.block, p.off + 2, none⟩ = false ∧ w.frozen? ⟨p.block, p.off + 3, none⟩ = false ∧ w.frozen? ⟨p.block, p.off + 4, none⟩ = false ∧ w.frozen? ⟨p.block, p.off + 5, none⟩ = false
/-- A row of records that may be written. -/
def RowC (w : World) (ad : Addr) (n : Nat) (R : Nat → Ch) : Prop := ∀ t, t < n → cells6 w (ad.add (t * 6)) (R t) ∧ unf6 w (ad.add (t * 6))
def store6 (W : World) (p : Addr) (x : Ch) : World := (((((W.setCell p (.string x.name)).setCell ⟨p.block, p.off + 1, none⟩ (.int .i64 x.ep)).setCell ⟨p.block, p.off + 2, none⟩ (.int .i64 x.who)).setCell ⟨p.block, p.off + 3, none⟩ (.bool x.al)).setCell ⟨p.block, p.off + 4, none⟩ (.int .i64 x.kd)).setCell ⟨p.block, p.off + 5, none⟩ (.int .i64 x.sc)
theorem store6_far {W : World} {p q : Addr} {x : Ch} (h : q.off < p.off ∨ p.off + 6 ≤ q.off) : (store6 W p x).cell? q = W.cell? q := by
  unfold store6
  have h0 : p ≠ q := by rintro rfl; omega
  have hk : ∀ i, i < 6 → (⟨p.block, p.off + i, none⟩ : Addr) ≠ q := by rintro i hi rfl; simp at h; omega
  rw [cfar (hk 5 (by omega)), cfar (hk 4 (by omega)), cfar (hk 3 (by omega)), cfar (hk 2 (by omega)), cfar (hk 1 (by omega)), cfar h0]
theorem store6_frozen {W : World} {p q : Addr} {x : Ch} : (store6 W p x).frozen? q = W.frozen? q := by
  unfold store6
  simp only [World.frozen?_setCell]
theorem store6_new {W : World} {p : Addr} {x y : Ch} (h : cells6 W p y) : cells6 (store6 W p x) p x := by
  obtain ⟨h0, h1, h2, h3, h4, h5⟩ := h
  have k0 : ∀ i, (⟨p.block, p.off + (i + 1), none⟩ : Addr) ≠ p := by
    intro i e
    have := congrArg Addr.off e
    simp at this
  have k : ∀ i j, i ≠ j → (⟨p.block, p.off + i, none⟩ : Addr) ≠ ⟨p.block, p.off + j, none⟩ := by
    intro i j hij e
    have := congrArg Addr.off e
    simp at this
    omega
  have k0' : ∀ i, p ≠ (⟨p.block, p.off + (i + 1), none⟩ : Addr) := fun i => (k0 i).symm
  unfold store6
  refine ⟨?_, ?_, ?_, ?_, ?_, ?_⟩
  · rw [cfar (k0 4), cfar (k0 3), cfar (k0 2), cfar (k0 1), cfar (k0 0), csame h0]
  · rw [cfar (k 5 1 (by omega)), cfar (k 4 1 (by omega)), cfar (k 3 1 (by omega)), cfar (k 2 1 (by omega))]
    exact csame (u := .int .i64 y.ep) (by rw [cfar (k0' 0)]; exact h1)
  · rw [cfar (k 5 2 (by omega)), cfar (k 4 2 (by omega)), cfar (k 3 2 (by omega))]
    exact csame (u := .int .i64 y.who) (by rw [cfar (k 1 2 (by omega)), cfar (k0' 1)]; exact h2)
  · rw [cfar (k 5 3 (by omega)), cfar (k 4 3 (by omega))]
    exact csame (u := .bool y.al) (by rw [cfar (k 2 3 (by omega)), cfar (k 1 3 (by omega)), cfar (k0' 2)]; exact h3)
  · rw [cfar (k 5 4 (by omega))]
    exact csame (u := .int .i64 y.kd) (by rw [cfar (k 3 4 (by omega)), cfar (k 2 4 (by omega)), cfar (k 1 4 (by omega)), cfar (k0' 3)]; exact h4)
  · exact csame (u := .int .i64 y.sc) (by rw [cfar (k 4 5 (by omega)), cfar (k 3 5 (by omega)), cfar (k 2 5 (by omega)), cfar (k 1 5 (by omega)), cfar (k0' 4)]; exact h5)
theorem row_store {W : World} {ad : Addr} {n i : Nat} {R : Nat → Ch} {x : Ch} (h : RowC W ad n R) (hi : i < n) : RowC (store6 W (ad.add (i * 6)) x) ad n (fun t => if t = i then x else R t) := by
  intro t ht
  obtain ⟨hc, hu⟩ := h t ht
  refine ⟨?_, by unfold unf6; simp only [store6_frozen]; exact hu⟩
  by_cases e : t = i
  · subst e
    simp only [if_true]
    exact store6_new hc
  · simp only [if_neg e]
    have far : ∀ j, j < 6 → ∀ b s, (store6 W (ad.add (i * 6)) x).cell? ⟨b, (ad.add (t * 6)).off + j, s⟩ = W.cell? ⟨b, (ad.add (t * 6)).off + j, s⟩ := fun j hj b s => store6_far (by
      rw [add_off, add_off]
      show ad.off + t * 6 + j < _ ∨ _ ≤ ad.off + t * 6 + j
      omega)
    have far0 : (store6 W (ad.add (i * 6)) x).cell? (ad.add (t * 6)) = W.cell? (ad.add (t * 6)) := store6_far (by rw [add_off, add_off]; omega)
    exact ⟨far0.trans hc.1, (far 1 (by omega) _ _).trans hc.2.1, (far 2 (by omega) _ _).trans hc.2.2.1, (far 3 (by omega) _ _).trans hc.2.2.2.1, (far 4 (by omega) _ _).trans hc.2.2.2.2.1, (far 5 (by omega) _ _).trans hc.2.2.2.2.2⟩
theorem RowC.below {W W' : World} {ad : Addr} {n B : Nat} {R : Nat → Ch} (h : RowC W ad n R) (hB : ad.block < B) (hb : Below B W W') : RowC W' ad n R := by
  intro t ht
  obtain ⟨hc, hu⟩ := h t ht
  have hB' : (ad.add (t * 6)).block < B := by rw [block_of_add]; exact hB
  refine ⟨hc.below hB' hb, ?_⟩
  exact ⟨(hb.frozen hB').trans hu.1, (hb.frozen (p := ⟨_, _, none⟩) hB').trans hu.2.1, (hb.frozen (p := ⟨_, _, none⟩) hB').trans hu.2.2.1, (hb.frozen (p := ⟨_, _, none⟩) hB').trans hu.2.2.2.1, (hb.frozen (p := ⟨_, _, none⟩) hB').trans hu.2.2.2.2.1, (hb.frozen (p := ⟨_, _, none⟩) hB').trans hu.2.2.2.2.2⟩
theorem OwnC.row {w : World} {base : Nat} {v : Value} {rs : List Ch} (h : OwnC w base v rs) (hs : ∀ x ∈ rs, x.name.size ≤ maxLen) (hn : 0 < rs.length) : ∃ ad c, v = .slice (some ad) rs.length c ∧ ad.spot = none ∧ base ≤ ad.block ∧ ad.block < w.heap.size ∧ rs.length ≤ c ∧ RowC w ad rs.length (fun t => (rs[t]?).getD Ch0) := by
  obtain ⟨A, c0, e, hc⟩ := h.at_ hs
  rcases h.2 with ⟨rfl, hn'⟩ | ⟨g, cap, cur, rfl, hg, hcur, hcap, _⟩
  · omega
  · obtain ⟨rfl, _, rfl⟩ := Value.slice.inj e
    obtain ⟨ad, h1, h2, h3⟩ := hc.2.2 hn
    obtain rfl := Option.some.inj h1
    refine ⟨_, _, rfl, rfl, hg, h2, hcap, fun t ht => ⟨?_, ?_⟩⟩
    · have := h3 t _ (List.getElem?_eq_getElem ht)
      simp only [List.getElem?_eq_getElem ht, Option.getD_some]
      exact this
    · have hf : ∀ o s, w.frozen? ⟨g, o, s⟩ = false := fun o s => by unfold World.frozen?; rw [hcur]; simp
      rw [Addr.add_lit]
      exact ⟨hf _ _, hf _ _, hf _ _, hf _ _, hf _ _, hf _ _⟩
theorem row_chs {w : World} {ad : Addr} {n m : Nat} {R : Nat → Ch} {L : List Ch} (h : RowC w ad n R) (hm : m ≤ n) (hl : L.length = m) (hs : ∀ x ∈ L, x.name.size ≤ maxLen) (hR : ∀ t x, L[t]? = some x → R t = x) (hab : ad.block < w.heap.size) : ChsAt w w.heap.size (some ad) m L := by
  refine ⟨hl, hs, fun _ => ⟨ad, rfl, hab, fun j x hx => ?_⟩⟩
  have hj := (List.getElem?_eq_some_iff.1 hx).1
  rw [← hR j x hx]
  exact (h j (by omega)).1
set_option maxHeartbeats 2000000 in
theorem alive1_any (s : ByteArray) (e m : Int) (al : Bool) (k0 sc : Int) (w : World) : Calls Try.prog 43 #[.agg #[.string s, .int .i64 e, .int .i64 m, .bool al, .int .i64 k0, .int .i64 sc]] w fun x w' => x = .returned (.bool (!al)) ∧ Below w.heap.size w w' := by
  go_enter Try.func43, Try.ntmps43
  go_wp2
  go_ret
  exact ⟨rfl, (by repeat (first | with_reducible refine Below.setCell ?_ (by first | (simp; done) | (simp; omega) | omega) _ | with_reducible refine Below.alloc ?_ (by first | (simp; done) | (simp; omega) | omega) _ | with_reducible refine Below.drew ?_ | with_reducible refine below_drewN ?_ _ | with_reducible exact Below.refl _ _))⟩
/-- The place of the first one that is not alive. -/
def deadAt (L : List Ch) (r : Int) : Prop := (r = -1 ∧ ∀ x ∈ L, x.al = true) ∨ ∃ k : Nat, r = k ∧ k < L.length ∧ (∀ x ∈ L.take k, x.al = true) ∧ ∃ x, L[k]? = some x ∧ x.al = false
theorem mem_take {L : List Ch} {j : Nat} {d y : Ch} (hd : L[j]? = some d) (hy : y ∈ L.take (j + 1)) : y ∈ L.take j ∨ y = d := by
  rw [List.take_add_one, hd] at hy
  simpa using hy
set_option maxRecDepth 100000 in
set_option maxHeartbeats 8000000 in
theorem indexFunc_any (A : Option Addr) (n cp : Nat) (L : List Ch) (w : World) (hr : ChsAt w w.heap.size A n L) (hm : n * 56 ≤ 140737488351232) :
    Calls Try.prog 46 #[.slice A n cp, .func (.func 43) #[] #[]] w fun x w' => ∃ r, x = .returned (.int .i64 r) ∧ deadAt L r ∧ Below w.heap.size w w' := by
  have HR := Lib.hid hr
  clear hr
  go_enter Try.func46, Try.ntmps46
  go_wp2
  go_loopw [8] (fun i w' => ∃ (k : Nat), k ≤ n ∧ i = .int .i64 k ∧ Hid (∀ x ∈ L.take k, x.al = true) ∧ KeptC w [] [] w') (fun i _ => n - (intOf i).toNat)
  case atStart => exact ⟨0, Nat.zero_le _, rfl, Lib.hid (by simp), (by (repeat' (first | refine KeptC.cons ?_ ?_ | refine KeptC.consF ?_ ?_ ?_ | refine KeptC.mk0 ?_)); all_goals (first | with_reducible assumption | (go_simp; done) | (simp; omega) | exact (by repeat (first | with_reducible refine Below.setCell ?_ (by first | (simp; done) | (simp; omega) | omega) _ | with_reducible refine Below.alloc ?_ (by first | (simp; done) | (simp; omega) | omega) _ | with_reducible refine Below.drew ?_ | with_reducible refine below_drewN ?_ _ | with_reducible exact Below.refl _ _))))⟩
  case round =>
    obtain ⟨k, hk, rfl, HA, hK⟩ := hrel
    have kb0 := hK.1
    clear hK
    by_cases hlt : k < n
    rotate_left
    · obtain rfl : k = n := by omega
      go_wp2
      go_ret
      refine ⟨_, rfl, .inl ⟨rfl, ?_⟩, kb0⟩
      have := HA.out
      rwa [List.take_of_length_le (Nat.le_of_eq HR.out.1)] at this
    · obtain ⟨ad, x, hA, hab, hx, hsz, hc6⟩ := HR.out.get hlt
      subst hA
      obtain ⟨p, hp⟩ : ∃ p, ad.add (k * 6) = p := ⟨_, rfl⟩
      have hpb : p.block < w.heap.size := by rw [← hp, block_of_add]; exact hab
      rw [hp] at hc6
      have hws := kb0.size
      have hpw : p.block < wr.heap.size := by omega
      obtain ⟨c0, c1, c2, c3, c4, c5⟩ := hc6.below hpb kb0
      obtain ⟨xs, xe, xm, xa, xk, xc⟩ := x
      have HX := Lib.hid hx
      clear hx hsz hc6
      simp only [] at c0 c1 c2 c3 c4 c5
      cases xa with
      | true =>
        go_wp2_with (fail)
        refine (alive1_any xs xe xm true xk xc _).mono ?_; rintro x w2 ⟨rfl, hb2⟩
        go_wp2
        go_roundw
        case rel => exact ⟨k + 1, by omega, by go_num, Lib.hid (fun y hy => by
          rcases mem_take HX.out hy with h | h
          · exact HA.out y h
          · rw [h]), (by (repeat' (first | refine KeptC.cons ?_ ?_ | refine KeptC.consF ?_ ?_ ?_ | refine KeptC.mk0 ?_)); all_goals (first | with_reducible assumption | (go_simp; done) | (simp; omega) | exact (by repeat (first | with_reducible refine Below.setCell ?_ (by first | (simp; done) | (simp; omega) | omega) _ | with_reducible refine Below.alloc ?_ (by first | (simp; done) | (simp; omega) | omega) _ | with_reducible refine Below.drew ?_ | with_reducible refine below_drewN ?_ _ | with_reducible exact Below.refl _ _ | with_reducible refine Below.trans ?_ (Below.mono kb0 (by first | (simp; done) | (simp; omega) | omega)) | with_reducible refine Below.trans ?_ (Below.mono hb2 (by first | (simp; done) | (simp; omega) | omega))))))⟩
        case measure => simp [intOf]; omega
      | false =>
        go_wp2_with (fail)
        refine (alive1_any xs xe xm false xk xc _).mono ?_; rintro x w2 ⟨rfl, hb2⟩
        go_wp2
        go_ret
        exact ⟨_, rfl, .inr ⟨k, rfl, by have := HR.out.1; omega, HA.out, _, HX.out, rfl⟩, (by repeat (first | with_reducible refine Below.setCell ?_ (by first | (simp; done) | (simp; omega) | omega) _ | with_reducible refine Below.alloc ?_ (by first | (simp; done) | (simp; omega) | omega) _ | with_reducible refine Below.drew ?_ | with_reducible refine below_drewN ?_ _ | with_reducible exact Below.refl _ _ | with_reducible refine Below.trans ?_ (Below.mono kb0 (by first | (simp; done) | (simp; omega) | omega)) | with_reducible refine Below.trans ?_ (Below.mono hb2 (by first | (simp; done) | (simp; omega) | omega))))⟩
theorem add_eq {ad : Addr} (h : ad.spot = none) (m : Nat) : ad.add m = ⟨ad.block, ad.off + m, none⟩ := by
  obtain ⟨b, o, s⟩ := ad
  subst h
  exact Addr.add_lit ..
theorem zero_chan (w : World) : (zeroValue 38).run Try.prog w = .ok (.agg #[.string ⟨#[]⟩, .int .i64 0, .int .i64 0, .bool false, .int .i64 0, .int .i64 0]) w := by kernel_rfl
def zerosC (k : Nat) : List Value := (Builtin.zeroCells #[.string ⟨#[]⟩, .int .i64 0, .int .i64 0, .bool false, .int .i64 0, .int .i64 0] k).toList
theorem zerosC_len (k : Nat) : (zerosC k).length = k * 6 := by unfold zerosC Builtin.zeroCells; simp
theorem zerosC_one (k : Nat) : ∀ v ∈ zerosC k, v.oneCell' = true := by
  intro v hv
  unfold zerosC Builtin.zeroCells at hv
  simp at hv
  obtain ⟨i, _, rfl⟩ := hv
  have h6 : i % 6 < 6 := Nat.mod_lt _ (by omega)
  generalize i % 6 = r at h6
  match r, h6 with
  | 0, _ | 1, _ | 2, _ | 3, _ | 4, _ | 5, _ => rfl
theorem run_clear_chs (W : World) (p : Addr) (hp : p.spot = none) (k c : Nat) (hk : 0 < k) (hc : ∀ j, j < k * 6 → (W.cell? ⟨p.block, p.off + j, none⟩).isSome = true) (hf : ∀ j, j < k * 6 → W.frozen? ⟨p.block, p.off + j, none⟩ = false) (ty : TypeId) :
    (Builtin.clear_ #[22] ty #[.slice (some p) k c]).run Try.prog W = .ok (.tuple #[]) (W.setCells p.block p.off (zerosC k)) := by
  obtain ⟨b, o, s⟩ := p
  subst hp
  have hst := run_storeCells_cells (P := Try.prog) b o (zerosC k) 0 W (by simpa [zerosC_len] using hc) (by simpa [zerosC_len] using hf) (zerosC_one k)
  simp only [Nat.add_zero] at hst
  obtain ⟨m, rfl⟩ : ∃ m, k = m + 1 := ⟨k - 1, by omega⟩
  unfold zerosC at hst ⊢
  simp [Builtin.clear_, run_underlying Try.underlying22, Value.cells, hst]
theorem below_setCells {B b : Nat} {w : World} (hB : B ≤ b) : ∀ (vs : List Value) (o : Nat) {W : World}, Below B w W → Below B w (W.setCells b o vs)
  | [], _, _, h => h
  | v :: vs, o, W, h => below_setCells hB vs (o + 1) (h.setCell hB _)
theorem RowC.at_ {W : World} {ad : Addr} {n : Nat} {R : Nat → Ch} (h : RowC W ad n R) (hs : ad.spot = none) {m : Nat} (hm : m < n * 6) : (W.cell? ⟨ad.block, ad.off + m, none⟩).isSome = true ∧ W.frozen? ⟨ad.block, ad.off + m, none⟩ = false := by
  obtain ⟨⟨c0, c1, c2, c3, c4, c5⟩, f0, f1, f2, f3, f4, f5⟩ := h (m / 6) (by omega)
  rw [add_eq hs] at c0 c1 c2 c3 c4 c5 f0 f1 f2 f3 f4 f5
  have e : m = m / 6 * 6 + m % 6 := by omega
  have h6 : m % 6 < 6 := Nat.mod_lt _ (by omega)
  generalize m / 6 * 6 = q at *
  generalize m % 6 = r at *
  subst e
  match r, h6 with
  | 0, _ => exact ⟨by rw [Nat.add_zero, c0]; rfl, by rw [Nat.add_zero]; exact f0⟩
  | 1, _ => exact ⟨by rw [← Nat.add_assoc, c1]; rfl, by rw [← Nat.add_assoc]; exact f1⟩
  | 2, _ => exact ⟨by rw [← Nat.add_assoc, c2]; rfl, by rw [← Nat.add_assoc]; exact f2⟩
  | 3, _ => exact ⟨by rw [← Nat.add_assoc, c3]; rfl, by rw [← Nat.add_assoc]; exact f3⟩
  | 4, _ => exact ⟨by rw [← Nat.add_assoc, c4]; rfl, by rw [← Nat.add_assoc]; exact f4⟩
  | 5, _ => exact ⟨by rw [← Nat.add_assoc, c5]; rfl, by rw [← Nat.add_assoc]; exact f5⟩
theorem row_clear {W : World} {ad : Addr} {n i : Nat} {R : Nat → Ch} (h : RowC W ad n R) (hi : i ≤ n) (vs : List Value) : RowC (W.setCells ad.block (ad.off + i * 6) vs) ad i R := by
  intro t ht
  obtain ⟨hc, hu⟩ := h t (by omega)
  refine ⟨?_, by unfold unf6; simp only [World.frozen?_setCells]; exact hu⟩
  have far : ∀ j, j < 6 → ∀ b s, (W.setCells ad.block (ad.off + i * 6) vs).cell? ⟨b, (ad.add (t * 6)).off + j, s⟩ = W.cell? ⟨b, (ad.add (t * 6)).off + j, s⟩ := fun j hj b s => World.cell?_setCells_out _ _ _ _ _ fun _ _ => .inl (by
    rw [add_off]
    show ad.off + t * 6 + j < _
    omega)
  have far0 : (W.setCells ad.block (ad.off + i * 6) vs).cell? (ad.add (t * 6)) = W.cell? (ad.add (t * 6)) := World.cell?_setCells_out _ _ _ _ _ fun _ _ => .inl (by rw [add_off]; omega)
  exact ⟨far0.trans hc.1, (far 1 (by omega) _ _).trans hc.2.1, (far 2 (by omega) _ _).trans hc.2.2.1, (far 3 (by omega) _ _).trans hc.2.2.2.1, (far 4 (by omega) _ _).trans hc.2.2.2.2.1, (far 5 (by omega) _ _).trans hc.2.2.2.2.2⟩
def aliveF (L : List Ch) : List Ch := L.filter (·.al)
theorem aliveF_next {L : List Ch} {j : Nat} {x : Ch} (hx : L[j]? = some x) : aliveF (L.take (j + 1)) = if x.al = true then aliveF (L.take j) ++ [x] else aliveF (L.take j) := by
  unfold aliveF
  rw [List.take_add_one, hx, List.filter_append]
  cases h : x.al <;> simp [h]
theorem aliveF_all {L : List Ch} (h : ∀ x ∈ L, x.al = true) : aliveF L = L := List.filter_eq_self.2 h
/-- What stands in the row when j records were looked at. -/
def KeepI (L : List Ch) (j : Nat) (R : Nat → Ch) : Prop := (∀ t x, (aliveF (L.take j))[t]? = some x → R t = x) ∧ ∀ t x, j ≤ t → L[t]? = some x → R t = x
theorem aliveF_le (L : List Ch) (j : Nat) : (aliveF (L.take j)).length ≤ j := Nat.le_trans (List.length_filter_le _ _) (by simp; omega)
theorem keep_dead {L : List Ch} {j : Nat} {R : Nat → Ch} {x : Ch} (h : KeepI L j R) (hx : L[j]? = some x) (ha : x.al = false) : KeepI L (j + 1) R := by
  refine ⟨fun t y hy => h.1 t y ?_, fun t y ht => h.2 t y (by omega)⟩
  rw [aliveF_next hx, if_neg (by rw [ha]; simp)] at hy
  exact hy
theorem keep_alive {L : List Ch} {j : Nat} {R : Nat → Ch} {x : Ch} (h : KeepI L j R) (hx : L[j]? = some x) (ha : x.al = true) (hlt : (aliveF (L.take j)).length < j + 1) : KeepI L (j + 1) (fun t => if t = (aliveF (L.take j)).length then x else R t) := by
  refine ⟨fun t y hy => ?_, fun t y ht hy => ?_⟩
  · rw [aliveF_next hx, if_pos ha] at hy
    by_cases e : t = (aliveF (L.take j)).length
    · subst e
      simpa using hy
    · simp only [if_neg e]
      refine h.1 t y ?_
      rcases Nat.lt_or_ge t (aliveF (L.take j)).length with h1 | h1
      · rwa [List.getElem?_append_left h1] at hy
      · rw [List.getElem?_append_right h1] at hy
        obtain ⟨h2, _⟩ := List.getElem?_eq_some_iff.1 hy
        simp at h2
        omega
  · simp only [if_neg (show ¬ t = (aliveF (L.take j)).length by omega)]
    exact h.2 t y (by omega) hy
end Go.Proofs.Ytblaccmphofbcaa
