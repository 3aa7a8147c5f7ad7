/- Lists of channels' records: their cells; Fits and Find of dir and of its reference: what each call computes, for every argument. -/
import Derived.Test.YtfihkkamedghkaaDir
import Derived.Test.YtfihkkamedghkaaReads
import Derived.ChangeSame
import Derived.Deep.Slices
import Derived.Deep.Fields
import Derived.SizedLaws
import Derived.Lib.SmallJoins
import Derived.OpenShut
namespace Go.Proofs.Ytfihkkamedghkaa
open Go.ChangeShapes Go.WideShapes Go.RowKit Go.Deep
set_option linter.unusedVariables false
section
variable {H : Type} {enc : TypeId × Value → H} {P : Program} {w : World} {base : Nat} {spare : Nat → Bool} {held : Bool}
theorem open_slice_fields {t e : TypeId} {fs : Array Field} {fuel : Nat} {cs : List Value} {x : DataW H × List MemPlace} (ht : P.underlying t = some (.slice e)) (he : P.underlying e = some (.struct fs))
    (hone : oneCellFields P fs = true) (hC : P.cellsOf e = fs.size) (h : DataW.trod enc P w base spare held fuel t cs = some x) :
    (cs = [.slice none 0 0] ∧ x = (.nil, [])) ∨
    ∃ (a : Addr) (len cap m : Nat) (D : Nat → DataW H) (Pl : Nat → List MemPlace), cs = [.slice (some a) len cap] ∧ base ≤ a.block ∧ len ≤ cap ∧ cap ≤ maxLen ∧ m = (if spare a.block then cap else len) ∧
      x = (.slice ((List.range len).map D) ((List.range (m - len)).map fun j => D (len + j)), MemPlace.row a (m * fs.size) ++ (List.range m).flatMap Pl) ∧
      ∀ i, i < m → ∃ (ys : List (DataW H × List MemPlace)) (n : Nat), D i = .agg (ys.map (·.1)) ∧ Pl i = ys.flatMap (·.2) ∧ ys.length = fs.size ∧
        ∀ (j : Nat) (f : Field), fs[j]? = some f → ∃ (v : Value) (y : DataW H × List MemPlace), w.cell? (a.add (i * fs.size + j)) = some v ∧ ys[j]? = some y ∧ DataW.trod enc P w base spare held n f.type [v] = some y := by
  rcases open_slice ht h with h0 | ⟨a, len, cap, m, n, D, Pl, hcs, hb, hl, hm, hmm, hx, hi⟩
  · exact .inl h0
  · refine .inr ⟨a, len, cap, m, D, Pl, hcs, hb, hl, hm, hmm, by rw [hC] at hx; exact hx, fun i him => ?_⟩
    obtain ⟨cs', hc, ht'⟩ := hi i him
    rw [hC] at hc
    obtain ⟨ys, n', hn', hy, hlen, hyl, hf⟩ := DataW.trod_struct he ht'
    obtain ⟨_, hcl, hat⟩ := World.cells?_some hc
    simp only [Prod.mk.injEq] at hy
    refine ⟨ys, n', hy.1, hy.2, hyl, fun j f hj => ?_⟩
    obtain ⟨ho, hk⟩ := hone_of hone j f hj
    have hjl : j < fs.size := (Array.getElem?_eq_some_iff.1 hj).1
    have hcell := hat j hjl
    have hv : cs'[j]? = some (cs'[j]'(by omega)) := List.getElem?_eq_getElem (by omega)
    have h1 := hf j f hj
    rw [ho, hk] at h1
    have hone' : (cs'.drop j).take 1 = [cs'[j]'(by omega)] := by
      rw [List.drop_eq_getElem_cons (by omega)]
      rfl
    rw [hone'] at h1
    have hys : ys[j]? = some (ys[j]'(by omega)) := List.getElem?_eq_getElem (by omega)
    refine ⟨_, _, ?_, hys, h1.trans hys⟩
    rw [← Go.Deep.add_add, hcell, hv]
end
theorem add_next (a : Addr) (i : Nat) : a.add (i + 1) = ⟨a.block, a.off + (i + 1), none⟩ := by simp [Addr.add]
theorem add_off (a : Addr) (i : Nat) : (a.add i).off = a.off + i := by unfold Addr.add; split <;> simp_all
/-- The record's cells. -/
def cells6 (w : World) (p : Addr) (x : Ch) : Prop := w.cell? p = some (.string x.name) ∧ w.cell? ⟨p.block, p.off + 1, none⟩ = some (.int .i64 x.ep) ∧ w.cell? ⟨p.block, p.off + 2, none⟩ = some (.int .i64 x.who) ∧ w.cell? ⟨p.block, p.off + 3, none⟩ = some (.bool x.al) ∧ w.cell? ⟨p.block, p.off + 4, none⟩ = some (.int .i64 x.kd) ∧ w.cell? ⟨p.block, p.off + 5, none⟩ = some (.int .i64 x.sc)
theorem cells6.below {w w' : World} {B : Nat} {p : Addr} {x : Ch} (h : cells6 w p x) (hp : p.block < B) (hb : Below B w w') : cells6 w' p x :=
  ⟨(hb.cell hp).trans h.1, (hb.cell (p := ⟨p.block, p.off + 1, none⟩) hp).trans h.2.1, (hb.cell (p := ⟨p.block, p.off + 2, none⟩) hp).trans h.2.2.1, (hb.cell (p := ⟨p.block, p.off + 3, none⟩) hp).trans h.2.2.2.1, (hb.cell (p := ⟨p.block, p.off + 4, none⟩) hp).trans h.2.2.2.2.1, (hb.cell (p := ⟨p.block, p.off + 5, none⟩) hp).trans h.2.2.2.2.2⟩
/-- The cells of a slice of records. -/
def ChsAt (w : World) (B : Nat) (A : Option Addr) (n : Nat) (rs : List Ch) : Prop :=
  rs.length = n ∧ (∀ x ∈ rs, x.name.size ≤ maxLen) ∧ (0 < n → ∃ ad, A = some ad ∧ ad.block < B ∧ ∀ j x, rs[j]? = some x → cells6 w (ad.add (j * 6)) x)
theorem ChsAt.below {w w' : World} {B n : Nat} {A : Option Addr} {rs : List Ch} (h : ChsAt w B A n rs) (hb : Below B w w') : ChsAt w' B A n rs :=
  ⟨h.1, h.2.1, fun hn => by
    obtain ⟨ad, e, hab, hc⟩ := h.2.2 hn
    exact ⟨ad, e, hab, fun j x hx => (hc j x hx).below (by rw [block_of_add]; exact hab) hb⟩⟩
theorem ChsAt.more {w : World} {B B' n : Nat} {A : Option Addr} {rs : List Ch} (h : ChsAt w B A n rs) (hB : B ≤ B') : ChsAt w B' A n rs :=
  ⟨h.1, h.2.1, fun hn => by
    obtain ⟨ad, e, hab, hc⟩ := h.2.2 hn
    exact ⟨ad, e, by omega, hc⟩⟩
theorem ChsAt.get {w : World} {B n : Nat} {A : Option Addr} {rs : List Ch} (h : ChsAt w B A n rs) {k : Nat} (hk : k < n) : ∃ ad x, A = some ad ∧ ad.block < B ∧ rs[k]? = some x ∧ x.name.size ≤ maxLen ∧ cells6 w (ad.add (k * 6)) x := by
  obtain ⟨ad, e, hab, hc⟩ := h.2.2 (by omega)
  have hl : k < rs.length := by rw [h.1]; exact hk
  exact ⟨ad, rs[k], e, hab, List.getElem?_eq_getElem hl, h.2.1 _ (List.getElem_mem hl), hc k _ (List.getElem?_eq_getElem hl)⟩
def ltN (a b : ByteArray) : Bool := Op.bytesLess a.toList b.toList
/-- Is the record at a place one, and behind that of ahead? -/
def okAt (rs : List Ch) (i : Nat) : Bool := match rs[i]? with
  | some c => chFit c.name c.ep c.who c.kd c.sc && (match i with | 0 => true | j + 1 => (match rs[j]? with | some d => ltN d.name c.name | none => false))
  | none => false
def fitsB (rs : List Ch) : Bool := decide (rs.length ≤ 8) && (List.range rs.length).all (okAt rs)
theorem okAt_zero {rs : List Ch} {c : Ch} (h : rs[0]? = some c) : okAt rs 0 = chFit c.name c.ep c.who c.kd c.sc := by unfold okAt; rw [h]; simp
theorem okAt_succ {rs : List Ch} {j : Nat} {c d : Ch} (h : rs[j + 1]? = some c) (h2 : rs[j]? = some d) : okAt rs (j + 1) = (chFit c.name c.ep c.who c.kd c.sc && ltN d.name c.name) := by unfold okAt; rw [h]; simp only []; rw [h2]
theorem fits_stop {rs : List Ch} {k : Nat} (hk : k < rs.length) (h : okAt rs k = false) : fitsB rs = false := by
  have : (List.range rs.length).all (okAt rs) = false := by
    rw [List.all_eq_false]
    exact ⟨k, List.mem_range.2 hk, by simp [h]⟩
  unfold fitsB
  rw [this, Bool.and_false]
theorem fits_long {rs : List Ch} (h : 8 < rs.length) : fitsB rs = false := by unfold fitsB; rw [decide_eq_false (by omega)]; rfl
theorem range_next (rs : List Ch) (k : Nat) : (List.range (k + 1)).all (okAt rs) = ((List.range k).all (okAt rs) && okAt rs k) := by
  rw [List.range_succ, List.all_append]
  simp
theorem fits_all {rs : List Ch} (hl : rs.length ≤ 8) (h : (List.range rs.length).all (okAt rs) = true) : fitsB rs = true := by unfold fitsB; rw [h, decide_eq_true hl]; rfl
set_option maxRecDepth 100000 in
set_option maxHeartbeats 8000000 in
theorem fits_any (A : Option Addr) (n cp : Nat) (rs : List Ch) (w : World) (hr : ChsAt w w.heap.size A n rs) (hm : n * 56 ≤ 140737488351232) :
    Calls Try.prog 58 #[.slice A n cp] w fun x w' => x = .returned (.bool (fitsB rs)) ∧ Below w.heap.size w w' := by
  have HR := Lib.hid hr
  clear hr
  by_cases hlong : 8 < n
  · have hlong' : (8 : Int) < (n : Int) := by omega
    go_enter Try.func58, Try.ntmps58
    go_wp2
    go_ret
    exact ⟨by rw [fits_long (by rw [HR.out.1]; exact hlong)]; rfl, Below.refl _ _⟩
  have hlong' : ¬ (8 : Int) < (n : Int) := by omega
  go_enter Try.func58, Try.ntmps58
  go_wp2
  go_loopw [10] (fun i w' => ∃ k : Nat, k ≤ n ∧ i = .int .i64 k ∧ (List.range k).all (okAt rs) = true ∧ KeptC w [] [] w') (fun i _ => n - (intOf i).toNat)
  case atStart => exact ⟨0, Nat.zero_le _, rfl, rfl, (by (repeat' (first | refine KeptC.cons ?_ ?_ | refine KeptC.consF ?_ ?_ ?_ | refine KeptC.mk0 ?_)); all_goals (first | with_reducible assumption | (go_simp; done) | (simp; omega) | exact (by repeat (first | with_reducible refine Below.setCell ?_ (by first | (simp; done) | (simp; omega) | omega) _ | with_reducible refine Below.alloc ?_ (by first | (simp; done) | (simp; omega) | omega) _ | with_reducible refine Below.drew ?_ | with_reducible refine below_drewN ?_ _ | with_reducible exact Below.refl _ _))))⟩
  case round =>
    obtain ⟨k, hk, rfl, hA0, hK⟩ := hrel
    have HA := Lib.hid hA0
    clear hA0
    simp only [KeptC, List.forall_mem_cons] at hK; obtain ⟨kb0, _, _⟩ := hK
    by_cases hlt : k < n
    rotate_left
    · obtain rfl : k = n := by omega
      go_wp2
      go_ret
      exact ⟨by rw [fits_all (by rw [HR.out.1]; omega) (by rw [HR.out.1]; exact HA.out)]; rfl, kb0⟩
    · have hrl := HR.out.1
      cases k with
      | zero =>
        obtain ⟨ad, x, hA, hab, hx, hsz, hc6⟩ := HR.out.get hlt
        subst hA
        obtain ⟨p, hp⟩ : ∃ p, ad.add (0 * 6) = p := ⟨_, rfl⟩
        have hpb : p.block < w.heap.size := by rw [← hp, block_of_add]; exact hab
        rw [hp] at hc6
        obtain ⟨c0, c1, c2, c3, c4, c5⟩ := hc6.below hpb kb0
        obtain ⟨s, e, m, al, k0, sc⟩ := x
        simp only [] at c0 c1 c2 c3 c4 c5 hsz
        have cf := fun w => fit_any s e m al k0 sc w
        have hws := kb0.size
        have hpw : p.block < wr.heap.size := by omega
        have ho := okAt_zero hx
        simp only [] at ho
        cases hf : chFit s e m k0 sc with
        | false =>
          rw [hf] at ho cf
          have HO := Lib.hid ho; have CF := Lib.hid cf
          clear ho cf hf hx hc6 hrl
          go_wp2_with (fail)
          refine wp_region_quietC_lit (KeptC w [(⟨wr.heap.size, 0, none⟩, .string s), (⟨wr.heap.size, 1, none⟩, .int .i64 e), (⟨wr.heap.size, 2, none⟩, .int .i64 m), (⟨wr.heap.size, 3, none⟩, .bool al), (⟨wr.heap.size, 4, none⟩, .int .i64 k0), (⟨wr.heap.size, 5, none⟩, .int .i64 sc)] []) (by kernel_rfl) (by kernel_rfl) ?_ ?_
          · refine KeptC.drewn ?_
            repeat' (first | refine KeptC.cons ?_ ?_ | refine KeptC.consF ?_ ?_ ?_ | refine KeptC.mk0 ?_)
            all_goals (first | with_reducible assumption | (go_simp; done) | (simp; omega) | exact (by repeat (first | with_reducible refine Below.setCell ?_ (by first | (simp; done) | (simp; omega) | omega) _ | with_reducible refine Below.alloc ?_ (by first | (simp; done) | (simp; omega) | omega) _ | with_reducible refine Below.drew ?_ | with_reducible refine below_drewN ?_ _ | with_reducible exact Below.refl _ _ | with_reducible refine Below.trans ?_ (Below.mono kb0 (by first | (simp; done) | (simp; omega) | omega)))))
          repeat (first
            | go_big_quiet_skip
            | (go_big_quiet_want; (apply quietC_run); (· intro w' hw'; (have hk' := hw'; simp only [KeptC, List.forall_mem_cons] at hk'; go_split_ands); go_simp; first | done | rfl); (simp only [Act.put, List.setIfInBounds_toArray, List.set_cons_zero, List.set_cons_succ]; go_big_quiet_on))
            | (go_big_quiet_want; (apply quietC_call); (· intro w' hw'; go_simp; first | done | exact ⟨rfl, rfl⟩ | rfl); (· intro w' hw'; first | ((with_reducible refine (CF.out _).mono ?_); rintro e w2 ⟨rfl, hb⟩; exact ⟨rfl, hw'.below hb⟩)); (simp only [Act.put, List.setIfInBounds_toArray, List.set_cons_zero, List.set_cons_succ]; go_big_quiet_on)))
          refine wpQuiet_nil ?_
          intro w1 hk1
          (have hk' := hk1; simp only [KeptC, List.forall_mem_cons] at hk'; go_split_ands); have hkB1 := hk1.1
          go_wp2
          go_ret
          exact ⟨by rw [fits_stop (by rw [HR.out.1]; exact hlt) HO.out]; rfl, hkB1⟩
        | true =>
          rw [hf] at ho cf
          have HO := Lib.hid ho; have CF := Lib.hid cf
          clear ho cf hf hx hc6 hrl
          go_wp2_with (fail)
          refine wp_region_quietC_lit (KeptC w [(⟨wr.heap.size, 0, none⟩, .string s), (⟨wr.heap.size, 1, none⟩, .int .i64 e), (⟨wr.heap.size, 2, none⟩, .int .i64 m), (⟨wr.heap.size, 3, none⟩, .bool al), (⟨wr.heap.size, 4, none⟩, .int .i64 k0), (⟨wr.heap.size, 5, none⟩, .int .i64 sc)] []) (by kernel_rfl) (by kernel_rfl) ?_ ?_
          · refine KeptC.drewn ?_
            repeat' (first | refine KeptC.cons ?_ ?_ | refine KeptC.consF ?_ ?_ ?_ | refine KeptC.mk0 ?_)
            all_goals (first | with_reducible assumption | (go_simp; done) | (simp; omega) | exact (by repeat (first | with_reducible refine Below.setCell ?_ (by first | (simp; done) | (simp; omega) | omega) _ | with_reducible refine Below.alloc ?_ (by first | (simp; done) | (simp; omega) | omega) _ | with_reducible refine Below.drew ?_ | with_reducible refine below_drewN ?_ _ | with_reducible exact Below.refl _ _ | with_reducible refine Below.trans ?_ (Below.mono kb0 (by first | (simp; done) | (simp; omega) | omega)))))
          repeat (first
            | go_big_quiet_skip
            | (go_big_quiet_want; (apply quietC_run); (· intro w' hw'; (have hk' := hw'; simp only [KeptC, List.forall_mem_cons] at hk'; go_split_ands); go_simp; first | done | rfl); (simp only [Act.put, List.setIfInBounds_toArray, List.set_cons_zero, List.set_cons_succ]; go_big_quiet_on))
            | (go_big_quiet_want; (apply quietC_call); (· intro w' hw'; go_simp; first | done | exact ⟨rfl, rfl⟩ | rfl); (· intro w' hw'; first | ((with_reducible refine (CF.out _).mono ?_); rintro e w2 ⟨rfl, hb⟩; exact ⟨rfl, hw'.below hb⟩)); (simp only [Act.put, List.setIfInBounds_toArray, List.set_cons_zero, List.set_cons_succ]; go_big_quiet_on)))
          refine wpQuiet_nil ?_
          intro w1 hk1
          (have hk' := hk1; simp only [KeptC, List.forall_mem_cons] at hk'; go_split_ands); have hkB1 := hk1.1
          go_wp2
          go_roundw
          case rel => exact ⟨0 + 1, by omega, by go_num, by have h := range_next rs 0; rw [HA.out, HO.out] at h; exact h, (by (repeat' (first | refine KeptC.cons ?_ ?_ | refine KeptC.consF ?_ ?_ ?_ | refine KeptC.mk0 ?_)); all_goals (first | with_reducible assumption | (go_simp; done) | (simp; omega) | exact (by repeat (first | with_reducible refine Below.setCell ?_ (by first | (simp; done) | (simp; omega) | omega) _ | with_reducible refine Below.alloc ?_ (by first | (simp; done) | (simp; omega) | omega) _ | with_reducible refine Below.drew ?_ | with_reducible refine below_drewN ?_ _ | with_reducible exact Below.refl _ _ | with_reducible refine Below.trans ?_ (Below.mono hkB1 (by first | (simp; done) | (simp; omega) | omega))))))⟩
          case measure => simp [intOf]; omega
      | succ k =>
        obtain ⟨ad, x, hA, hab, hx, hsz, hc6⟩ := HR.out.get hlt
        subst hA
        obtain ⟨p, hp⟩ : ∃ p, ad.add ((k + 1) * 6) = p := ⟨_, rfl⟩
        have hpb : p.block < w.heap.size := by rw [← hp, block_of_add]; exact hab
        rw [hp] at hc6
        obtain ⟨c0, c1, c2, c3, c4, c5⟩ := hc6.below hpb kb0
        obtain ⟨s, e, m, al, k0, sc⟩ := x
        simp only [] at c0 c1 c2 c3 c4 c5 hsz
        have cf := fun w => fit_any s e m al k0 sc w
        have hws := kb0.size
        have hpw : p.block < wr.heap.size := by omega
        obtain ⟨ad2, y, hA2, _, hy, _, hd6⟩ := HR.out.get (k := k) (by omega)
        obtain rfl : ad = ad2 := Option.some.inj hA2
        obtain ⟨q, hq⟩ : ∃ q, ad.add (k * 6) = q := ⟨_, rfl⟩
        have hqb : q.block < w.heap.size := by rw [← hq, block_of_add]; exact hab
        rw [hq] at hd6
        obtain ⟨d0, _⟩ := hd6.below hqb kb0
        have hqw : q.block < wr.heap.size := by omega
        obtain ⟨d, _, _, _, _, _⟩ := y
        simp only [] at d0
        have hwk : IntKind.i64.wrap (k : Int) = k := by rw [IntKind.wrap_i64]; omega
        have hkn : k < n := by omega
        have ho := okAt_succ hx hy
        simp only [] at ho
        cases hf : chFit s e m k0 sc with
        | false =>
          rw [hf, Bool.false_and] at ho
          rw [hf] at cf
          have HO := Lib.hid ho; have CF := Lib.hid cf
          clear ho cf hf hx hy hc6 hd6 hrl
          go_wp2_with (fail)
          refine wp_region_quietC_lit (KeptC w [(⟨wr.heap.size, 0, none⟩, .string s), (⟨wr.heap.size, 1, none⟩, .int .i64 e), (⟨wr.heap.size, 2, none⟩, .int .i64 m), (⟨wr.heap.size, 3, none⟩, .bool al), (⟨wr.heap.size, 4, none⟩, .int .i64 k0), (⟨wr.heap.size, 5, none⟩, .int .i64 sc), (q, .string d)] []) (by kernel_rfl) (by kernel_rfl) ?_ ?_
          · refine KeptC.drewn ?_
            repeat' (first | refine KeptC.cons ?_ ?_ | refine KeptC.consF ?_ ?_ ?_ | refine KeptC.mk0 ?_)
            all_goals (first | with_reducible assumption | (go_simp; done) | (simp; omega) | exact (by repeat (first | with_reducible refine Below.setCell ?_ (by first | (simp; done) | (simp; omega) | omega) _ | with_reducible refine Below.alloc ?_ (by first | (simp; done) | (simp; omega) | omega) _ | with_reducible refine Below.drew ?_ | with_reducible refine below_drewN ?_ _ | with_reducible exact Below.refl _ _ | with_reducible refine Below.trans ?_ (Below.mono kb0 (by first | (simp; done) | (simp; omega) | omega)))))
          repeat (first
            | go_big_quiet_skip
            | (go_big_quiet_want; (apply quietC_run); (· intro w' hw'; (have hk' := hw'; simp only [KeptC, List.forall_mem_cons] at hk'; go_split_ands); go_simp; first | done | rfl); (simp only [Act.put, List.setIfInBounds_toArray, List.set_cons_zero, List.set_cons_succ]; go_big_quiet_on))
            | (go_big_quiet_want; (apply quietC_call); (· intro w' hw'; go_simp; first | done | exact ⟨rfl, rfl⟩ | rfl); (· intro w' hw'; first | ((with_reducible refine (CF.out _).mono ?_); rintro e w2 ⟨rfl, hb⟩; exact ⟨rfl, hw'.below hb⟩)); (simp only [Act.put, List.setIfInBounds_toArray, List.set_cons_zero, List.set_cons_succ]; go_big_quiet_on)))
          refine wpQuiet_nil ?_
          intro w1 hk1
          (have hk' := hk1; simp only [KeptC, List.forall_mem_cons] at hk'; go_split_ands); have hkB1 := hk1.1
          go_wp2
          go_ret
          exact ⟨by rw [fits_stop (by rw [HR.out.1]; exact hlt) HO.out]; rfl, hkB1⟩
        | true =>
          rw [hf, Bool.true_and] at ho
          rw [hf] at cf
          unfold ltN at ho
          cases hl : Op.bytesLess d.toList s.toList with
          | false =>
            rw [hl] at ho
            have HO := Lib.hid ho; have CF := Lib.hid cf
            clear ho cf hf hx hy hc6 hd6 hrl
            go_wp2_with (fail)
            refine wp_region_quietC_lit (KeptC w [(⟨wr.heap.size, 0, none⟩, .string s), (⟨wr.heap.size, 1, none⟩, .int .i64 e), (⟨wr.heap.size, 2, none⟩, .int .i64 m), (⟨wr.heap.size, 3, none⟩, .bool al), (⟨wr.heap.size, 4, none⟩, .int .i64 k0), (⟨wr.heap.size, 5, none⟩, .int .i64 sc), (q, .string d)] []) (by kernel_rfl) (by kernel_rfl) ?_ ?_
            · refine KeptC.drewn ?_
              repeat' (first | refine KeptC.cons ?_ ?_ | refine KeptC.consF ?_ ?_ ?_ | refine KeptC.mk0 ?_)
              all_goals (first | with_reducible assumption | (go_simp; done) | (simp; omega) | exact (by repeat (first | with_reducible refine Below.setCell ?_ (by first | (simp; done) | (simp; omega) | omega) _ | with_reducible refine Below.alloc ?_ (by first | (simp; done) | (simp; omega) | omega) _ | with_reducible refine Below.drew ?_ | with_reducible refine below_drewN ?_ _ | with_reducible exact Below.refl _ _ | with_reducible refine Below.trans ?_ (Below.mono kb0 (by first | (simp; done) | (simp; omega) | omega)))))
            repeat (first
              | go_big_quiet_skip
              | (go_big_quiet_want; (apply quietC_run); (· intro w' hw'; (have hk' := hw'; simp only [KeptC, List.forall_mem_cons] at hk'; go_split_ands); go_simp; first | done | rfl); (simp only [Act.put, List.setIfInBounds_toArray, List.set_cons_zero, List.set_cons_succ]; go_big_quiet_on))
              | (go_big_quiet_want; (apply quietC_call); (· intro w' hw'; go_simp; first | done | exact ⟨rfl, rfl⟩ | rfl); (· intro w' hw'; first | ((with_reducible refine (CF.out _).mono ?_); rintro e w2 ⟨rfl, hb⟩; exact ⟨rfl, hw'.below hb⟩)); (simp only [Act.put, List.setIfInBounds_toArray, List.set_cons_zero, List.set_cons_succ]; go_big_quiet_on)))
            refine wpQuiet_nil ?_
            intro w1 hk1
            (have hk' := hk1; simp only [KeptC, List.forall_mem_cons] at hk'; go_split_ands); have hkB1 := hk1.1
            go_wp2
            go_ret
            exact ⟨by rw [fits_stop (by rw [HR.out.1]; exact hlt) HO.out]; rfl, hkB1⟩
          | true =>
            rw [hl] at ho
            have HO := Lib.hid ho; have CF := Lib.hid cf
            clear ho cf hf hx hy hc6 hd6 hrl
            go_wp2_with (fail)
            refine wp_region_quietC_lit (KeptC w [(⟨wr.heap.size, 0, none⟩, .string s), (⟨wr.heap.size, 1, none⟩, .int .i64 e), (⟨wr.heap.size, 2, none⟩, .int .i64 m), (⟨wr.heap.size, 3, none⟩, .bool al), (⟨wr.heap.size, 4, none⟩, .int .i64 k0), (⟨wr.heap.size, 5, none⟩, .int .i64 sc), (q, .string d)] []) (by kernel_rfl) (by kernel_rfl) ?_ ?_
            · refine KeptC.drewn ?_
              repeat' (first | refine KeptC.cons ?_ ?_ | refine KeptC.consF ?_ ?_ ?_ | refine KeptC.mk0 ?_)
              all_goals (first | with_reducible assumption | (go_simp; done) | (simp; omega) | exact (by repeat (first | with_reducible refine Below.setCell ?_ (by first | (simp; done) | (simp; omega) | omega) _ | with_reducible refine Below.alloc ?_ (by first | (simp; done) | (simp; omega) | omega) _ | with_reducible refine Below.drew ?_ | with_reducible refine below_drewN ?_ _ | with_reducible exact Below.refl _ _ | with_reducible refine Below.trans ?_ (Below.mono kb0 (by first | (simp; done) | (simp; omega) | omega)))))
            repeat (first
              | go_big_quiet_skip
              | (go_big_quiet_want; (apply quietC_run); (· intro w' hw'; (have hk' := hw'; simp only [KeptC, List.forall_mem_cons] at hk'; go_split_ands); go_simp; first | done | rfl); (simp only [Act.put, List.setIfInBounds_toArray, List.set_cons_zero, List.set_cons_succ]; go_big_quiet_on))
              | (go_big_quiet_want; (apply quietC_call); (· intro w' hw'; go_simp; first | done | exact ⟨rfl, rfl⟩ | rfl); (· intro w' hw'; first | ((with_reducible refine (CF.out _).mono ?_); rintro e w2 ⟨rfl, hb⟩; exact ⟨rfl, hw'.below hb⟩)); (simp only [Act.put, List.setIfInBounds_toArray, List.set_cons_zero, List.set_cons_succ]; go_big_quiet_on)))
            refine wpQuiet_nil ?_
            intro w1 hk1
            (have hk' := hk1; simp only [KeptC, List.forall_mem_cons] at hk'; go_split_ands); have hkB1 := hk1.1
            go_wp2
            go_roundw
            case rel => exact ⟨k + 1 + 1, by omega, by go_num, by have h := range_next rs (k + 1); rw [HA.out, HO.out] at h; exact h, (by (repeat' (first | refine KeptC.cons ?_ ?_ | refine KeptC.consF ?_ ?_ ?_ | refine KeptC.mk0 ?_)); all_goals (first | with_reducible assumption | (go_simp; done) | (simp; omega) | exact (by repeat (first | with_reducible refine Below.setCell ?_ (by first | (simp; done) | (simp; omega) | omega) _ | with_reducible refine Below.alloc ?_ (by first | (simp; done) | (simp; omega) | omega) _ | with_reducible refine Below.drew ?_ | with_reducible refine below_drewN ?_ _ | with_reducible exact Below.refl _ _ | with_reducible refine Below.trans ?_ (Below.mono hkB1 (by first | (simp; done) | (simp; omega) | omega))))))⟩
            case measure => simp [intOf]; omega
set_option maxRecDepth 100000 in
set_option maxHeartbeats 8000000 in
theorem rfits_any (A : Option Addr) (n cp : Nat) (rs : List Ch) (w : World) (hr : ChsAt w w.heap.size A n rs) (hm : n * 56 ≤ 140737488351232) :
    Calls Try.prog 39 #[.slice A n cp] w fun x w' => x = .returned (.bool (fitsB rs)) ∧ Below w.heap.size w w' := by
  have HR := Lib.hid hr
  clear hr
  go_enter Try.func39, Try.ntmps39
  go_wp2
  go_loopw [3] (fun i w' => ∃ k : Nat, k ≤ n ∧ i = .int .i64 k ∧ (List.range k).all (okAt rs) = true ∧ k ≤ 8 ∧ KeptC w [] [] w') (fun i _ => n - (intOf i).toNat)
  case atStart => exact ⟨0, Nat.zero_le _, rfl, rfl, by omega, (by (repeat' (first | refine KeptC.cons ?_ ?_ | refine KeptC.consF ?_ ?_ ?_ | refine KeptC.mk0 ?_)); all_goals (first | with_reducible assumption | (go_simp; done) | (simp; omega) | exact (by repeat (first | with_reducible refine Below.setCell ?_ (by first | (simp; done) | (simp; omega) | omega) _ | with_reducible refine Below.alloc ?_ (by first | (simp; done) | (simp; omega) | omega) _ | with_reducible refine Below.drew ?_ | with_reducible refine below_drewN ?_ _ | with_reducible exact Below.refl _ _))))⟩
  case round =>
    obtain ⟨k, hk, rfl, hA0, hk8, hK⟩ := hrel
    have HA := Lib.hid hA0
    clear hA0
    simp only [KeptC, List.forall_mem_cons] at hK; obtain ⟨kb0, _, _⟩ := hK
    by_cases hlt : k < n
    rotate_left
    · obtain rfl : k = n := by omega
      have HE : Hid (fitsB rs = true) := fits_all (by rw [HR.out.1]; omega) (by rw [HR.out.1]; exact HA.out)
      go_wp2
      go_ret
      exact ⟨by rw [HE.out]; rfl, kb0⟩
    by_cases h8 : 8 ≤ k
    · have hk8' : (8 : Int) ≤ (k : Int) := by omega
      go_wp2_with (fail)
      refine wp_region_quietC_lit (KeptC w [] []) (by kernel_rfl) (by kernel_rfl) ?_ ?_
      · refine KeptC.drewn ?_
        repeat' (first | refine KeptC.cons ?_ ?_ | refine KeptC.consF ?_ ?_ ?_ | refine KeptC.mk0 ?_)
        all_goals (first | with_reducible assumption | (go_simp; done) | (simp; omega) | exact (by repeat (first | with_reducible refine Below.setCell ?_ (by first | (simp; done) | (simp; omega) | omega) _ | with_reducible refine Below.alloc ?_ (by first | (simp; done) | (simp; omega) | omega) _ | with_reducible refine Below.drew ?_ | with_reducible refine below_drewN ?_ _ | with_reducible exact Below.refl _ _ | with_reducible refine Below.trans ?_ (Below.mono kb0 (by first | (simp; done) | (simp; omega) | omega)))))
      repeat (first
        | go_big_quiet_skip
        | (go_big_quiet_want; (apply quietC_run); (· intro w' hw'; (have hk' := hw'; simp only [KeptC, List.forall_mem_cons] at hk'; go_split_ands); go_simp; first | done | rfl); (simp only [Act.put, List.setIfInBounds_toArray, List.set_cons_zero, List.set_cons_succ]; go_big_quiet_on))
        | (go_big_quiet_want; (apply quietC_call); (· intro w' hw'; go_simp; first | done | exact ⟨rfl, rfl⟩ | rfl); (· intro w' hw'; first | fail); (simp only [Act.put, List.setIfInBounds_toArray, List.set_cons_zero, List.set_cons_succ]; go_big_quiet_on)))
      refine wpQuiet_nil ?_
      intro w1 hk1
      (have hk' := hk1; simp only [KeptC, List.forall_mem_cons] at hk'; go_split_ands); have hkB1 := hk1.1
      go_wp2
      go_ret
      exact ⟨by rw [fits_long (by rw [HR.out.1]; omega)]; rfl, hkB1⟩
    · have hrl := HR.out.1
      cases k with
      | zero =>
        obtain ⟨ad, x, hA, hab, hx, hsz, hc6⟩ := HR.out.get hlt
        subst hA
        obtain ⟨p, hp⟩ : ∃ p, ad.add (0 * 6) = p := ⟨_, rfl⟩
        have hpb : p.block < w.heap.size := by rw [← hp, block_of_add]; exact hab
        rw [hp] at hc6
        obtain ⟨c0, c1, c2, c3, c4, c5⟩ := hc6.below hpb kb0
        obtain ⟨s, e, m, al, k0, sc⟩ := x
        simp only [] at c0 c1 c2 c3 c4 c5 hsz
        have cf := fun w => rfit_any s e m al k0 sc hsz w
        have hws := kb0.size
        have hpw : p.block < wr.heap.size := by omega
        have hl8 : ¬ 8 ≤ ((0 : Nat) : Int) := by omega
        have ho := okAt_zero hx
        simp only [] at ho
        cases hf : chFit s e m k0 sc with
        | false =>
          rw [hf] at ho cf
          have HO := Lib.hid ho; have CF := Lib.hid cf
          clear ho cf hf hx hc6 hrl
          go_wp2_with (fail)
          refine wp_region_quietC_lit (KeptC w [(p, .string s), (⟨p.block, p.off + 1, none⟩, .int .i64 e), (⟨p.block, p.off + 2, none⟩, .int .i64 m), (⟨p.block, p.off + 3, none⟩, .bool al), (⟨p.block, p.off + 4, none⟩, .int .i64 k0), (⟨p.block, p.off + 5, none⟩, .int .i64 sc)] []) (by kernel_rfl) (by kernel_rfl) ?_ ?_
          · refine KeptC.drewn ?_
            repeat' (first | refine KeptC.cons ?_ ?_ | refine KeptC.consF ?_ ?_ ?_ | refine KeptC.mk0 ?_)
            all_goals (first | with_reducible assumption | (go_simp; done) | (simp; omega) | exact (by repeat (first | with_reducible refine Below.setCell ?_ (by first | (simp; done) | (simp; omega) | omega) _ | with_reducible refine Below.alloc ?_ (by first | (simp; done) | (simp; omega) | omega) _ | with_reducible refine Below.drew ?_ | with_reducible refine below_drewN ?_ _ | with_reducible exact Below.refl _ _ | with_reducible refine Below.trans ?_ (Below.mono kb0 (by first | (simp; done) | (simp; omega) | omega)))))
          repeat (first
            | go_big_quiet_skip
            | (go_big_quiet_want; (apply quietC_run); (· intro w' hw'; (have hk' := hw'; simp only [KeptC, List.forall_mem_cons] at hk'; go_split_ands); go_simp; first | done | rfl); (simp only [Act.put, List.setIfInBounds_toArray, List.set_cons_zero, List.set_cons_succ]; go_big_quiet_on))
            | (go_big_quiet_want; (apply quietC_call); (· intro w' hw'; go_simp; first | done | exact ⟨rfl, rfl⟩ | rfl); (· intro w' hw'; first | ((with_reducible refine (CF.out _).mono ?_); rintro e w2 ⟨rfl, hb⟩; exact ⟨rfl, hw'.below hb⟩)); (simp only [Act.put, List.setIfInBounds_toArray, List.set_cons_zero, List.set_cons_succ]; go_big_quiet_on)))
          refine wpQuiet_nil ?_
          intro w1 hk1
          (have hk' := hk1; simp only [KeptC, List.forall_mem_cons] at hk'; go_split_ands); have hkB1 := hk1.1
          go_wp2
          go_ret
          exact ⟨by rw [fits_stop (by rw [HR.out.1]; exact hlt) HO.out]; rfl, hkB1⟩
        | true =>
          rw [hf] at ho cf
          have HO := Lib.hid ho; have CF := Lib.hid cf
          clear ho cf hf hx hc6 hrl
          go_wp2_with (fail)
          refine wp_region_quietC_lit (KeptC w [(p, .string s), (⟨p.block, p.off + 1, none⟩, .int .i64 e), (⟨p.block, p.off + 2, none⟩, .int .i64 m), (⟨p.block, p.off + 3, none⟩, .bool al), (⟨p.block, p.off + 4, none⟩, .int .i64 k0), (⟨p.block, p.off + 5, none⟩, .int .i64 sc)] []) (by kernel_rfl) (by kernel_rfl) ?_ ?_
          · refine KeptC.drewn ?_
            repeat' (first | refine KeptC.cons ?_ ?_ | refine KeptC.consF ?_ ?_ ?_ | refine KeptC.mk0 ?_)
            all_goals (first | with_reducible assumption | (go_simp; done) | (simp; omega) | exact (by repeat (first | with_reducible refine Below.setCell ?_ (by first | (simp; done) | (simp; omega) | omega) _ | with_reducible refine Below.alloc ?_ (by first | (simp; done) | (simp; omega) | omega) _ | with_reducible refine Below.drew ?_ | with_reducible refine below_drewN ?_ _ | with_reducible exact Below.refl _ _ | with_reducible refine Below.trans ?_ (Below.mono kb0 (by first | (simp; done) | (simp; omega) | omega)))))
          repeat (first
            | go_big_quiet_skip
            | (go_big_quiet_want; (apply quietC_run); (· intro w' hw'; (have hk' := hw'; simp only [KeptC, List.forall_mem_cons] at hk'; go_split_ands); go_simp; first | done | rfl); (simp only [Act.put, List.setIfInBounds_toArray, List.set_cons_zero, List.set_cons_succ]; go_big_quiet_on))
            | (go_big_quiet_want; (apply quietC_call); (· intro w' hw'; go_simp; first | done | exact ⟨rfl, rfl⟩ | rfl); (· intro w' hw'; first | ((with_reducible refine (CF.out _).mono ?_); rintro e w2 ⟨rfl, hb⟩; exact ⟨rfl, hw'.below hb⟩)); (simp only [Act.put, List.setIfInBounds_toArray, List.set_cons_zero, List.set_cons_succ]; go_big_quiet_on)))
          refine wpQuiet_nil ?_
          intro w1 hk1
          (have hk' := hk1; simp only [KeptC, List.forall_mem_cons] at hk'; go_split_ands); have hkB1 := hk1.1
          go_wp2
          go_roundw
          case rel => exact ⟨0 + 1, by omega, by go_num, by have h := range_next rs 0; rw [HA.out, HO.out] at h; exact h, by omega, (by (repeat' (first | refine KeptC.cons ?_ ?_ | refine KeptC.consF ?_ ?_ ?_ | refine KeptC.mk0 ?_)); all_goals (first | with_reducible assumption | (go_simp; done) | (simp; omega) | exact (by repeat (first | with_reducible refine Below.setCell ?_ (by first | (simp; done) | (simp; omega) | omega) _ | with_reducible refine Below.alloc ?_ (by first | (simp; done) | (simp; omega) | omega) _ | with_reducible refine Below.drew ?_ | with_reducible refine below_drewN ?_ _ | with_reducible exact Below.refl _ _ | with_reducible refine Below.trans ?_ (Below.mono hkB1 (by first | (simp; done) | (simp; omega) | omega))))))⟩
          case measure => simp [intOf]; omega
      | succ k =>
        obtain ⟨ad, x, hA, hab, hx, hsz, hc6⟩ := HR.out.get hlt
        subst hA
        obtain ⟨p, hp⟩ : ∃ p, ad.add ((k + 1) * 6) = p := ⟨_, rfl⟩
        have hpb : p.block < w.heap.size := by rw [← hp, block_of_add]; exact hab
        rw [hp] at hc6
        obtain ⟨c0, c1, c2, c3, c4, c5⟩ := hc6.below hpb kb0
        obtain ⟨s, e, m, al, k0, sc⟩ := x
        simp only [] at c0 c1 c2 c3 c4 c5 hsz
        have cf := fun w => rfit_any s e m al k0 sc hsz w
        have hws := kb0.size
        have hpw : p.block < wr.heap.size := by omega
        have hl8 : decide ((8 : Int) ≤ (k : Int) + 1) = false := decide_eq_false (by omega)
        obtain ⟨ad2, y, hA2, _, hy, _, hd6⟩ := HR.out.get (k := k) (by omega)
        obtain rfl : ad = ad2 := Option.some.inj hA2
        obtain ⟨q, hq⟩ : ∃ q, ad.add (k * 6) = q := ⟨_, rfl⟩
        have hqb : q.block < w.heap.size := by rw [← hq, block_of_add]; exact hab
        rw [hq] at hd6
        obtain ⟨d0, _⟩ := hd6.below hqb kb0
        have hqw : q.block < wr.heap.size := by omega
        obtain ⟨d, _, _, _, _, _⟩ := y
        simp only [] at d0
        have hwk : IntKind.i64.wrap (k : Int) = k := by rw [IntKind.wrap_i64]; omega
        have hkn : k < n := by omega
        have ho := okAt_succ hx hy
        simp only [] at ho
        cases hf : chFit s e m k0 sc with
        | false =>
          rw [hf, Bool.false_and] at ho
          rw [hf] at cf
          have HO := Lib.hid ho; have CF := Lib.hid cf
          clear ho cf hf hx hy hc6 hd6 hrl
          go_wp2_with (fail)
          refine wp_region_quietC_lit (KeptC w [(p, .string s), (⟨p.block, p.off + 1, none⟩, .int .i64 e), (⟨p.block, p.off + 2, none⟩, .int .i64 m), (⟨p.block, p.off + 3, none⟩, .bool al), (⟨p.block, p.off + 4, none⟩, .int .i64 k0), (⟨p.block, p.off + 5, none⟩, .int .i64 sc), (q, .string d)] []) (by kernel_rfl) (by kernel_rfl) ?_ ?_
          · refine KeptC.drewn ?_
            repeat' (first | refine KeptC.cons ?_ ?_ | refine KeptC.consF ?_ ?_ ?_ | refine KeptC.mk0 ?_)
            all_goals (first | with_reducible assumption | (go_simp; done) | (simp; omega) | exact (by repeat (first | with_reducible refine Below.setCell ?_ (by first | (simp; done) | (simp; omega) | omega) _ | with_reducible refine Below.alloc ?_ (by first | (simp; done) | (simp; omega) | omega) _ | with_reducible refine Below.drew ?_ | with_reducible refine below_drewN ?_ _ | with_reducible exact Below.refl _ _ | with_reducible refine Below.trans ?_ (Below.mono kb0 (by first | (simp; done) | (simp; omega) | omega)))))
          repeat (first
            | go_big_quiet_skip
            | (go_big_quiet_want; (apply quietC_run); (· intro w' hw'; (have hk' := hw'; simp only [KeptC, List.forall_mem_cons] at hk'; go_split_ands); go_simp; first | done | rfl); (simp only [Act.put, List.setIfInBounds_toArray, List.set_cons_zero, List.set_cons_succ]; go_big_quiet_on))
            | (go_big_quiet_want; (apply quietC_call); (· intro w' hw'; go_simp; first | done | exact ⟨rfl, rfl⟩ | rfl); (· intro w' hw'; first | ((with_reducible refine (CF.out _).mono ?_); rintro e w2 ⟨rfl, hb⟩; exact ⟨rfl, hw'.below hb⟩)); (simp only [Act.put, List.setIfInBounds_toArray, List.set_cons_zero, List.set_cons_succ]; go_big_quiet_on)))
          refine wpQuiet_nil ?_
          intro w1 hk1
          (have hk' := hk1; simp only [KeptC, List.forall_mem_cons] at hk'; go_split_ands); have hkB1 := hk1.1
          go_wp2
          go_ret
          exact ⟨by rw [fits_stop (by rw [HR.out.1]; exact hlt) HO.out]; rfl, hkB1⟩
        | true =>
          rw [hf, Bool.true_and] at ho
          rw [hf] at cf
          unfold ltN at ho
          cases hl : Op.bytesLess d.toList s.toList with
          | false =>
            rw [hl] at ho
            have HO := Lib.hid ho; have CF := Lib.hid cf
            clear ho cf hf hx hy hc6 hd6 hrl
            go_wp2_with (fail)
            refine wp_region_quietC_lit (KeptC w [(p, .string s), (⟨p.block, p.off + 1, none⟩, .int .i64 e), (⟨p.block, p.off + 2, none⟩, .int .i64 m), (⟨p.block, p.off + 3, none⟩, .bool al), (⟨p.block, p.off + 4, none⟩, .int .i64 k0), (⟨p.block, p.off + 5, none⟩, .int .i64 sc), (q, .string d)] []) (by kernel_rfl) (by kernel_rfl) ?_ ?_
            · refine KeptC.drewn ?_
              repeat' (first | refine KeptC.cons ?_ ?_ | refine KeptC.consF ?_ ?_ ?_ | refine KeptC.mk0 ?_)
              all_goals (first | with_reducible assumption | (go_simp; done) | (simp; omega) | exact (by repeat (first | with_reducible refine Below.setCell ?_ (by first | (simp; done) | (simp; omega) | omega) _ | with_reducible refine Below.alloc ?_ (by first | (simp; done) | (simp; omega) | omega) _ | with_reducible refine Below.drew ?_ | with_reducible refine below_drewN ?_ _ | with_reducible exact Below.refl _ _ | with_reducible refine Below.trans ?_ (Below.mono kb0 (by first | (simp; done) | (simp; omega) | omega)))))
            repeat (first
              | go_big_quiet_skip
              | (go_big_quiet_want; (apply quietC_run); (· intro w' hw'; (have hk' := hw'; simp only [KeptC, List.forall_mem_cons] at hk'; go_split_ands); go_simp; first | done | rfl); (simp only [Act.put, List.setIfInBounds_toArray, List.set_cons_zero, List.set_cons_succ]; go_big_quiet_on))
              | (go_big_quiet_want; (apply quietC_call); (· intro w' hw'; go_simp; first | done | exact ⟨rfl, rfl⟩ | rfl); (· intro w' hw'; first | ((with_reducible refine (CF.out _).mono ?_); rintro e w2 ⟨rfl, hb⟩; exact ⟨rfl, hw'.below hb⟩)); (simp only [Act.put, List.setIfInBounds_toArray, List.set_cons_zero, List.set_cons_succ]; go_big_quiet_on)))
            refine wpQuiet_nil ?_
            intro w1 hk1
            (have hk' := hk1; simp only [KeptC, List.forall_mem_cons] at hk'; go_split_ands); have hkB1 := hk1.1
            go_wp2
            go_ret
            exact ⟨by rw [fits_stop (by rw [HR.out.1]; exact hlt) HO.out]; rfl, hkB1⟩
          | true =>
            rw [hl] at ho
            have HO := Lib.hid ho; have CF := Lib.hid cf
            clear ho cf hf hx hy hc6 hd6 hrl
            go_wp2_with (fail)
            refine wp_region_quietC_lit (KeptC w [(p, .string s), (⟨p.block, p.off + 1, none⟩, .int .i64 e), (⟨p.block, p.off + 2, none⟩, .int .i64 m), (⟨p.block, p.off + 3, none⟩, .bool al), (⟨p.block, p.off + 4, none⟩, .int .i64 k0), (⟨p.block, p.off + 5, none⟩, .int .i64 sc), (q, .string d)] []) (by kernel_rfl) (by kernel_rfl) ?_ ?_
            · refine KeptC.drewn ?_
              repeat' (first | refine KeptC.cons ?_ ?_ | refine KeptC.consF ?_ ?_ ?_ | refine KeptC.mk0 ?_)
              all_goals (first | with_reducible assumption | (go_simp; done) | (simp; omega) | exact (by repeat (first | with_reducible refine Below.setCell ?_ (by first | (simp; done) | (simp; omega) | omega) _ | with_reducible refine Below.alloc ?_ (by first | (simp; done) | (simp; omega) | omega) _ | with_reducible refine Below.drew ?_ | with_reducible refine below_drewN ?_ _ | with_reducible exact Below.refl _ _ | with_reducible refine Below.trans ?_ (Below.mono kb0 (by first | (simp; done) | (simp; omega) | omega)))))
            repeat (first
              | go_big_quiet_skip
              | (go_big_quiet_want; (apply quietC_run); (· intro w' hw'; (have hk' := hw'; simp only [KeptC, List.forall_mem_cons] at hk'; go_split_ands); go_simp; first | done | rfl); (simp only [Act.put, List.setIfInBounds_toArray, List.set_cons_zero, List.set_cons_succ]; go_big_quiet_on))
              | (go_big_quiet_want; (apply quietC_call); (· intro w' hw'; go_simp; first | done | exact ⟨rfl, rfl⟩ | rfl); (· intro w' hw'; first | ((with_reducible refine (CF.out _).mono ?_); rintro e w2 ⟨rfl, hb⟩; exact ⟨rfl, hw'.below hb⟩)); (simp only [Act.put, List.setIfInBounds_toArray, List.set_cons_zero, List.set_cons_succ]; go_big_quiet_on)))
            refine wpQuiet_nil ?_
            intro w1 hk1
            (have hk' := hk1; simp only [KeptC, List.forall_mem_cons] at hk'; go_split_ands); have hkB1 := hk1.1
            go_wp2
            go_roundw
            case rel => exact ⟨k + 1 + 1, by omega, by go_num, by have h := range_next rs (k + 1); rw [HA.out, HO.out] at h; exact h, by omega, (by (repeat' (first | refine KeptC.cons ?_ ?_ | refine KeptC.consF ?_ ?_ ?_ | refine KeptC.mk0 ?_)); all_goals (first | with_reducible assumption | (go_simp; done) | (simp; omega) | exact (by repeat (first | with_reducible refine Below.setCell ?_ (by first | (simp; done) | (simp; omega) | omega) _ | with_reducible refine Below.alloc ?_ (by first | (simp; done) | (simp; omega) | omega) _ | with_reducible refine Below.drew ?_ | with_reducible refine below_drewN ?_ _ | with_reducible exact Below.refl _ _ | with_reducible refine Below.trans ?_ (Below.mono hkB1 (by first | (simp; done) | (simp; omega) | omega))))))⟩
            case measure => simp [intOf]; omega
end Go.Proofs.Ytfihkkamedghkaa
