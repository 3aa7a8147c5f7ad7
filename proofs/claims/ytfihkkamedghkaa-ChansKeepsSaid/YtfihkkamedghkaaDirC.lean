/- Copies of lists of records: slices.Clone, copied of the reference and of the statements: what each call computes, for every argument. -/
import Derived.Test.YtfihkkamedghkaaDirF
import Derived.Test.YtfihkkamedghkaaApp
import Derived.Test.YtfihkkamedghkaaQuiet
import Derived.Lib.SliceRun
namespace Go.Proofs.Ytfihkkamedghkaa
open Go.ChangeShapes Go.WideShapes Go.RowKit
set_option linter.unusedVariables false
def chV (c : Ch) : List Value := [.string c.name, .int .i64 c.ep, .int .i64 c.who, .bool c.al, .int .i64 c.kd, .int .i64 c.sc]
def flatC (cs : List Ch) : List Value := cs.flatMap chV
theorem row_slice {W : World} {base : Nat} {e : TypeId} {size : Nat} {v : Value} {n : Nat} {xs : List Value} (h : W.ownsRow base e size v n xs) : ∃ A c, v = .slice A n c := by
  rcases h.2 with ⟨rfl, rfl⟩ | ⟨g, cap, cur, rfl, _⟩
  · exact ⟨none, 0, rfl⟩
  · exact ⟨_, _, rfl⟩
theorem chan_inf : (Try.prog.info? 38).map (fun i => (i.zero, i.size, i.bytes)) = some (some (.agg #[.string ⟨#[]⟩, .int .i64 0, .int .i64 0, .bool false, .int .i64 0, .int .i64 0]), 6, 56) := by kernel_rfl
theorem chV_one (c : Ch) : ∀ u ∈ chV c, u.oneCell' = true := by
  intro u hu
  simp only [chV, List.mem_cons, List.not_mem_nil, or_false] at hu
  rcases hu with rfl | rfl | rfl | rfl | rfl | rfl <;> rfl
theorem flatC_one (cs : List Ch) : ∀ u ∈ flatC cs, u.oneCell' = true := by
  intro u hu
  obtain ⟨c, _, h⟩ := List.mem_flatMap.1 hu
  exact chV_one c u h
theorem flatC_snoc (cs : List Ch) (c : Ch) : flatC (cs ++ [c]) = flatC cs ++ chV c := by unfold flatC; simp
theorem flatC_len (cs : List Ch) : (flatC cs).length = cs.length * 6 := by
  induction cs with
  | nil => rfl
  | cons c cs ih =>
    have : flatC (c :: cs) = chV c ++ flatC cs := rfl
    rw [this, List.length_append, ih]
    simp [chV]
    omega
theorem flatC_at : ∀ (cs : List Ch) (j i : Nat), i < 6 → (flatC cs)[j * 6 + i]? = (cs[j]?).bind fun c => (chV c)[i]? := by
  intro cs
  induction cs with
  | nil => intro j i hi; simp [flatC]
  | cons c cs ih =>
    intro j i hi
    have hd : flatC (c :: cs) = chV c ++ flatC cs := rfl
    have hl : (chV c).length = 6 := rfl
    rw [hd]
    cases j with
    | zero =>
      rw [List.getElem?_append_left (by omega)]
      simp
    | succ j =>
      rw [List.getElem?_append_right (by omega), hl, show (j + 1) * 6 + i - 6 = j * 6 + i by omega, ih j i hi]
      simp
theorem ChsAt.reads {w : World} {B n : Nat} {A : Option Addr} {rs : List Ch} (h : ChsAt w B A n rs) : Reads w B 6 A n (flatC rs) := by
  refine ⟨by rw [flatC_len, h.1], fun hn => ?_⟩
  obtain ⟨ad, e, hb, hc⟩ := h.2.2 hn
  refine ⟨ad, e, hb, fun j u hu => ?_⟩
  have hj : j < rs.length * 6 := by have := (List.getElem?_eq_some_iff.1 hu).1; rwa [flatC_len] at this
  obtain ⟨q, i, hi, rfl⟩ : ∃ q i, i < 6 ∧ j = q * 6 + i := ⟨j / 6, j % 6, Nat.mod_lt _ (by omega), by omega⟩
  have hq : q < rs.length := by omega
  rw [flatC_at rs q i hi, List.getElem?_eq_getElem hq] at hu
  obtain ⟨c0, c1, c2, c3, c4, c5⟩ := hc q _ (List.getElem?_eq_getElem hq)
  have hu' : (chV rs[q])[i]? = some u := by simpa using hu
  match i, hi with
  | 0, _ => simp [chV] at hu'; subst hu'; exact c0
  | 1, _ | 2, _ | 3, _ | 4, _ | 5, _ =>
    simp [chV] at hu'; subst hu'
    rw [← Go.Deep.add_add, add_next]
    assumption
theorem chs_of_reads {w : World} {B n : Nat} {A : Option Addr} {rs : List Ch} (hl : rs.length = n) (hs : ∀ x ∈ rs, x.name.size ≤ maxLen) (h : Reads w B 6 A n (flatC rs)) : ChsAt w B A n rs := by
  refine ⟨hl, hs, fun hn => ?_⟩
  obtain ⟨ad, e, hb, hc⟩ := h.2 hn
  refine ⟨ad, e, hb, fun j x hx => ?_⟩
  have hat : ∀ i, i < 6 → (flatC rs)[j * 6 + i]? = (chV x)[i]? := fun i hi => by rw [flatC_at rs j i hi, hx]; rfl
  have h0 := hc (j * 6) (.string x.name) (by rw [show j * 6 = j * 6 + 0 from rfl, hat 0 (by omega)]; rfl)
  have h1 := hc (j * 6 + 1) (.int .i64 x.ep) (by rw [hat 1 (by omega)]; rfl)
  have h2 := hc (j * 6 + 2) (.int .i64 x.who) (by rw [hat 2 (by omega)]; rfl)
  have h3 := hc (j * 6 + 3) (.bool x.al) (by rw [hat 3 (by omega)]; rfl)
  have h4 := hc (j * 6 + 4) (.int .i64 x.kd) (by rw [hat 4 (by omega)]; rfl)
  have h5 := hc (j * 6 + 5) (.int .i64 x.sc) (by rw [hat 5 (by omega)]; rfl)
  rw [← Go.Deep.add_add, add_next] at h1 h2 h3 h4 h5
  exact ⟨h0, h1, h2, h3, h4, h5⟩
/-- A list that is the call's own, or empty. -/
def OwnC (w : World) (base : Nat) (v : Value) (rs : List Ch) : Prop := w.ownsRow base 38 6 v rs.length (flatC rs)
theorem OwnC.at_ {w : World} {base : Nat} {v : Value} {rs : List Ch} (h : OwnC w base v rs) (hs : ∀ x ∈ rs, x.name.size ≤ maxLen) : ∃ A c, v = .slice A rs.length c ∧ ChsAt w w.heap.size A rs.length rs := by
  have h' := h
  rcases h.2 with ⟨rfl, hn⟩ | ⟨g, cap, cur, rfl, _⟩
  · refine ⟨none, 0, by rw [hn], rfl, hs, fun h0 => absurd h0 (by omega)⟩
  · exact ⟨_, _, rfl, chs_of_reads rfl hs (Reads.of_own h')⟩
theorem OwnC.nil (w : World) (base : Nat) : OwnC w base (.slice none 0 0) [] := ⟨rfl, .inl ⟨rfl, rfl⟩⟩
theorem OwnC.below {w w' : World} {base : Nat} {v : Value} {rs : List Ch} (h : OwnC w base v rs) (hb : Below w.heap.size w w') : OwnC w' base v rs := by
  refine ⟨h.1, ?_⟩
  rcases h.2 with hn | ⟨g, cap, cur, rfl, hg, hc, rest⟩
  · exact .inl hn
  · exact .inr ⟨g, cap, cur, rfl, hg, (hb.block g (Array.getElem?_eq_some_iff.1 hc).1).trans hc, rest⟩
theorem OwnC.less {w : World} {base base' : Nat} {v : Value} {rs : List Ch} (h : OwnC w base v rs) (hb : base' ≤ base) : OwnC w base' v rs := by
  refine ⟨h.1, ?_⟩
  rcases h.2 with hn | ⟨g, cap, cur, rfl, hg, rest⟩
  · exact .inl hn
  · exact .inr ⟨g, cap, cur, rfl, by omega, rest⟩
set_option maxRecDepth 100000 in
set_option maxHeartbeats 2000000 in
theorem rcopied_any (A : Option Addr) (n cp : Nat) (rs : List Ch) (w : World) (hr : ChsAt w w.heap.size A n rs) (hm : n * 56 ≤ 140737488351232) :
    Calls Try.prog 74 #[.slice A n cp] w fun x w' => ∃ lv, x = .returned lv ∧ OwnC w' w.heap.size lv rs ∧ Below w.heap.size w w' := by
  obtain ⟨i0, hi0, hz0, hz1, hz2⟩ := info_parts chan_inf
  have hR := hr.reads
  obtain rfl := hr.1
  go_enter Try.func74, Try.ntmps74
  go_wp2_with (at_builtin; refine wpList_append_any _ rfl (.tmp 4) (.tmp 5) _ rfl w.heap.size 38 i0 _ 6 56 Try.underlying46 hi0 hz0 hz1 hz2 rfl (by omega) (.slice none 0 0) 0 [] rfl ⟨by simp, .inl ⟨rfl, rfl⟩⟩ w.heap.size A rs.length cp _ rfl hR (flatC_one rs) (by simp only [maxLen]; omega) (by omega) (Nat.le_refl _) ?_; intro v1 w1 hown1 hg1 hat1)
  have hbw1 : Below w.heap.size w w1 := (Below.refl _ _).grown hg1 (Nat.le_refl _) (by simp [Value.ownBlock])
  go_ret
  exact ⟨_, rfl, by simpa [OwnC] using hown1, hbw1⟩
set_option maxRecDepth 100000 in
set_option maxHeartbeats 2000000 in
theorem clone_any (A : Option Addr) (n cp : Nat) (rs : List Ch) (w : World) (hr : ChsAt w w.heap.size A n rs) (hm : n * 56 ≤ 140737488351232) :
    Calls Try.prog 70 #[.slice A n cp] w fun x w' => ∃ lv, x = .returned lv ∧ OwnC w' w.heap.size lv rs ∧ Below w.heap.size w w' := by
  obtain ⟨i0, hi0, hz0, hz1, hz2⟩ := info_parts chan_inf
  have hR := hr.reads
  obtain rfl := hr.1
  cases A with
  | none =>
    obtain rfl : rs = [] := by
      rcases rs with _ | ⟨x, xs⟩
      · rfl
      · obtain ⟨ad, h, _⟩ := hr.2.2 (by simp); cases h
    have hnil : ∀ W, (binOp .eql 46 (.slice none ([] : List Ch).length cp) (.slice none 0 0)).run Try.prog W = .ok (.bool true) W := fun W => Lib.run_eql_slice_nil W _ _ none _ _ _ _ Try.underlying46
    go_enter Try.func70, Try.ntmps70
    simp only [List.length_nil] at *
    go_wp2
    refine bodyPost_ret (v := .slice none 0 0) (by simp [results, Try.results70, go_sem, *]) (by rfl) ?_
    exact ⟨_, rfl, OwnC.nil _ _, Below.refl _ _⟩
  | some ad =>
    have hnil : ∀ W, (binOp .eql 46 (.slice (some ad) rs.length cp) (.slice none 0 0)).run Try.prog W = .ok (.bool false) W := fun W => Lib.run_eql_slice_nil W _ _ (some ad) _ _ _ _ Try.underlying46
    go_enter Try.func70, Try.ntmps70
    go_wp2_with (at_builtin; refine wpList_append_any _ rfl (.tmp 5) (.tmp 6) _ rfl w.heap.size 38 i0 _ 6 56 Try.underlying46 hi0 hz0 hz1 hz2 rfl (by omega) (.slice (some ⟨w.heap.size, 0, none⟩) 0 0) 0 [] rfl (World.ownsRow_lit w #[] 0 (Nat.le_refl _) (by simp [maxLen]) rfl) (w.heap.size + 1) (some ad) rs.length cp _ rfl ((hR.alloc (Nat.le_refl _) _).more (by omega)) (flatC_one rs) (by simp only [maxLen]; omega) (by omega) (by simp) ?_; intro v1 w1 hown1 hg1 hat1)
    have hbw1 : Below w.heap.size w w1 := ((Below.refl _ _).alloc (Nat.le_refl _) _).grown hg1 (by simp) (by simp [Value.ownBlock])
    go_ret
    exact ⟨_, rfl, by simpa [OwnC] using hown1, hbw1⟩
end Go.Proofs.Ytfihkkamedghkaa
