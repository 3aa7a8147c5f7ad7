/- slices.Clone of packets, the order of pairs, slices.SortFunc of pairs: what each call computes. -/
import Derived.Test.YtdaobbffhfbceaaSrt
import Derived.Test.YtdaobbffhfbceaaRfF
import Derived.Shelf.SlSortCmp.NoneTotal
namespace Go.Proofs.Ytdaobbffhfbceaa
open Go.RowKit Go.Shelf Go.Lib Go.Sort
set_option linter.unusedVariables false
set_option linter.unusedSimpArgs false
set_option maxRecDepth 100000
set_option maxHeartbeats 2000000 in
theorem dclone_any (A : Option Addr) (n cp : Nat) (rs : List Dg) (w : World) (hr : RowsE encD 4 w w.heap.size A n rs) (hm : n * 40 ≤ 140737488351232) :
    Calls Try.prog 32 #[.slice A n cp] w fun x w' => ∃ lv, x = .returned lv ∧ OwnE encD 4 33 w' w.heap.size lv rs ∧ Below w.heap.size w w' := by
  obtain ⟨i0, hi0, hz0, hz1, hz2⟩ := info_parts dg_inf
  have hR := hr.reads encD_len
  have hone := flatE_one encD_one rs
  obtain rfl := hr.1
  cases A with
  | none =>
    obtain rfl : rs = [] := by
      rcases rs with _ | ⟨x, xs⟩
      · rfl
      · obtain ⟨ad, h, _⟩ := hr.2 (by simp); cases h
    have hnil : ∀ W, (binOp .eql 43 (.slice none ([] : List Dg).length cp) (.slice none 0 0)).run Try.prog W = .ok (.bool true) W := fun W => Lib.run_eql_slice_nil W _ _ none _ _ _ _ Try.underlying43
    clear hr hR hone
    go_enter Try.func32, Try.ntmps32
    simp only [List.length_nil] at *
    go_wp2
    refine bodyPost_ret (v := .slice none 0 0) (by simp [results, Try.results32, go_sem, *]) (by rfl) ?_
    exact ⟨_, rfl, OwnE.nil _ _ _, Below.refl _ _⟩
  | some ad =>
    have hnil : ∀ W, (binOp .eql 43 (.slice (some ad) rs.length cp) (.slice none 0 0)).run Try.prog W = .ok (.bool false) W := fun W => Lib.run_eql_slice_nil W _ _ (some ad) _ _ _ _ Try.underlying43
    have HR := Lib.hid hR
    clear hr hR
    go_enter Try.func32, Try.ntmps32
    go_wp2_with (at_builtin; refine wpList_append_any _ rfl (.tmp 5) (.tmp 6) _ rfl w.heap.size 33 i0 _ 4 40 Try.underlying43 hi0 hz0 hz1 hz2 rfl (by omega) (.slice (some ⟨w.heap.size, 0, none⟩) 0 0) 0 [] rfl (World.ownsRow_lit w #[] 0 (Nat.le_refl _) (by simp [maxLen]) rfl) (w.heap.size + 1) (some ad) rs.length cp _ rfl ((HR.out.alloc (Nat.le_refl _) _).more (by omega)) hone (by simp only [maxLen]; omega) (by omega) (by simp) ?_; intro v1 w1 hown1 hg1 hat1)
    have hbw1 : Below w.heap.size w w1 := ((Below.refl _ _).alloc (Nat.le_refl _) _).grown hg1 (by simp) (by simp [Value.ownBlock])
    go_ret
    exact ⟨_, rfl, by simpa [OwnE] using hown1, hbw1⟩
/-! ### The order of pairs -/
def ordI (x y : LK) : Int := if Lib.compareInt x.1 y.1 ≠ 0 then Lib.compareInt x.1 y.1 else Lib.compareInt x.2 y.2
theorem ord_lt (x y : LK) : ltOf ordI x y = ltL x y := by
  obtain ⟨a, b⟩ := x
  obtain ⟨c, d⟩ := y
  unfold ltOf ordI ltL Lib.compareInt
  simp only []
  by_cases h1 : a < c
  · simp [h1]
  · by_cases h2 : c < a
    · have : ¬ a = c := by omega
      simp [h1, h2, this]
    · obtain rfl : a = c := by omega
      by_cases h3 : b < d
      · simp [h3]
      · by_cases h4 : d < b <;> simp [h3, h4]
theorem ord_swo : SWO (ltOf ordI) := by
  refine ⟨fun x => ?_, fun x y z => ?_, fun x y z => ?_⟩
  · rw [ord_lt]; exact ltL_irrefl x
  · rw [ord_lt, ord_lt, ord_lt]; exact ltL_trans
  · rw [ord_lt, ord_lt, ord_lt]
    unfold ltL
    simp only [Bool.or_eq_false_iff, Bool.and_eq_false_iff, decide_eq_false_iff_not]
    omega
set_option maxHeartbeats 2000000 in
theorem or_any (b : Nat) (x y : Int) (w : World) (h0 : w.cell? ⟨b, 0, none⟩ = some (.int .i64 x)) (h1 : w.cell? ⟨b, 1, none⟩ = some (.int .i64 y)) :
    Calls Try.prog 47 #[.slice (some ⟨b, 0, none⟩) 2 2] w fun e w' => e = .returned (.int .i64 (if x ≠ 0 then x else y)) ∧ w = w' := by
  by_cases hx : x = 0
  · subst hx
    by_cases hy : y = 0
    · subst hy
      go_enter Try.func47, Try.ntmps47
      go_wp2
      refine wp_loop_rounds 3 ?_
      rw [rounds_succ]
      go_wp2
      rw [rounds_succ]
      go_wp2
      rw [rounds_succ]
      go_wp2
      go_ret
      exact ⟨rfl, rfl⟩
    · have hy2 : (y != 0) = true := by simpa using hy
      go_enter Try.func47, Try.ntmps47
      go_wp2
      refine wp_loop_rounds 2 ?_
      rw [rounds_succ]
      go_wp2
      rw [rounds_succ]
      go_wp2
      go_ret
      exact ⟨by simp, rfl⟩
  · have hx2 : (x != 0) = true := by simpa using hx
    go_enter Try.func47, Try.ntmps47
    go_wp2
    refine wp_loop_rounds 1 ?_
    rw [rounds_succ]
    go_wp2
    go_ret
    exact ⟨by simp [hx], rfl⟩
set_option maxHeartbeats 4000000 in
theorem order_any (x y : LK) (w : World) :
    Calls Try.prog 34 #[lAgg x, lAgg y] w fun e w' => e = .returned (.int .i64 (ordI x y)) ∧ ∃ q os, w' = grow (w.drewN q) os := by
  obtain ⟨a, b⟩ := x
  obtain ⟨c, d⟩ := y
  have cc := fun (u v : Int) (W : World) => AnyG.cmp_Compare_int cmpI u v W
  change ∀ u v W, Calls Try.prog 48 _ _ _ at cc
  unfold ordI
  simp only []
  obtain ⟨r1, hr1⟩ : ∃ r, Lib.compareInt a c = r := ⟨_, rfl⟩
  obtain ⟨r2, hr2⟩ : ∃ r, Lib.compareInt b d = r := ⟨_, rfl⟩
  have c1 := fun W => cc a c W
  have c2 := fun W => cc b d W
  rw [hr1] at c1 ⊢
  rw [hr2] at c2 ⊢
  have or := fun b W h0 h1 => or_any b r1 r2 W h0 h1
  obtain ⟨R, hR⟩ : ∃ R, (if r1 ≠ 0 then r1 else r2) = R := ⟨_, rfl⟩
  rw [hR] at or ⊢
  have C1 := Lib.hid c1
  have C2 := Lib.hid c2
  have OR := Lib.hid or
  clear cc c1 c2 hr1 hr2 or hR
  go_enter Try.func34, Try.ntmps34
  go_wp2
  obtain ⟨W2, hW2⟩ : ∃ W2, W2 = (w.alloc (Obj.cells #[.int .i64 a, .int .i64 b] 64)).alloc (Obj.cells #[.int .i64 c, .int .i64 d] 64) := ⟨_, rfl⟩
  have q0 : W2.cell? ⟨w.heap.size, 0, none⟩ = some (.int .i64 a) := by rw [hW2]; go_simp
  have q1 : W2.cell? ⟨w.heap.size, 1, none⟩ = some (.int .i64 b) := by rw [hW2]; go_simp
  have q2 : W2.cell? ⟨w.heap.size + 1, 0, none⟩ = some (.int .i64 c) := by rw [hW2]; go_simp
  have q3 : W2.cell? ⟨w.heap.size + 1, 1, none⟩ = some (.int .i64 d) := by rw [hW2]; go_simp
  rw [← hW2]
  have HW2 := Lib.hid hW2
  clear hW2
  refine wp_region_quietC_tail (fun W' => ∃ q, W' = W2.drewN q) 10 (by kernel_rfl) (by kernel_rfl) ?_ ?_
  · exact ⟨1, rfl⟩
  simp only [List.take_succ_cons, List.take_zero, List.drop_succ_cons, List.drop_zero]
  repeat (first
    | go_big_quiet_skip
    | (go_big_quiet_want; (apply quietC_run); (· intro w' hw'; obtain ⟨q, rfl⟩ := hw'; go_simp; first | done | rfl); (simp only [Act.put, List.setIfInBounds_toArray, List.set_cons_zero, List.set_cons_succ]; go_big_quiet_on))
    | (go_big_quiet_want; (apply quietC_call); (· intro w' hw'; go_simp; first | done | exact ⟨rfl, rfl⟩ | rfl); (· intro w' hw'; first | ((with_reducible refine (C1.out _).mono ?_); rintro e w2 ⟨rfl, rfl⟩; exact ⟨rfl, hw'⟩) | ((with_reducible refine (C2.out _).mono ?_); rintro e w2 ⟨rfl, rfl⟩; exact ⟨rfl, hw'⟩)); (simp only [Act.put, List.setIfInBounds_toArray, List.set_cons_zero, List.set_cons_succ]; go_big_quiet_on)))
  refine wpQuiet_nil ?_
  intro w9 hk9
  obtain ⟨q, rfl⟩ := hk9
  go_wp2_with (fail)
  refine (OR.out _ _ (by exact (cell_of_row _ W2.heap.size 0 _ _ (0, 0) (heap_alloc_new (W2.drewN q) _)).trans rfl) (by exact (cell_of_row _ W2.heap.size 1 _ _ (0, 0) (heap_alloc_new (W2.drewN q) _)).trans rfl)).mono ?_; rintro e w' ⟨rfl, rfl⟩
  go_wp2
  go_ret
  have he : ∀ (o : Obj), ∃ os, (W2.drewN q).alloc o = grow (w.drewN q) os := fun o => ⟨#[Obj.cells #[.int .i64 a, .int .i64 b] 64] ++ #[Obj.cells #[.int .i64 c, .int .i64 d] 64] ++ #[o], by
    rw [HW2.out, alloc_eq_grow, alloc_eq_grow, alloc_eq_grow, show ∀ (w : World) os, (grow w os).drewN q = grow (w.drewN q) os from fun _ _ => rfl, show ∀ (w : World) os, (grow w os).drewN q = grow (w.drewN q) os from fun _ _ => rfl, grow_grow, grow_grow, Array.append_assoc]⟩
  exact ⟨rfl, q, he _⟩
/-! ### The sort -/
theorem get_flatE {rs : List LK} {t : Nat} (h : t < rs.length * 2) : (flatE encL rs)[t]? = some ((encL rs.toArray[t / 2]!)[t % 2]!) := by
  have hq : t / 2 < rs.length := by omega
  have e : t = (t / 2) * 2 + t % 2 := by omega
  have h1 := flatE_at encL_len rs (t / 2) (t % 2) (by omega)
  rw [← e] at h1
  rw [h1, List.getElem?_eq_getElem hq]
  simp only [Option.bind_some]
  have h2 : rs.toArray[t / 2]! = rs[t / 2] := by simp [hq]
  rw [h2]
  have h3 : t % 2 < (encL rs[t / 2]).length := by rw [encL_len]; omega
  rw [List.getElem?_eq_getElem h3]
  simp [h3]
theorem holds_links {w : World} {base : Nat} {blk cap : Nat} {rs : List LK} (h : OwnE encL 2 64 w base (.slice (some ⟨blk, 0, none⟩) rs.length cap) rs) : HoldsK encL 2 w blk 0 rs.toArray ∧ base ≤ blk ∧ blk < w.heap.size ∧ rs.length ≤ maxLen := by
  have h2 := h.2
  rcases h2 with ⟨h0, _⟩ | ⟨g, cp, cur, hv, hg, hcur, hcap, h5⟩
  · cases h0
  · obtain ⟨hg2, _, hcp⟩ := Value.slice.inj hv
    obtain rfl : blk = g := by injection hg2 with h; injection h
    have hl := (Array.getElem?_eq_some_iff.1 hcur).1
    have hR := Reads.of_own h
    refine ⟨fun j hj => ?_, hg, hl, ?_⟩
    · rw [size_flatK] at hj
      have hj' : j < rs.length * 2 := by simpa using hj
      have hn : 0 < rs.length := by omega
      obtain ⟨ad, e, _, hc⟩ := hR.2 hn
      obtain rfl := Option.some.inj e
      refine ⟨?_, ?_⟩
      · have := hc j _ (get_flatE hj')
        rw [Addr.add_lit] at this
        rw [get_flatK _ _ _ _ (by simpa using hj')]
        exact this
      · unfold World.frozen?
        rw [hcur]
        simp
    · exact Nat.le_trans hcap h5.1
theorem heap_sortL {w : World} {g n : Nat} {os : Array Obj} {cur : Array Value} {e : TypeId} {fr : Nat × Nat} (d : Array LK) (hb : w.heap[g]? = some (.cells cur e fr)) :
    (sortWorldK encL 2 w g 0 n d os).heap[g]? = some (.cells (putCells id 0 (flatK encL 2 d) cur) e fr) := by
  have hg : g < w.heap.size := (Array.getElem?_eq_some_iff.1 hb).1
  unfold sortWorldK putRowK
  rw [heap_grow_old _ _ (by simpa using hg)]
  simp [putRow, mapBlock, Sort.ahead, Array.getElem?_modify, hb, onCells]
theorem grown_sortL {w : World} {g n : Nat} {os : Array Obj} (d : Array LK) : w.grownBy (sortWorldK encL 2 w g 0 n d os) (some g) := by
  unfold sortWorldK putRowK
  refine ⟨rfl, rfl, rfl, by simp, fun k hk hne => ?_⟩
  rw [heap_grow_old _ _ (by simpa using hk)]
  have : g ≠ k := fun e => hne (by rw [e])
  simp [putRow, mapBlock, Sort.ahead, Array.getElem?_modify, this]
theorem own_sortL {w : World} {base blk cap n : Nat} {os : Array Obj} {rs ts : List LK} (hl : ts.length = rs.length) (h : OwnE encL 2 64 w base (.slice (some ⟨blk, 0, none⟩) rs.length cap) rs) :
    OwnE encL 2 64 (sortWorldK encL 2 w blk 0 n ts.toArray os) base (.slice (some ⟨blk, 0, none⟩) rs.length cap) ts := by
  rcases h.2 with ⟨h0, _⟩ | ⟨g, cp, cur, hv, hg, hcur, hcap, h4, h5, h6⟩
  · cases h0
  · obtain ⟨hg2, _, hcp⟩ := Value.slice.inj hv
    obtain rfl : blk = g := by injection hg2 with h; injection h
    subst hcp
    unfold OwnE
    rw [hl]
    refine ⟨by rw [flatE_len encL_len, hl], .inr ⟨blk, cap, _, rfl, hg, heap_sortL _ hcur, hcap, h4, by simp [putCells, h5], ?_⟩⟩
    apply List.ext_getElem?
    intro j
    by_cases hj : j < rs.length * 2
    · rw [List.getElem?_take_of_lt hj, Array.getElem?_toList, get_flatE (by omega)]
      have hc : j < cur.size := by rw [h5]; omega
      have h7 := get_flatK encL 2 ts.toArray j (by simp; omega)
      simp only [putCells, Array.getElem?_mapIdx, Array.getElem?_eq_getElem hc, Option.map_some, id_eq, Nat.sub_zero, Nat.zero_le, true_and, Nat.zero_add]
      rw [if_pos (by simp; omega), h7]
    · rw [List.getElem?_take_eq_none (by omega), List.getElem?_eq_none (by rw [flatE_len encL_len]; omega)]
theorem sorted_rise {ts : List LK} (hn : ts.Nodup) (hs : SortedIn (ltOf ordI) 0 ts.length ts.toArray) : RiseL ts := by
  unfold RiseL
  rw [List.pairwise_iff_getElem]
  intro i j hi hj hij
  have h1 := hs i j (Nat.zero_le _) hij hj
  rw [ord_lt] at h1
  have e1 : ts.toArray[i]! = ts[i] := by simp [hi]
  have e2 : ts.toArray[j]! = ts[j] := by simp [hj]
  rw [e1, e2] at h1
  cases h2 : ltL ts[i] ts[j] with
  | true => rfl
  | false =>
    have := ltL_total h2 h1
    exact absurd this (fun e => by
      have := (List.nodup_iff_pairwise_ne.1 hn)
      exact (List.pairwise_iff_getElem.1 this i j hi hj hij) e)
theorem isAgg_lk : ∀ w, (isAgg 64).run Try.prog w = .ok true w := Try.isAgg64
theorem sizeOf_lk : ∀ w, (Go.sizeOf 64).run Try.prog w = .ok 2 w := Try.sizeOf64
theorem order_lays (blk off size : Nat) (w : World) : CmpLays Try.prog 34 #[] encL 2 ordI blk off size w := fun m os dk _ x y => by
  have := order_any x y (sortWorldK encL 2 w blk off m dk os)
  exact this
theorem sort_any (base : Nat) (A : Option Addr) (c : Nat) (rs : List LK) (w : World) (h : OwnE encL 2 64 w base (.slice A rs.length c) rs) (hn : rs.Nodup) (hm : rs.length < 17592186044416) :
    Calls Try.prog 33 #[.slice A rs.length c, .func (.func 34) #[] #[]] w fun e w' => e = .returned (.tuple #[]) ∧ ∃ ts, OwnE encL 2 64 w' base (.slice A rs.length c) ts ∧ ts.length = rs.length ∧ (∀ x, x ∈ ts ↔ x ∈ rs) ∧ RiseL ts ∧ w.grownBy w' (Value.slice A rs.length c).ownBlock := by
  by_cases h0 : rs.length = 0
  · obtain rfl : rs = [] := List.eq_nil_of_length_eq_zero h0
    have hc := AnyF.slices_SortFunc_none sortL A c (.func (.func 34) #[] #[]) w
    refine Calls.mono (P := Try.prog) hc ?_
    rintro e w' ⟨he, hw⟩
    subst hw
    exact ⟨he, [], h, rfl, fun _ => Iff.rfl, List.Pairwise.nil, World.grownBy.refl w' _⟩
  · rcases h.2 with ⟨h1, h2⟩ | ⟨g, cp, cur, hv, hg, hcur, hcap, h4, h5, h6⟩
    · exact absurd h2 h0
    · obtain ⟨rfl, _, rfl⟩ := Value.slice.inj hv
      obtain ⟨hh, _, hlt, _⟩ := holds_links h
      have hc := AnyQ.slices_SortFunc sortL 2 isAgg_lk sizeOf_lk encL encL_len encL_one ordI ord_swo 34 #[] g 0 c rs.toArray w (enters_of Try.func34 (by kernel_rfl) rfl) (order_lays g 0 _ w) hh hlt (by simp; omega)
      refine Calls.mono (P := Try.prog) (f := 33) hc ?_
      rintro e w' ⟨he, d', n, os, hp, hs, hw⟩
      subst hw
      have hperm : d'.toList.Perm rs := by
        have h1 := hp.2.2
        have h2 : d'.extract 0 rs.toArray.size = d' := by rw [← hp.1]; simp
        rw [h2] at h1
        simpa using h1
      have hl : d'.toList.length = rs.length := hperm.length_eq
      have ho := own_sortL (w := w) (n := n) (os := os) (ts := d'.toList) hl h
      have hs2 : SortedIn (ltOf ordI) 0 d'.toList.length d'.toList.toArray := by
        rw [hl, Array.toArray_toList]
        simpa using hs
      rw [Array.toArray_toList] at ho
      exact ⟨he, d'.toList, ho, hl, fun x => hperm.mem_iff, sorted_rise (hperm.nodup_iff.2 hn) hs2, grown_sortL _⟩
end Go.Proofs.Ytdaobbffhfbceaa
