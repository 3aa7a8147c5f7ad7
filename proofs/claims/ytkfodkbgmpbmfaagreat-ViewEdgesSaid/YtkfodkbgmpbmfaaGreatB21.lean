/- Chapter 22, parts on the way: Wf Wg -/
import Derived.Shelf.SlSortCmp.NoneTotal
import Derived.Maps.AppendAt
import Derived.Maps.OwnIn
import Derived.Test.YtkfodkbgmpbmfaaGreatB01
import Derived.Test.YtkfodkbgmpbmfaaGreatB02
import Derived.Test.YtkfodkbgmpbmfaaGreatB07
import Derived.Test.YtkfodkbgmpbmfaaGreatB20
set_option linter.unusedVariables false
set_option linter.unusedSimpArgs false
namespace Go.Proofs.YtkfodkbgmpbmfaaGreat
open Go.Proofs.YtkfodkbgmpbmfaaGreat.Bg
open Go.RowKit Go.Shelf Go.Lib Go.Sort
set_option linter.unusedVariables false
set_option linter.unusedSimpArgs false
set_option maxRecDepth 100000
abbrev LF := Fin 256 × Fin 256
def toL (x : LF) : Bg.LK := ((x.1.val : Int), (x.2.val : Int))
def encF (x : LF) : List Value := [.int .i64 (x.1.val : Int), .int .i64 (x.2.val : Int)]
theorem encF_len (x : LF) : (encF x).length = 2 := rfl
theorem encF_one (x : LF) : ∀ u ∈ encF x, u.oneCell' = true := Bg.encL_one (toL x)
theorem toL_inj {x y : LF} (h : toL x = toL y) : x = y := by
 obtain ⟨a, b⟩ := x
 obtain ⟨c, d⟩ := y
 simp only [toL, Prod.mk.injEq] at h
 refine Prod.ext (Fin.ext ?_) (Fin.ext ?_)
 · exact Int.ofNat.inj h.1
 · exact Int.ofNat.inj h.2
theorem flat_toL (l : List LF) : flatE encF l = flatE Bg.encL (l.map toL) := by
 unfold flatE
 induction l with
 | nil => rfl
 | cons x l ih => simp only [List.map_cons, List.flatMap_cons, ih]; rfl
def ordI (x y : LF) : Int := if (x.1.val : Int) ≠ y.1.val then (x.1.val : Int) - y.1.val else (x.2.val : Int) - y.2.val
theorem ord_lt (x y : LF) : ltOf ordI x y = Bg.ltL (toL x) (toL y) := by
 unfold ltOf ordI Bg.ltL toL
 simp only []
 by_cases h1 : (x.1.val : Int) = y.1.val
 · rw [if_neg (by simpa using h1)]
   simp [h1]
   omega
 · rw [if_pos h1]
   simp only [h1, decide_false, Bool.false_and, Bool.or_false, decide_eq_decide]
   omega
theorem ord_swo : SWO (ltOf ordI) := by
 refine ⟨fun x => ?_, fun x y z => ?_, fun x y z => ?_⟩
 · rw [ord_lt]; exact Bg.ltL_irrefl _
 · rw [ord_lt, ord_lt, ord_lt]; exact Bg.ltL_trans
 · rw [ord_lt, ord_lt, ord_lt]
   unfold Bg.ltL
   simp only [Bool.or_eq_false_iff, Bool.and_eq_false_iff, decide_eq_false_iff_not]
   omega
set_option maxHeartbeats 4000000 in
theorem order_any (x y : LF) (w : World) :
    Calls Tryz.prog 93 #[.agg (encF x).toArray, .agg (encF y).toArray] w fun e w' => e = .returned (.int .i64 (ordI x y)) ∧ ∃ q os, w' = grow (w.drewN q) os := by
 obtain ⟨a, b⟩ := x
 obtain ⟨c, d⟩ := y
 unfold ordI encF
 simp only []
 have ha := a.isLt; have hb := b.isLt; have hc := c.isLt; have hd := d.isLt
 obtain ⟨a', ea⟩ : ∃ a' : Int, a' = (a.val : Int) := ⟨_, rfl⟩
 obtain ⟨b', eb⟩ : ∃ b' : Int, b' = (b.val : Int) := ⟨_, rfl⟩
 obtain ⟨c', ec⟩ : ∃ c' : Int, c' = (c.val : Int) := ⟨_, rfl⟩
 obtain ⟨d', ed⟩ : ∃ d' : Int, d' = (d.val : Int) := ⟨_, rfl⟩
 have h1 : wrap64 (a' - c') = a' - c' := by unfold wrap64; omega
 have h2 : wrap64 (b' - d') = b' - d' := by unfold wrap64; omega
 rw [← ea, ← eb, ← ec, ← ed]
 clear ea eb ec ed ha hb hc hd
 have he : ∀ (o1 o2 : Obj), ∃ q' os, (w.alloc o1).alloc o2 = grow (w.drewN q') os := fun o1 o2 => ⟨0, _, by
  rw [alloc_eq_grow, alloc_eq_grow, grow_grow]; rfl⟩
 by_cases hq : a' = c'
 · have hq2 : (a' != c') = false := by simpa using hq
   rw [if_neg (by simpa using hq)]
   go_enter Tryz.func93, Tryz.ntmps93
   go_wp2
   go_ret
   exact ⟨by go_simp, he _ _⟩
 · have hq2 : (a' != c') = true := by simpa using hq
   rw [if_pos hq]
   go_enter Tryz.func93, Tryz.ntmps93
   go_wp2
   go_ret
   exact ⟨by go_simp, he _ _⟩
/-! ### The sort -/
theorem get_flatF {rs : List LF} {t : Nat} (h : t < rs.length * 2) : (flatE encF rs)[t]? = some ((encF rs.toArray[t / 2]!)[t % 2]!) := by
 have hq : t / 2 < rs.length := by omega
 have e : t = (t / 2) * 2 + t % 2 := by omega
 have h1 := flatE_at encF_len rs (t / 2) (t % 2) (by omega)
 rw [← e] at h1
 rw [h1, List.getElem?_eq_getElem hq]
 simp only [Option.bind_some]
 have h2 : rs.toArray[t / 2]! = rs[t / 2] := by simp [hq]
 rw [h2]
 have h3 : t % 2 < (encF rs[t / 2]).length := by rw [encF_len]; omega
 rw [List.getElem?_eq_getElem h3]
 simp [h3]
theorem holds_links {w : World} {base : Nat} {blk cap : Nat} {rs : List LF} (h : OwnE encF 2 62 w base (.slice (some ⟨blk, 0, none⟩) rs.length cap) rs) : HoldsK encF 2 w blk 0 rs.toArray ∧ base ≤ blk ∧ blk < w.heap.size ∧ rs.length ≤ maxLen := by
 have h2 := h.2
 rcases h2 with ⟨h0, _⟩ | ⟨g, cp, cur, hv, hg, hcur, hcap, h5⟩
 · cases h0
 · obtain ⟨hg2, _, hcp⟩ := Value.slice.inj hv
   obtain rfl : blk = g := by injection hg2 with h; injection h
   have hl := (Array.getElem?_eq_some_iff.1 hcur).1
   have hR := Reads.of_own h
   refine ⟨fun j hj => ?_, hg, hl, ?_⟩
   · rw [size_flatK] at hj
     have hj' : j < rs.length * 2 := by simpa using hj
     have hn : 0 < rs.length := by omega
     obtain ⟨ad, e, _, hc⟩ := hR.2 hn
     obtain rfl := Option.some.inj e
     refine ⟨?_, ?_⟩
     · have := hc j _ (get_flatF hj')
       rw [Addr.add_lit] at this
       rw [get_flatK _ _ _ _ (by simpa using hj')]
       exact this
     · unfold World.frozen?
       rw [hcur]
       simp
   · exact Nat.le_trans hcap h5.1
theorem heap_sortL {w : World} {g n : Nat} {os : Array Obj} {cur : Array Value} {e : TypeId} {fr : Nat × Nat} (d : Array LF) (hb : w.heap[g]? = some (.cells cur e fr)) :
    (sortWorldK encF 2 w g 0 n d os).heap[g]? = some (.cells (putCells id 0 (flatK encF 2 d) cur) e fr) := by
 have hg : g < w.heap.size := (Array.getElem?_eq_some_iff.1 hb).1
 unfold sortWorldK putRowK
 rw [heap_grow_old _ _ (by simpa using hg)]
 simp [putRow, mapBlock, Sort.ahead, Array.getElem?_modify, hb, onCells]
theorem grown_sortL {w : World} {g n : Nat} {os : Array Obj} (d : Array LF) : w.grownBy (sortWorldK encF 2 w g 0 n d os) (some g) := by
 unfold sortWorldK putRowK
 refine ⟨rfl, rfl, rfl, by simp, fun k hk hne => ?_⟩
 rw [heap_grow_old _ _ (by simpa using hk)]
 have : g ≠ k := fun e => hne (by rw [e])
 simp [putRow, mapBlock, Sort.ahead, Array.getElem?_modify, this]
theorem own_sortL {w : World} {base blk cap n : Nat} {os : Array Obj} {rs ts : List LF} (hl : ts.length = rs.length) (h : OwnE encF 2 62 w base (.slice (some ⟨blk, 0, none⟩) rs.length cap) rs) :
    OwnE encF 2 62 (sortWorldK encF 2 w blk 0 n ts.toArray os) base (.slice (some ⟨blk, 0, none⟩) rs.length cap) ts := by
 rcases h.2 with ⟨h0, _⟩ | ⟨g, cp, cur, hv, hg, hcur, hcap, h4, h5, h6⟩
 · cases h0
 · obtain ⟨hg2, _, hcp⟩ := Value.slice.inj hv
   obtain rfl : blk = g := by injection hg2 with h; injection h
   subst hcp
   unfold OwnE
   rw [hl]
   refine ⟨by rw [flatE_len encF_len, hl], .inr ⟨blk, cap, _, rfl, hg, heap_sortL _ hcur, hcap, h4, by simp [putCells, h5], ?_⟩⟩
   apply List.ext_getElem?
   intro j
   by_cases hj : j < rs.length * 2
   · rw [List.getElem?_take_of_lt hj, Array.getElem?_toList, get_flatF (by omega)]
     have hc : j < cur.size := by rw [h5]; omega
     have h7 := get_flatK encF 2 ts.toArray j (by simp; omega)
     simp only [putCells, Array.getElem?_mapIdx, Array.getElem?_eq_getElem hc, Option.map_some, id_eq, Nat.sub_zero, Nat.zero_le, true_and, Nat.zero_add]
     rw [if_pos (by simp; omega), h7]
   · rw [List.getElem?_take_eq_none (by omega), List.getElem?_eq_none (by rw [flatE_len encF_len]; omega)]
theorem sorted_rise {ts : List LF} (hn : ts.Nodup) (hs : SortedIn (ltOf ordI) 0 ts.length ts.toArray) : Bg.RiseL (ts.map toL) := by
 unfold Bg.RiseL
 rw [List.pairwise_map, List.pairwise_iff_getElem]
 intro i j hi hj hij
 have h1 := hs i j (Nat.zero_le _) hij hj
 rw [ord_lt] at h1
 have e1 : ts.toArray[i]! = ts[i] := by simp [hi]
 have e2 : ts.toArray[j]! = ts[j] := by simp [hj]
 rw [e1, e2] at h1
 cases h2 : Bg.ltL (toL ts[i]) (toL ts[j]) with
 | true => rfl
 | false =>
  have := toL_inj (Bg.ltL_total h2 h1)
  exact absurd this (fun e => by
   have := (List.nodup_iff_pairwise_ne.1 hn)
   exact (List.pairwise_iff_getElem.1 this i j hi hj hij) e)
theorem isAgg_lk : ∀ w, (isAgg 62).run Tryz.prog w = .ok true w := Tryz.isAgg62
theorem sizeOf_lk : ∀ w, (Go.sizeOf 62).run Tryz.prog w = .ok 2 w := Tryz.sizeOf62
theorem order_lays (blk off size : Nat) (w : World) : CmpLays Tryz.prog 93 #[] encF 2 ordI blk off size w := fun m os dk _ x y => by
 have := order_any x y (sortWorldK encF 2 w blk off m dk os)
 exact this
theorem sort_any (base : Nat) (A : Option Addr) (c : Nat) (rs : List LF) (w : World) (h : OwnE encF 2 62 w base (.slice A rs.length c) rs) (hn : rs.Nodup) (hm : rs.length < 17592186044416) :
    Calls Tryz.prog 92 #[.slice A rs.length c, .func (.func 93) #[] #[]] w fun e w' => e = .returned (.tuple #[]) ∧ ∃ ts, OwnE encF 2 62 w' base (.slice A rs.length c) ts ∧ ts.length = rs.length ∧ (∀ x, x ∈ ts ↔ x ∈ rs) ∧ Bg.RiseL (ts.map toL) ∧ w.grownBy w' (Value.slice A rs.length c).ownBlock := by
 by_cases h0 : rs.length = 0
 · obtain rfl : rs = [] := List.eq_nil_of_length_eq_zero h0
   have hc := AnyF.slices_SortFunc_none sortL A c (.func (.func 93) #[] #[]) w
   refine Calls.mono (P := Tryz.prog) hc ?_
   rintro e w' ⟨he, hw⟩
   subst hw
   exact ⟨he, [], h, rfl, fun _ => Iff.rfl, List.Pairwise.nil, World.grownBy.refl w' _⟩
 · rcases h.2 with ⟨h1, h2⟩ | ⟨g, cp, cur, hv, hg, hcur, hcap, h4, h5, h6⟩
   · exact absurd h2 h0
   · obtain ⟨rfl, _, rfl⟩ := Value.slice.inj hv
     obtain ⟨hh, _, hlt, _⟩ := holds_links h
     have hc := AnyQ.slices_SortFunc sortL 2 isAgg_lk sizeOf_lk encF encF_len encF_one ordI ord_swo 93 #[] g 0 c rs.toArray w (enters_of Tryz.func93 (by kernel_rfl) rfl) (order_lays g 0 _ w) hh hlt (by simp; omega)
     refine Calls.mono (P := Tryz.prog) (f := 92) hc ?_
     rintro e w' ⟨he, d', n, os, hp, hs, hw⟩
     subst hw
     have hperm : d'.toList.Perm rs := by
      have h1 := hp.2.2
      have h2 : d'.extract 0 rs.toArray.size = d' := by rw [← hp.1]; simp
      rw [h2] at h1
      simpa using h1
     have hl : d'.toList.length = rs.length := hperm.length_eq
     have ho := own_sortL (w := w) (n := n) (os := os) (ts := d'.toList) hl h
     have hs2 : SortedIn (ltOf ordI) 0 d'.toList.length d'.toList.toArray := by
      rw [hl, Array.toArray_toList]
      simpa using hs
     rw [Array.toArray_toList] at ho
     exact ⟨he, d'.toList, ho, hl, fun x => hperm.mem_iff, sorted_rise (hperm.nodup_iff.2 hn) hs2, grown_sortL _⟩
end Go.Proofs.YtkfodkbgmpbmfaaGreat
namespace Go.Proofs.YtkfodkbgmpbmfaaGreat
open Go.RowKit Go.Shelf
set_option linter.unusedVariables false
set_option linter.unusedSimpArgs false
set_option maxRecDepth 100000
theorem mem_colE {p : Nat → Nat → Bool} {b a : Nat} {y : Int × Int} : y ∈ colE p b a ↔ ∃ i : Nat, i < a ∧ p i b = true ∧ y = ((i : Int), (b : Int)) := by
 unfold colE
 simp only [List.mem_map, List.mem_filter, List.mem_range]
 constructor
 · rintro ⟨i, ⟨h1, h2⟩, rfl⟩; exact ⟨i, h1, h2, rfl⟩
 · rintro ⟨i, h1, h2, rfl⟩; exact ⟨i, ⟨h1, h2⟩, rfl⟩
theorem mem_colsE {p : Nat → Nat → Bool} {n : Nat} {y : Int × Int} : y ∈ colsE p n ↔ ∃ i b : Nat, i < b ∧ b < n ∧ p i b = true ∧ y = ((i : Int), (b : Int)) := by
 unfold colsE
 simp only [List.mem_flatMap, List.mem_range, mem_colE]
 constructor
 · rintro ⟨b, h1, i, h2, h3, rfl⟩; exact ⟨i, b, h2, h1, h3, rfl⟩
 · rintro ⟨i, b, h2, h1, h3, rfl⟩; exact ⟨b, h1, i, h2, h3, rfl⟩
theorem colE_nodup (p : Nat → Nat → Bool) (b : Nat) : ∀ a, (colE p b a).Nodup
 | 0 => by simp [colE]
 | a + 1 => by
  rw [colE_next]
  refine List.nodup_append.2 ⟨colE_nodup p b a, ?_, ?_⟩
  · split <;> simp
  · intro y hy z hz e
    subst e
    obtain ⟨i, h1, _, rfl⟩ := mem_colE.1 hy
    split at hz
    · simp at hz
      omega
    · cases hz
theorem colsE_nodup (p : Nat → Nat → Bool) : ∀ n, (colsE p n).Nodup
 | 0 => by simp [colsE]
 | n + 1 => by
  rw [colsE_next]
  refine List.nodup_append.2 ⟨colsE_nodup p n, colE_nodup p n n, ?_⟩
  intro y hy z hz e
  subst e
  obtain ⟨i, b, _, h1, _, rfl⟩ := mem_colsE.1 hy
  obtain ⟨j, _, _, h2⟩ := mem_colE.1 hz
  simp at h2
  omega
theorem toL_list : ∀ (l : List (Int × Int)), (∀ y ∈ l, ∃ a b : Nat, a < 256 ∧ b < 256 ∧ y = ((a : Int), (b : Int))) → ∃ fs : List LF, l = fs.map toL
 | [], _ => ⟨[], rfl⟩
 | y :: l, h => by
  obtain ⟨fs, hf⟩ := toL_list l (fun z hz => h z (List.mem_cons_of_mem _ hz))
  obtain ⟨a, b, ha, hb, rfl⟩ := h y (List.mem_cons_self ..)
  exact ⟨(⟨a, ha⟩, ⟨b, hb⟩) :: fs, by rw [List.map_cons, ← hf]; rfl⟩
def selE (f : Int → Int → Bool) (l : List (Int × Int)) : List (Int × Int) := l.filter fun y => f y.1 y.2
theorem selE_snoc (f : Int → Int → Bool) (l : List (Int × Int)) (x : Int × Int) : selE f (l ++ [x]) = selE f l ++ if f x.1 x.2 = true then [x] else [] := by
 unfold selE
 rw [List.filter_append]
 congr 1
 simp only [List.filter_cons, List.filter_nil]
/-! ### The rounds -/
theorem lk_below {B : Nat} {W W' : World} (hb : Below W.heap.size W W') : KeepsFrom B W W' := ⟨hb.size, fun k o _ hk _ => (hb.block k (Array.getElem?_eq_some_iff.1 hk).1).trans hk⟩
theorem lk_cell {A C : World} {p : Addr} (h : C.heap[p.block]? = A.heap[p.block]?) : C.cell? p = A.cell? p ∧ C.frozen? p = A.frozen? p := by
 constructor
 · unfold World.cell?; rw [h]
 · unfold World.frozen?; rw [h]
def LnkI (w W0 : World) (Bx : Nat) (f : Int → Int → Bool) (pre : List (Int × Int)) (W : World) : Prop :=
 Below w.heap.size w W ∧ W0.heap.size ≤ W.heap.size ∧ (∀ b, b < W0.heap.size → b ≠ Bx → W.heap[b]? = W0.heap[b]?) ∧ ∃ v, W.cell? ⟨Bx, 0, none⟩ = some v ∧ W.frozen? ⟨Bx, 0, none⟩ = false ∧ W.ownsRow W0.heap.size 62 2 v (selE f pre).length (flatE Bg.encL (selE f pre))
section
variable {w W0 : World} {Bx : Nat} {f : Int → Int → Bool} {pre : List (Int × Int)}
theorem LnkI.row {W : World} (h : LnkI w W0 Bx f pre W) : W0.heap.size ≤ W.heap.size ∧ ∀ r, rowB Bx W = some r → W0.heap.size ≤ r ∧ (∃ o, W.heap[r]? = some o ∧ o.isCells = true) := by
 obtain ⟨_, h1, _, lv, h2, _, h3⟩ := h
 refine ⟨h1, fun r hr => ?_⟩
 unfold rowB at hr
 rw [h2] at hr
 rcases h3.2 with ⟨rfl, _⟩ | ⟨g, cap, cur, rfl, hb, hg, _⟩
 · simp [Value.ownBlock] at hr
 · obtain rfl : g = r := by simpa [Value.ownBlock] using hr
   exact ⟨hb, _, hg, rfl⟩
theorem LnkI.fr {A C : World} (hD : Bx < W0.heap.size) (hw : w.heap.size ≤ W0.heap.size) (h : LnkI w W0 Bx f pre A) (hf : FrI W0.heap.size Bx A C) : LnkI w W0 Bx f pre C := by
 obtain ⟨h0, h1, hk, lv, h2, h3, h4⟩ := h
 obtain ⟨f1, f2, f3⟩ := hf
 have e1 := f2 Bx (by omega) (.inl (by omega))
 refine ⟨h0.trans ⟨f3.1, f3.2.1, f3.2.2, f1, fun k hk => f2 k (Nat.lt_of_lt_of_le hk h0.size) (.inl (by omega))⟩, Nat.le_trans h1 f1, fun b hb hbx => (f2 b (by omega) (.inl hb)).trans (hk b hb hbx), lv, (lk_cell (p := ⟨Bx, 0, none⟩) e1).1.trans h2, (lk_cell (p := ⟨Bx, 0, none⟩) e1).2.trans h3, ⟨h4.1, ?_⟩⟩
 rcases h4.2 with hn | ⟨g, cap, cur, rfl, hb, hg, rest⟩
 · exact .inl hn
 · refine .inr ⟨g, cap, cur, rfl, hb, (f2 g (Array.getElem?_eq_some_iff.1 hg).1 (.inr ?_)).trans hg, rest⟩
   unfold rowB
   rw [h2]
   rfl
theorem LnkI.below {A C : World} (hD : Bx < W0.heap.size) (hw : w.heap.size ≤ W0.heap.size) (h : LnkI w W0 Bx f pre A) (hb : Below A.heap.size A C) : LnkI w W0 Bx f pre C := h.fr hD hw (Fr.below hb).I
theorem lnk_app {W w6 : World} {x : Int × Int} {v v' : Value} {o : Obj} (hwB : w.heap.size ≤ Bx) (hD1 : Bx < W0.heap.size) (h0 : Below w.heap.size w W) (h1 : W0.heap.size ≤ W.heap.size) (hk : ∀ b, b < W0.heap.size → b ≠ Bx → W.heap[b]? = W0.heap[b]?) (h2 : W.cell? ⟨Bx, 0, none⟩ = some v) (h3 : W.frozen? ⟨Bx, 0, none⟩ = false) (hrow : W.ownsRow W0.heap.size 62 2 v (selE f pre).length (flatE Bg.encL (selE f pre)))
    (hfx : f x.1 x.2 = true) (hown : w6.ownsRow W0.heap.size 62 2 v' ((selE f pre).length + 1) (flatE Bg.encL (selE f pre) ++ Bg.encL x)) (hgrow : (W.alloc o).grownBy w6 v.ownBlock) (hat : v'.ownBlock = v.ownBlock ∨ v'.ownBlock = some (W.alloc o).heap.size) :
    KeepsFrom W0.heap.size W (w6.setCell ⟨Bx, 0, none⟩ v') ∧ Kp W0.heap.size Bx Bx W (w6.setCell ⟨Bx, 0, none⟩ v') ∧ LnkI w W0 Bx f (pre ++ [x]) (w6.setCell ⟨Bx, 0, none⟩ v') := by
 have hra : (W.alloc o).ownsRow W0.heap.size 62 2 v (selE f pre).length (flatE Bg.encL (selE f pre)) := hrow.alloc _
 have hsz : (W.alloc o).heap.size = W.heap.size + 1 := World.size_alloc ..
 have hb6 := (row_grown hra hgrow (by omega)).1
 have ho6 : w6.cell? ⟨Bx, 0, none⟩ = some v := (hb6.cell (p := ⟨Bx, 0, none⟩) (by show Bx < W0.heap.size; omega)).trans ((World.cell?_alloc_lt W o _ (by show Bx < _; omega)).trans h2)
 have hf6 : w6.frozen? ⟨Bx, 0, none⟩ = false := (hb6.frozen (p := ⟨Bx, 0, none⟩) (by show Bx < W0.heap.size; omega)).trans ((lk_cell (p := ⟨Bx, 0, none⟩) (A := W) (C := W.alloc o) (Below.heap_alloc _ _ _ (by show Bx < _; omega))).2.trans h3)
 have hset : ∀ b, b ≠ Bx → (w6.setCell ⟨Bx, 0, none⟩ v').heap[b]? = w6.heap[b]? := fun b hb => Below.heap_setCell _ _ _ _ hb
 have hco : (w6.setCell ⟨Bx, 0, none⟩ v').cell? ⟨Bx, 0, none⟩ = some v' := World.cell?_setCell_same _ _ _ ho6
 have hrb : rowB Bx W = v.ownBlock := by unfold rowB; rw [h2]
 have hgs := hgrow.size
 have hne : ∀ g, v.ownBlock = some g → W0.heap.size ≤ g ∧ ∃ o, W.heap[g]? = some o ∧ o.isCells = true := fun g hg => by
  rcases hrow.2 with ⟨h1, _⟩ | ⟨g2, cap, cur, h1, h2, h3, _⟩
  · rw [h1] at hg; simp [Value.ownBlock] at hg
  · rw [h1] at hg
    simp [Value.ownBlock] at hg
    subst hg
    exact ⟨h2, _, h3, rfl⟩
 have hkb : ∀ (b : Nat) (ob : Obj), b ≠ Bx → (b < W0.heap.size ∨ rowB Bx W ≠ some b) → W.heap[b]? = some ob → (w6.setCell ⟨Bx, 0, none⟩ v').heap[b]? = some ob := fun b ob hb1 hb3 ho => by
  rw [hset b hb1]
  have hbl := (Array.getElem?_eq_some_iff.1 ho).1
  refine (hgrow.block b (by omega) ?_).trans ((Below.heap_alloc _ _ _ hbl).trans ho)
  rcases hb3 with h | h
  · intro e
    have := (hne _ e.symm).1
    omega
  · exact fun e => h (by rw [hrb]; exact e.symm)
 refine ⟨⟨by simp; omega, fun k ob hk ho hc => ?_⟩, ⟨by simp; omega, ?_, fun b ob hb1 hb2 hb3 ho hc => hkb b ob hb1 hb3 ho⟩, ?_⟩
 · refine hkb k ob (by omega) (.inr fun e => ?_) ho
   rw [hrb] at e
   obtain ⟨_, o2, h5, h6⟩ := hne _ e
   rw [ho] at h5
   cases h5
   rw [h6] at hc
   cases hc
 · unfold rowB
   rw [hco]
   rcases hat with h | h
   · left
     unfold rowB at hrb
     exact h.trans hrb.symm
   · exact .inr ⟨_, h, by omega⟩
 · have hsel : selE f (pre ++ [x]) = selE f pre ++ [x] := by rw [selE_snoc, if_pos hfx]
   refine ⟨((h0.alloc (by have := h0.size; omega) o).trans (hb6.mono (by omega))).setCell hwB _, by simp; omega, fun b hb hbx => ?_, v', hco, by rw [World.frozen?_setCell]; exact hf6, ?_⟩
   · rw [hset b hbx]
     exact (hb6.block b hb).trans ((Below.heap_alloc _ _ _ (by omega)).trans (hk b hb hbx))
   · rw [hsel, List.length_append, flatE_snoc]
     exact ownsRow_setCell_below hown (by show Bx < W0.heap.size; omega) _
end
theorem vedges_any (x : Wd) (w : World) :
    Calls Tryz.prog 91 #[WdV x] w fun e w' => e = .returned (.func (.func 125) #[] #[.pointer (some ⟨w.heap.size, 0, none⟩)]) ∧ w' = w.alloc (Obj.cells #[.slice x.na x.nn x.nc, .slice x.ua x.un x.uc, .slice x.da x.dn x.dc, .int .i64 x.nx, .slice x.la x.ll x.lc, .slice x.sa x.sl x.sc, .int .i64 x.lost] 30) := by
 have hmf : ∀ (fn : Fn) (first cap : Array Value) (w : World), (Instr.makeFunc fn first cap).run Tryz.prog w = .ok (.func fn first cap) w := fun _ _ _ _ => rfl
 go_enter Tryz.func91, Tryz.ntmps91
 go_wp2
 go_ret
 exact ⟨rfl, rfl⟩
end Go.Proofs.YtkfodkbgmpbmfaaGreat
