/- total, Estimate, Taken and Rest of book, for half-edges with one line each: what each call computes. -/
import Derived.Test.YtaakbpnaifpcbaaEnt
namespace Go.Proofs.Ytaakbpnaifpcbaa
open Go.RowKit Go.Shelf
set_option linter.unusedVariables false
set_option linter.unusedSimpArgs false
attribute [local go_sem] Oper.semAt_some
theorem KeepsFrom.below {B : Nat} {W W' : World} (hb : Below W.heap.size W W') : KeepsFrom B W W' := ⟨hb.size, fun k o _ hk _ => (hb.block k (Array.getElem?_eq_some_iff.1 hk).1).trans hk⟩
theorem KeepsFrom.setCell {B : Nat} {W : World} {p : Addr} {v : Value} (hp : p.block < B) : KeepsFrom B W (W.setCell p v) := ⟨by simp, fun k o hB hk _ => (Below.heap_setCell W p v k (by omega)).trans hk⟩
theorem Kp.below {D Bo Bw : Nat} {A C : World} (hb : Below A.heap.size A C) (hBo : Bo < A.heap.size) : Kp D Bo Bw A C := ⟨hb.size, .inl (rowB_same (hb.block Bo hBo)), fun b o _ _ _ ho _ => (hb.block b (Array.getElem?_eq_some_iff.1 ho).1).trans ho⟩
theorem Kp.setCell {D Bo Bw o : Nat} {A : World} {v : Value} (hne : Bo ≠ Bw) : Kp D Bo Bw A (A.setCell ⟨Bw, o, none⟩ v) := ⟨by simp, .inl (rowB_same (Below.heap_setCell A ⟨Bw, o, none⟩ v Bo hne)), fun b ob _ hw _ ho _ => (Below.heap_setCell A ⟨Bw, o, none⟩ v b hw).trans ho⟩
def sumT (ask : Int → Bool) (l : List (Int × Int)) : Int := ((l.filter (fun t => ask t.1)).map Prod.snd).sum
theorem sumT_snoc (ask : Int → Bool) (l : List (Int × Int)) (x : Int × Int) : sumT ask (l ++ [x]) = if ask x.1 = true then sumT ask l + x.2 else sumT ask l := by
  unfold sumT
  rw [List.filter_append, List.map_append, List.sum_append]
  split
  · rename_i h
    simp [h]
  · rename_i h
    simp [h]
def tellT (x : Int) : Int × Int := if flowsB x = true then (x, 0) else (0, 10)
/-- What holds in the rounds of total: the sum so far, the sign, the function that is asked. -/
def TotI (w : World) (D : Nat) (fr sg : Int) (fv : Value) (ask : Int → Bool) (pre : List (Int × Int)) (W : World) : Prop :=
  Below w.heap.size w W ∧ D ≤ W.heap.size ∧ W.cell? ⟨w.heap.size, 0, none⟩ = some (.int .i64 (fr + sg * sumT ask pre)) ∧ W.frozen? ⟨w.heap.size, 0, none⟩ = false ∧ W.cell? ⟨w.heap.size + 1, 0, none⟩ = some (.int .i64 sg) ∧ W.cell? ⟨w.heap.size + 1 + 1, 0, none⟩ = some fv ∧ -2147483647 * (pre.length : Int) ≤ sumT ask pre ∧ sumT ask pre ≤ 2147483647 * (pre.length : Int)
theorem heap_cell' {A C : World} {p : Addr} (h : C.heap[p.block]? = A.heap[p.block]?) : C.cell? p = A.cell? p ∧ C.frozen? p = A.frozen? p := by
  constructor
  · exact World.cell?_of_block h
  · unfold World.frozen?
    rw [h]
theorem TotI.fr {w A C : World} {D Bo : Nat} {fr sg : Int} {fv : Value} {ask : Int → Bool} {pre : List (Int × Int)} (h : TotI w D fr sg fv ask pre A) (hD : w.heap.size + 3 ≤ D) (hf : FrI D Bo A C) : TotI w D fr sg fv ask pre C := by
  obtain ⟨h1, h2, h3, h4, h5, h6, h7⟩ := h
  have hb : ∀ b, b < D → C.heap[b]? = A.heap[b]? := fun b hb => hf.2.1 b (by omega) (.inl hb)
  have hs := h1.size
  refine ⟨⟨hf.2.2.1.trans h1.os, hf.2.2.2.1.trans h1.tape, hf.2.2.2.2.trans h1.output, Nat.le_trans hs hf.1, fun b hb' => (hb b (by omega)).trans (h1.block b hb')⟩, Nat.le_trans h2 hf.1, ?_, ?_, ?_, ?_, h7⟩
  · exact (heap_cell' (p := ⟨w.heap.size, 0, none⟩) (hb _ (by show w.heap.size < D; omega))).1.trans h3
  · exact (heap_cell' (p := ⟨w.heap.size, 0, none⟩) (hb _ (by show w.heap.size < D; omega))).2.trans h4
  · exact (heap_cell' (p := ⟨w.heap.size + 1, 0, none⟩) (hb _ (by show w.heap.size + 1 < D; omega))).1.trans h5
  · exact (heap_cell' (p := ⟨w.heap.size + 1 + 1, 0, none⟩) (hb _ (by show w.heap.size + 1 + 1 < D; omega))).1.trans h6
theorem TotI.row {w A : World} {D : Nat} {fr sg : Int} {fv : Value} {ask : Int → Bool} {pre : List (Int × Int)} (h : TotI w D fr sg fv ask pre A) : rowB (w.heap.size + 1) A = none := by
  obtain ⟨_, _, _, _, h5, _⟩ := h
  unfold rowB
  rw [h5]
  rfl
set_option maxRecDepth 100000 in
set_option maxHeartbeats 8000000 in
theorem entries_any (id : Int) (A : Option Addr) (n cp : Nat) (w : World) :
    Calls Try.prog 19 #[.int .i64 id, .slice A n cp, .string ⟨#[109]⟩] w fun e w' => e = .returned (.func (.func 23) #[] #[.pointer (some ⟨w.heap.size + 1, 0, none⟩), .pointer (some ⟨w.heap.size + 1 + 1, 0, none⟩), .pointer (some ⟨w.heap.size, 0, none⟩)]) ∧ w' = ((w.alloc (Obj.cells #[.int .i64 id] 3)).alloc (Obj.cells #[.slice A n cp] 36)).alloc (Obj.cells #[.string ⟨#[109]⟩] 9) := by
  have hmf : ∀ (fn : Fn) (first cap : Array Value) (w : World), (Instr.makeFunc fn first cap).run Try.prog w = .ok (.func fn first cap) w := fun _ _ _ _ => rfl
  go_enter Try.func19, Try.ntmps19
  go_wp2
  go_ret
  exact ⟨rfl, rfl⟩
theorem all_any (p : Int) (w : World) : Calls Try.prog 18 #[.int .i64 p] w fun e w' => e = .returned (.bool true) ∧ w' = w := by
  go_enter Try.func18, Try.ntmps18
  go_wp2
  go_ret
  exact ⟨rfl, rfl⟩
set_option maxHeartbeats 1000000 in
theorem nfits_any (a : Int) (w : World) : Calls Try.prog 22 #[.int .i64 a] w fun e w' => e = .returned (.bool (flowsB a)) ∧ w = w' := by
  go_enter Try.func22, Try.ntmps22
  by_cases h1 : -2147483647 ≤ a <;> by_cases h2 : a ≤ 2147483647
  all_goals go_wp2
  all_goals go_ret
  all_goals exact ⟨by simp [flowsB, h1, h2], rfl⟩
theorem rest1_any (p q : Int) (b : Nat) (w : World) (hc : w.cell? ⟨b, 0, none⟩ = some (.int .i64 q)) : Calls Try.prog 20 #[.int .i64 p, .pointer (some ⟨b, 0, none⟩)] w fun e w' => e = .returned (.bool (!(p == q))) ∧ w' = w := by
  go_enter Try.func20, Try.ntmps20
  go_wp2
  go_ret
  exact ⟨rfl, rfl⟩
set_option maxRecDepth 100000 in
set_option maxHeartbeats 8000000 in
theorem total_all (fr sg id : Int) (A : Option Addr) (n cp : Nat) (xs : List HL) (w : World) (hr : HsAt w w.heap.size A n xs) (hn : n ≤ 16) (hf1 : -4294967296 ≤ fr) (hf2 : fr ≤ 4294967296) (hsg : sg = 1 ∨ sg = -1) :
    Calls Try.prog 17 #[.int .i64 fr, .int .i64 sg, .int .i64 id, .slice A n cp, .string ⟨#[109]⟩, .func (.func 18) #[] #[]] w fun e w' => e = .returned (.tuple #[.int .i64 (tellT (fr + sg * sumT (fun _ => true) (xs.map (outH id)))).1, .int .i64 (tellT (fr + sg * sumT (fun _ => true) (xs.map (outH id)))).2]) ∧ Below w.heap.size w w' := by
  have HR := Lib.hid hr
  clear hr
  refine (callsIn_wide (n := 6)).1 ?_
  refine callsIn_of_wp_marks Try.func17 rfl trivial ?_ rfl
  simp only [Try.ntmps17, List.size_toArray, List.length_cons, List.length_nil, Nat.reduceAdd, Nat.reduceSub, Array.replicate_succ, Array.replicate_zero, List.push_toArray, List.append_toArray, List.nil_append, List.cons_append]
  refine wpIn_wide.2 ?_
  go_wp2_with (fail)
  refine (entries_any id A n cp _).mono ?_; rintro x w2 ⟨rfl, rfl⟩
  go_wp2
  have hmx : Try.prog.follows .mixedOrders = true := by kernel_rfl
  obtain ⟨W0, hW0⟩ : ∃ W0, W0 = ((((((w.alloc (Obj.cells #[.int .i64 fr] 2)).alloc (Obj.cells #[.int .i64 sg] 2)).alloc (Obj.cells #[.func (.func 18) #[] #[]] 58)).alloc (Obj.cells #[.int .i64 id] 3)).alloc (Obj.cells #[.slice A n cp] 36)).alloc (Obj.cells #[.string ⟨#[109]⟩] 9)) := ⟨_, rfl⟩
  have hz : W0.heap.size = w.heap.size + 6 := by rw [hW0]; simp
  have hb0 : Below w.heap.size w W0 := by rw [hW0]; exact (by repeat (first | with_reducible refine Below.setCell ?_ (by first | (simp; done) | (simp; omega) | omega) _ | with_reducible refine Below.alloc ?_ (by first | (simp; done) | (simp; omega) | omega) _ | with_reducible refine Below.drew ?_ | with_reducible refine below_drewN ?_ _ | with_reducible exact Below.refl _ _))
  have hI0 : TotI w W0.heap.size fr sg (.func (.func 18) #[] #[]) (fun _ => true) [] W0 := ⟨hb0, Nat.le_refl _, by rw [hW0]; simp [sumT]; go_simp, by rw [hW0]; go_simp, by rw [hW0]; go_simp, by rw [hW0]; go_simp, by simp [sumT]⟩
  have q3 : W0.cell? ⟨w.heap.size + 3, 0, none⟩ = some (.int .i64 id) := by rw [hW0]; go_simp
  have q4 : W0.cell? ⟨w.heap.size + 4, 0, none⟩ = some (.slice A n cp) := by rw [hW0]; go_simp
  have q5 : W0.cell? ⟨w.heap.size + 5, 0, none⟩ = some (.string ⟨#[109]⟩) := by rw [hW0]; go_simp
  rw [← hW0]
  clear hW0
  have hr0 := ((HR.out.below hb0).more hb0.size)
  have hda : ∀ ad, A = some ad → 0 < n → ad.block ≠ w.heap.size + 1 ∧ ad.block ≠ w.heap.size := fun ad ea hn0 => by
    obtain ⟨ad2, e2, hb2, _⟩ := HR.out.1.2 hn0
    obtain rfl : ad = ad2 := by rw [ea] at e2; exact Option.some.inj e2
    exact ⟨by omega, by omega⟩
  have hdl : ∀ x ∈ xs, x.la.block ≠ w.heap.size + 1 ∧ x.la.block ≠ w.heap.size := fun x hx => by have := (HR.out.2 x hx).1; exact ⟨by omega, by omega⟩
  refine (wpIn_wide (n := 6)).1 ?_
  refine wpIn_range_p (by omega) (gf := 23) (lb := #[.pointer (some ⟨w.heap.size + 4, 0, none⟩), .pointer (some ⟨w.heap.size + 5, 0, none⟩), .pointer (some ⟨w.heap.size + 3, 0, none⟩)]) rfl (enters_of Try.func23 (by kernel_rfl) rfl)
    (encs := encsN) (Pt := PtN) (Bo := w.heap.size + 1) (Bw := w.heap.size) (by omega) (entries_seq 5 (by omega) (w.heap.size + 4) (w.heap.size + 5) (w.heap.size + 3) (w.heap.size + 1) (w.heap.size) A n cp xs id W0 (by omega) (by omega) q4 q5 q3 hr0 (by omega) ⟨by omega, by omega⟩ ⟨by omega, by omega⟩ ⟨by omega, by omega⟩ hda hdl) (fun _ => rfl)
    (TotI w W0.heap.size fr sg (.func (.func 18) #[] #[]) (fun _ => true)) (fun _ _ h => ⟨h.2.1, fun r hr => by rw [h.row] at hr; cases hr⟩) (fun _ _ _ h hf => h.fr (by omega) hf) (fun _ _ _ h _ => h) hI0
    (fun x => { tmps := #[.int .i64 fr, .int .i64 sg, .int .i64 id, .slice A n cp, .string ⟨#[109]⟩, .func (.func 18) #[] #[], .pointer (some ⟨w.heap.size, 0, none⟩), .pointer (some ⟨w.heap.size + 1, 0, none⟩), undef, undef, undef, .pointer (some ⟨w.heap.size + 1 + 1, 0, none⟩), .int .i64 0, .int .i64 0, .int .i64 x.1, .int .i64 x.2, .int .i64 id, .slice A n cp, .string ⟨#[109]⟩, .func (.func 23) #[] #[.pointer (some ⟨w.heap.size + 1 + 1 + 1 + 1, 0, none⟩), .pointer (some ⟨w.heap.size + 1 + 1 + 1 + 1 + 1, 0, none⟩), .pointer (some ⟨w.heap.size + 1 + 1 + 1, 0, none⟩)], .int .i64 x.1, .int .i64 x.2, undef, undef, undef, undef, undef, undef, undef, undef, undef, undef, undef, undef], defers := [] }) ?assign ?body ?done
  case assign =>
    intro l x W K hK
    unfold encsN
    gi_wp2
    exact hK
  case body =>
    intro l pre x W hl hlen hI hP
    obtain ⟨i1, i2, i3, i4, i5, i6, i7, i8⟩ := hI
    obtain ⟨p1, p2⟩ := hP
    have HS := Lib.hid (sumT_snoc (fun _ => true) pre x)
    obtain ⟨S, hS⟩ : ∃ S, sumT (fun _ => true) pre = S := ⟨_, rfl⟩
    rw [hS] at i3 i7 i8
    have hpl : (pre.length : Int) ≤ 16 := by omega
    have hS1 : -34359738352 ≤ S := by omega
    have hS2 : S ≤ 34359738352 := by omega
    gi_wp2_with (fail)
    refine ⟨trivial, (CallsIn.inRound l (callsIn_wide.2 (all_any _ _))).mono ?_⟩
    rintro e w1 ⟨rfl, hw1⟩
    subst hw1
    have hs1 : sumT (fun _ => true) (pre ++ [x]) = S + x.2 := by rw [HS.out, hS]; simp
    rcases hsg with rfl | rfl
    all_goals
      gi_wp2
      refine ⟨KeepsFrom.setCell (by show w.heap.size < _; omega), Kp.setCell (by omega), i1.setCell (Nat.le_refl _) _, by simp; omega, (World.cell?_setCell_same _ _ _ i3).trans (by rw [hs1]; refine congrArg some (congrArg (Value.int .i64) ?_); omega), by rw [World.frozen?_setCell]; exact i4, (World.cell?_setCell_far _ _ _ _ (by show w.heap.size ≠ w.heap.size + 1; omega)).trans i5, (World.cell?_setCell_far _ _ _ _ (by show w.heap.size ≠ w.heap.size + 1 + 1; omega)).trans i6, ?_, ?_⟩
      all_goals
        rw [hs1]
        simp only [List.length_append, List.length_cons, List.length_nil]
        omega
  case done =>
    intro D ys W hDw hS hI hDd
    subst hS
    obtain ⟨i1, i2, i3, i4, i5, i6, i7, i8⟩ := hI
    obtain ⟨S, hS⟩ : ∃ S, sumT (fun _ => true) (xs.map (outH id)) = S := ⟨_, rfl⟩
    rw [hS] at i3 i7 i8
    have HSS := Lib.hid hS
    clear hS
    simp only [Exit.inBlock, Exit.then]
    go_wp2_with (fail)
    refine (nfits_any _ _).mono ?_; rintro e w1 ⟨rfl, hw1⟩
    subst hw1
    have hbD : Below w.heap.size w (W.putObj D (.deferred none)) := i1.trans (belowK_b (w := w) (Nat.le_refl _) W D _ _ (by omega) hDd rfl rfl)
    cases hfl : flowsB (fr + sg * S) with
    | true =>
      go_wp2
      refine ⟨by simp, .inl ⟨_, _, rfl, run_takeDeferred hDd, ?_⟩⟩
      refine ⟨.tuple #[.int .i64 (fr + sg * S), .int .i64 0], by simp [results, Try.results17, go_sem, *], by rw [HSS.out]; simp [tellT, hfl], hbD⟩
    | false =>
      go_wp2
      refine ⟨by simp, .inl ⟨_, _, rfl, run_takeDeferred hDd, ?_⟩⟩
      refine ⟨.tuple #[.int .i64 0, .int .i64 10], by simp [results, Try.results17, go_sem, *], by rw [HSS.out]; simp [tellT, hfl], hbD⟩
set_option maxRecDepth 100000 in
set_option maxHeartbeats 8000000 in
theorem total_rest (fr sg id : Int) (A : Option Addr) (n cp : Nat) (xs : List HL) (q : Int) (bp : Nat) (w : World) (hr : HsAt w w.heap.size A n xs) (hn : n ≤ 16) (hf1 : -4294967296 ≤ fr) (hf2 : fr ≤ 4294967296) (hsg : sg = 1 ∨ sg = -1) (hq : w.cell? ⟨bp, 0, none⟩ = some (.int .i64 q)) :
    Calls Try.prog 17 #[.int .i64 fr, .int .i64 sg, .int .i64 id, .slice A n cp, .string ⟨#[109]⟩, .func (.func 20) #[] #[.pointer (some ⟨bp, 0, none⟩)]] w fun e w' => e = .returned (.tuple #[.int .i64 (tellT (fr + sg * sumT (fun p => !(p == q)) (xs.map (outH id)))).1, .int .i64 (tellT (fr + sg * sumT (fun p => !(p == q)) (xs.map (outH id)))).2]) ∧ Below w.heap.size w w' := by
  have HR := Lib.hid hr
  clear hr
  refine (callsIn_wide (n := 6)).1 ?_
  refine callsIn_of_wp_marks Try.func17 rfl trivial ?_ rfl
  simp only [Try.ntmps17, List.size_toArray, List.length_cons, List.length_nil, Nat.reduceAdd, Nat.reduceSub, Array.replicate_succ, Array.replicate_zero, List.push_toArray, List.append_toArray, List.nil_append, List.cons_append]
  refine wpIn_wide.2 ?_
  go_wp2_with (fail)
  refine (entries_any id A n cp _).mono ?_; rintro x w2 ⟨rfl, rfl⟩
  go_wp2
  have hmx : Try.prog.follows .mixedOrders = true := by kernel_rfl
  obtain ⟨W0, hW0⟩ : ∃ W0, W0 = ((((((w.alloc (Obj.cells #[.int .i64 fr] 2)).alloc (Obj.cells #[.int .i64 sg] 2)).alloc (Obj.cells #[.func (.func 20) #[] #[.pointer (some ⟨bp, 0, none⟩)]] 58)).alloc (Obj.cells #[.int .i64 id] 3)).alloc (Obj.cells #[.slice A n cp] 36)).alloc (Obj.cells #[.string ⟨#[109]⟩] 9)) := ⟨_, rfl⟩
  have hz : W0.heap.size = w.heap.size + 6 := by rw [hW0]; simp
  have hb0 : Below w.heap.size w W0 := by rw [hW0]; exact (by repeat (first | with_reducible refine Below.setCell ?_ (by first | (simp; done) | (simp; omega) | omega) _ | with_reducible refine Below.alloc ?_ (by first | (simp; done) | (simp; omega) | omega) _ | with_reducible refine Below.drew ?_ | with_reducible refine below_drewN ?_ _ | with_reducible exact Below.refl _ _))
  have hI0 : TotI w W0.heap.size fr sg (.func (.func 20) #[] #[.pointer (some ⟨bp, 0, none⟩)]) (fun p => !(p == q)) [] W0 := ⟨hb0, Nat.le_refl _, by rw [hW0]; simp [sumT]; go_simp, by rw [hW0]; go_simp, by rw [hW0]; go_simp, by rw [hW0]; go_simp, by simp [sumT]⟩
  have q3 : W0.cell? ⟨w.heap.size + 3, 0, none⟩ = some (.int .i64 id) := by rw [hW0]; go_simp
  have q4 : W0.cell? ⟨w.heap.size + 4, 0, none⟩ = some (.slice A n cp) := by rw [hW0]; go_simp
  have q5 : W0.cell? ⟨w.heap.size + 5, 0, none⟩ = some (.string ⟨#[109]⟩) := by rw [hW0]; go_simp
  rw [← hW0]
  clear hW0
  have hr0 := ((HR.out.below hb0).more hb0.size)
  have hda : ∀ ad, A = some ad → 0 < n → ad.block ≠ w.heap.size + 1 ∧ ad.block ≠ w.heap.size := fun ad ea hn0 => by
    obtain ⟨ad2, e2, hb2, _⟩ := HR.out.1.2 hn0
    obtain rfl : ad = ad2 := by rw [ea] at e2; exact Option.some.inj e2
    exact ⟨by omega, by omega⟩
  have hdl : ∀ x ∈ xs, x.la.block ≠ w.heap.size + 1 ∧ x.la.block ≠ w.heap.size := fun x hx => by have := (HR.out.2 x hx).1; exact ⟨by omega, by omega⟩
  refine (wpIn_wide (n := 6)).1 ?_
  refine wpIn_range_p (by omega) (gf := 23) (lb := #[.pointer (some ⟨w.heap.size + 4, 0, none⟩), .pointer (some ⟨w.heap.size + 5, 0, none⟩), .pointer (some ⟨w.heap.size + 3, 0, none⟩)]) rfl (enters_of Try.func23 (by kernel_rfl) rfl)
    (encs := encsN) (Pt := PtN) (Bo := w.heap.size + 1) (Bw := w.heap.size) (by omega) (entries_seq 5 (by omega) (w.heap.size + 4) (w.heap.size + 5) (w.heap.size + 3) (w.heap.size + 1) (w.heap.size) A n cp xs id W0 (by omega) (by omega) q4 q5 q3 hr0 (by omega) ⟨by omega, by omega⟩ ⟨by omega, by omega⟩ ⟨by omega, by omega⟩ hda hdl) (fun _ => rfl)
    (TotI w W0.heap.size fr sg (.func (.func 20) #[] #[.pointer (some ⟨bp, 0, none⟩)]) (fun p => !(p == q))) (fun _ _ h => ⟨h.2.1, fun r hr => by rw [h.row] at hr; cases hr⟩) (fun _ _ _ h hf => h.fr (by omega) hf) (fun _ _ _ h _ => h) hI0
    (fun x => { tmps := #[.int .i64 fr, .int .i64 sg, .int .i64 id, .slice A n cp, .string ⟨#[109]⟩, .func (.func 20) #[] #[.pointer (some ⟨bp, 0, none⟩)], .pointer (some ⟨w.heap.size, 0, none⟩), .pointer (some ⟨w.heap.size + 1, 0, none⟩), undef, undef, undef, .pointer (some ⟨w.heap.size + 1 + 1, 0, none⟩), .int .i64 0, .int .i64 0, .int .i64 x.1, .int .i64 x.2, .int .i64 id, .slice A n cp, .string ⟨#[109]⟩, .func (.func 23) #[] #[.pointer (some ⟨w.heap.size + 1 + 1 + 1 + 1, 0, none⟩), .pointer (some ⟨w.heap.size + 1 + 1 + 1 + 1 + 1, 0, none⟩), .pointer (some ⟨w.heap.size + 1 + 1 + 1, 0, none⟩)], .int .i64 x.1, .int .i64 x.2, undef, undef, undef, undef, undef, undef, undef, undef, undef, undef, undef, undef], defers := [] }) ?assign ?body ?done
  case assign =>
    intro l x W K hK
    unfold encsN
    gi_wp2
    exact hK
  case body =>
    intro l pre x W hl hlen hI hP
    obtain ⟨i1, i2, i3, i4, i5, i6, i7, i8⟩ := hI
    obtain ⟨p1, p2⟩ := hP
    have HS := Lib.hid (sumT_snoc (fun p => !(p == q)) pre x)
    obtain ⟨S, hS⟩ : ∃ S, sumT (fun p => !(p == q)) pre = S := ⟨_, rfl⟩
    rw [hS] at i3 i7 i8
    have hpl : (pre.length : Int) ≤ 16 := by omega
    have hS1 : -34359738352 ≤ S := by omega
    have hS2 : S ≤ 34359738352 := by omega
    gi_wp2_with (fail)
    refine ⟨trivial, (CallsIn.inRound l (callsIn_wide.2 (rest1_any x.1 q bp _ ((i1.cell (p := ⟨bp, 0, none⟩) (cell_lt hq)).trans hq)))).mono ?_⟩
    rintro e w1 ⟨rfl, hw1⟩
    subst hw1
    cases hx : (!(x.1 == q)) with
    | true =>
      have hs1 : sumT (fun p => !(p == q)) (pre ++ [x]) = S + x.2 := by rw [HS.out, hS, if_pos hx]
      rcases hsg with rfl | rfl
      all_goals
       gi_wp2
       refine ⟨KeepsFrom.setCell (by show w.heap.size < _; omega), Kp.setCell (by omega), i1.setCell (Nat.le_refl _) _, by simp; omega, (World.cell?_setCell_same _ _ _ i3).trans (by rw [hs1]; refine congrArg some (congrArg (Value.int .i64) ?_); omega), by rw [World.frozen?_setCell]; exact i4, (World.cell?_setCell_far _ _ _ _ (by show w.heap.size ≠ w.heap.size + 1; omega)).trans i5, (World.cell?_setCell_far _ _ _ _ (by show w.heap.size ≠ w.heap.size + 1 + 1; omega)).trans i6, ?_, ?_⟩
       all_goals
         rw [hs1]
         simp only [List.length_append, List.length_cons, List.length_nil]
         omega
    | false =>
      have hs1 : sumT (fun p => !(p == q)) (pre ++ [x]) = S := by rw [HS.out, hS, if_neg (by rw [hx]; simp)]
      gi_wp2
      refine ⟨KeepsFrom.refl _ _, Kp.refl _ _ _ _, i1, i2, by rw [hs1]; exact i3, i4, i5, i6, ?_, ?_⟩
      all_goals
        rw [hs1]
        simp only [List.length_append, List.length_cons, List.length_nil]
        omega
  case done =>
    intro D ys W hDw hS hI hDd
    subst hS
    obtain ⟨i1, i2, i3, i4, i5, i6, i7, i8⟩ := hI
    obtain ⟨S, hS⟩ : ∃ S, sumT (fun p => !(p == q)) (xs.map (outH id)) = S := ⟨_, rfl⟩
    rw [hS] at i3 i7 i8
    have HSS := Lib.hid hS
    clear hS
    simp only [Exit.inBlock, Exit.then]
    go_wp2_with (fail)
    refine (nfits_any _ _).mono ?_; rintro e w1 ⟨rfl, hw1⟩
    subst hw1
    have hbD : Below w.heap.size w (W.putObj D (.deferred none)) := i1.trans (belowK_b (w := w) (Nat.le_refl _) W D _ _ (by omega) hDd rfl rfl)
    cases hfl : flowsB (fr + sg * S) with
    | true =>
      go_wp2
      refine ⟨by simp, .inl ⟨_, _, rfl, run_takeDeferred hDd, ?_⟩⟩
      refine ⟨.tuple #[.int .i64 (fr + sg * S), .int .i64 0], by simp [results, Try.results17, go_sem, *], by rw [HSS.out]; simp [tellT, hfl], hbD⟩
    | false =>
      go_wp2
      refine ⟨by simp, .inl ⟨_, _, rfl, run_takeDeferred hDd, ?_⟩⟩
      refine ⟨.tuple #[.int .i64 0, .int .i64 10], by simp [results, Try.results17, go_sem, *], by rw [HSS.out]; simp [tellT, hfl], hbD⟩
set_option maxRecDepth 100000 in
set_option maxHeartbeats 8000000 in
theorem estimate_any (id : Int) (inp : Int) (A : Option Addr) (n cp : Nat) (xs : List HL) (w : World) (hr : HsAt w w.heap.size A n xs) (hn : n ≤ 16) (hf1 : -4294967296 ≤ inp) (hf2 : inp ≤ 4294967296) :
    Calls Try.prog 10 #[.int .i64 id, .int .i64 inp, .slice A n cp, .string ⟨#[109]⟩] w fun e w' => e = .returned (.tuple #[.int .i64 (tellT (inp + (-1) * sumT (fun _ => true) (xs.map (outH id)))).1, .int .i64 (tellT (inp + (-1) * sumT (fun _ => true) (xs.map (outH id)))).2]) ∧ Below w.heap.size w w' := by
  have HR := Lib.hid hr
  clear hr
  have hmf : ∀ (fn : Fn) (first cap : Array Value) (w : World), (Instr.makeFunc fn first cap).run Try.prog w = .ok (.func fn first cap) w := fun _ _ _ _ => rfl
  go_enter Try.func10, Try.ntmps10
  go_wp2_with (fail)
  refine (total_all inp (-1) id A n cp xs _ (HR.out) hn hf1 hf2 (.inr rfl)).mono ?_; rintro e w1 ⟨rfl, hb1⟩
  have kb1 : Below w.heap.size w w1 := (by repeat (first | with_reducible refine Below.setCell ?_ (by first | (simp; done) | (simp; omega) | omega) _ | with_reducible refine Below.alloc ?_ (by first | (simp; done) | (simp; omega) | omega) _ | with_reducible refine Below.drew ?_ | with_reducible refine below_drewN ?_ _ | with_reducible exact Below.refl _ _ | with_reducible refine Below.trans ?_ (Below.mono hb1 (by first | (simp; done) | (simp; omega) | omega))))
  go_wp2
  go_ret2
  exact ⟨by first | rfl | (simp; done), kb1⟩
set_option maxRecDepth 100000 in
set_option maxHeartbeats 8000000 in
theorem taken_any (id : Int) (A : Option Addr) (n cp : Nat) (xs : List HL) (w : World) (hr : HsAt w w.heap.size A n xs) (hn : n ≤ 16)  :
    Calls Try.prog 12 #[.int .i64 id, .slice A n cp, .string ⟨#[109]⟩] w fun e w' => e = .returned (.tuple #[.int .i64 (tellT (0 + 1 * sumT (fun _ => true) (xs.map (outH id)))).1, .int .i64 (tellT (0 + 1 * sumT (fun _ => true) (xs.map (outH id)))).2]) ∧ Below w.heap.size w w' := by
  have HR := Lib.hid hr
  clear hr
  have hmf : ∀ (fn : Fn) (first cap : Array Value) (w : World), (Instr.makeFunc fn first cap).run Try.prog w = .ok (.func fn first cap) w := fun _ _ _ _ => rfl
  go_enter Try.func12, Try.ntmps12
  go_wp2_with (fail)
  refine (total_all 0 1 id A n cp xs _ (HR.out) hn (by omega) (by omega) (.inl rfl)).mono ?_; rintro e w1 ⟨rfl, hb1⟩
  have kb1 : Below w.heap.size w w1 := (by repeat (first | with_reducible refine Below.setCell ?_ (by first | (simp; done) | (simp; omega) | omega) _ | with_reducible refine Below.alloc ?_ (by first | (simp; done) | (simp; omega) | omega) _ | with_reducible refine Below.drew ?_ | with_reducible refine below_drewN ?_ _ | with_reducible exact Below.refl _ _ | with_reducible refine Below.trans ?_ (Below.mono hb1 (by first | (simp; done) | (simp; omega) | omega))))
  go_wp2
  go_ret2
  exact ⟨by first | rfl | (simp; done), kb1⟩
set_option maxRecDepth 100000 in
set_option maxHeartbeats 8000000 in
theorem rest_any (id : Int) (inp q : Int) (A : Option Addr) (n cp : Nat) (xs : List HL) (w : World) (hr : HsAt w w.heap.size A n xs) (hn : n ≤ 16) (hf1 : -4294967296 ≤ inp) (hf2 : inp ≤ 4294967296) :
    Calls Try.prog 13 #[.int .i64 id, .int .i64 inp, .slice A n cp, .string ⟨#[109]⟩, .int .i64 q] w fun e w' => e = .returned (.tuple #[.int .i64 (tellT (inp + (-1) * sumT (fun p => !(p == q)) (xs.map (outH id)))).1, .int .i64 (tellT (inp + (-1) * sumT (fun p => !(p == q)) (xs.map (outH id)))).2]) ∧ Below w.heap.size w w' := by
  have HR := Lib.hid hr
  clear hr
  have hmf : ∀ (fn : Fn) (first cap : Array Value) (w : World), (Instr.makeFunc fn first cap).run Try.prog w = .ok (.func fn first cap) w := fun _ _ _ _ => rfl
  go_enter Try.func13, Try.ntmps13
  go_wp2_with (fail)
  refine (total_rest inp (-1) id A n cp xs q w.heap.size _ ((HR.out.below (by repeat (first | with_reducible refine Below.setCell ?_ (by first | (simp; done) | (simp; omega) | omega) _ | with_reducible refine Below.alloc ?_ (by first | (simp; done) | (simp; omega) | omega) _ | with_reducible refine Below.drew ?_ | with_reducible refine below_drewN ?_ _ | with_reducible exact Below.refl _ _))).more (by simp)) hn hf1 hf2 (.inr rfl) (by go_simp)).mono ?_; rintro e w1 ⟨rfl, hb1⟩
  have kb1 : Below w.heap.size w w1 := (by repeat (first | with_reducible refine Below.setCell ?_ (by first | (simp; done) | (simp; omega) | omega) _ | with_reducible refine Below.alloc ?_ (by first | (simp; done) | (simp; omega) | omega) _ | with_reducible refine Below.drew ?_ | with_reducible refine below_drewN ?_ _ | with_reducible exact Below.refl _ _ | with_reducible refine Below.trans ?_ (Below.mono hb1 (by first | (simp; done) | (simp; omega) | omega))))
  go_wp2
  go_ret2
  exact ⟨by first | rfl | (simp; done), kb1⟩
end Go.Proofs.Ytaakbpnaifpcbaa
