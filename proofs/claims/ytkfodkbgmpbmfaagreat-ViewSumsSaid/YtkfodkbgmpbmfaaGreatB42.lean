/-  -/
import Derived.Test.YtkfodkbgmpbmfaaGreatB01
import Derived.Test.YtkfodkbgmpbmfaaGreatB41
set_option linter.unusedVariables false
set_option linter.unusedSimpArgs false
namespace Go.Proofs.YtkfodkbgmpbmfaaGreat
open Go.RowKit Go.Shelf
set_option linter.unusedVariables false
set_option linter.unusedSimpArgs false
set_option maxRecDepth 100000
theorem dag_of {ops : Array Oper} (h : (List.range ops.size).all (fun i => (ops[i]?.map fun o => o.after.all fun e => decide (e.on < i)).getD true) = true) : ∀ (i : Nat) o, ops[i]? = some o → ∀ e ∈ o.after, e.on < i := by
 intro i o ho e he
 have h1 := List.all_eq_true.1 h i (List.mem_range.2 (Array.getElem?_eq_some_iff.1 ho).1)
 rw [ho] at h1
 have h2 : o.after.all (fun e => decide (e.on < i)) = true := h1
 rw [Array.all_eq_true_iff_forall_mem] at h2
 simpa using h2 e he
theorem Oper.wp_skipE {P : Program} {Q' : Exit → Act → World → Prop} {o : Oper} {a : Act} {w : World} {C : World → Prop} {K : Act → World → Prop} (h : ∃ w', (execOp a.eval o).run P w = .ok .skip w' ∧ C w') (hk : ∀ w', C w' → K (a.put o.dst undef) w') : o.wp P a w K Q' := by
 obtain ⟨w', h1, h2⟩ := h
 exact Oper.wp_skip h1 (hk w' h2)
theorem putN (a : Act) (v : Value) : a.put none v = a := rfl
theorem wpOp_skipE {P : Program} {ops : Array Oper} {i : Nat} {Q' : Exit → Act → World → Prop} {o : Oper} {a : Act} {w : World} {C : World → Prop} {K : Act → World → Prop} (ho : ops[i]? = some o) (hg : o.guard = none) (h : ∃ w', (execOp a.eval o).run P w = .ok .skip w' ∧ C w') (hk : ∀ w', C w' → K (a.put o.dst undef) w') : wpOp P ops Q' i K a w :=
 wpOp_of ho hg (Oper.wp_skipE h hk)
theorem aw_load {ev : Operand → Value} {o : Oper} {y : Operand} {g : Nat} {x : Nd} {w : World} (ho : o.op = .load 56 y) (hx : ev y = .pointer (some ⟨g, 0, none⟩)) (h : LocX encN w g x) : (execOp ev o).run Tryz.prog w = .ok (.value (NdV x)) w := by
 have c0 := (h.2 0 _ rfl).1; have c1 := (h.2 1 _ rfl).1; have c2 := (h.2 2 _ rfl).1; have c3 := (h.2 3 _ rfl).1; have c4 := (h.2 4 _ rfl).1; have c5 := (h.2 5 _ rfl).1; have c6 := (h.2 6 _ rfl).1; have c7 := (h.2 7 _ rfl).1
 clear h
 simp only [execOp, ho]
 go_simp
theorem aw_bs22 {ev : Operand → Value} {o : Oper} {y z : Operand} {U1 U2 : Nd} {w : World} (ho : o.op = .buildSlice 22 2 #[(0, y), (1, z)]) (hy : ev y = NdV U1) (hz : ev z = NdV U2) : (execOp ev o).run Tryz.prog w = .ok (.value (.slice (some ⟨w.heap.size, 0, none⟩) 2 2)) (w.alloc (.cells (encNN (U1, U2)).toArray 56)) := by
 simp only [execOp, ho]
 go_simp
 rfl
theorem aw_bs23 {ev : Operand → Value} {o : Oper} {w : World} (ho : o.op = .buildSlice 23 2 #[(0, .const (.bool true)), (1, .const (.bool true))]) (hc : ∀ v, ev (.const v) = v) : (execOp ev o).run Tryz.prog w = .ok (.value (.slice (some ⟨w.heap.size, 0, none⟩) 2 2)) (w.alloc (.cells (encBs [true, true]).toArray 4)) := by
 simp only [execOp, ho]
 go_simp
 rfl
theorem aw_mk {ev : Operand → Value} {o : Oper} {w : World} (ho : o.op = .makeSlice 77 (.const (.int .i64 64)) (.const (.int .i64 64))) (hc : ∀ v, ev (.const v) = v) : (execOp ev o).run Tryz.prog w = .ok (.value (.slice (some ⟨w.heap.size, 0, none⟩) 64 64)) (w.alloc (.cells (madeCells #[.int .u8 0] 64) 5)) := by
 have h : (Instr.makeSlice 77 (.int .i64 64) (.int .i64 64)).run Tryz.prog w = .ok (.slice (some ⟨w.heap.size, 0, none⟩) 64 64) (w.alloc (.cells (madeCells #[.int .u8 0] 64) 5)) := run_make_row' (P := Tryz.prog) 77 5 (.int .u8 0) 1 Tryz.underlying77 byte_inf rfl .i64 .i64 64 (by decide) (by decide) w
 simp only [execOp, ho, hc]
 go_simp
theorem aw_bs24 {ev : Operand → Value} {o : Oper} {y z : Operand} {A B : Option Addr} {w : World} (ho : o.op = .buildSlice 24 2 #[(0, y), (1, z)]) (hy : ev y = .slice A 64 64) (hz : ev z = .slice B 64 64) : (execOp ev o).run Tryz.prog w = .ok (.value (.slice (some ⟨w.heap.size, 0, none⟩) 2 2)) (w.alloc (.cells #[.slice A 64 64, .slice B 64 64] 77)) := by
 simp only [execOp, ho]
 go_simp
theorem aw_build {ev : Operand → Value} {o : Oper} {y z u : Operand} {A B C : Option Addr} {w : World} (ho : o.op = .build 30 #[(0, y), (1, z), (2, u)]) (hy : ev y = .slice A 2 2) (hz : ev z = .slice B 2 2) (hu : ev u = .slice C 2 2) : (execOp ev o).run Tryz.prog w = .ok (.value (.agg (valW (.slice A 2 2) (.slice B 2 2) (.slice C 2 2)).toArray)) w := by
 simp only [execOp, ho]
 go_simp
 rfl
theorem aw_alloc {ev : Operand → Value} {o : Oper} {w : World} (ho : o.op = .alloc 30) : (execOp ev o).run Tryz.prog w = .ok (.value (.pointer (some ⟨w.heap.size, 0, none⟩))) (w.alloc (.cells zerW.toArray 30)) := by
 simp only [execOp, ho]
 go_simp
 rfl
theorem aw_store {ev : Operand → Value} {o : Oper} {y z : Operand} {g : Nat} {A B C : Option Addr} {w : World} (ho : o.op = .store 30 y z) (hy : ev y = .pointer (some ⟨g, 0, none⟩)) (hz : ev z = .agg (valW (.slice A 2 2) (.slice B 2 2) (.slice C 2 2)).toArray) (h : LocX encV w g zerW) :
    ∃ w', (execOp ev o).run Tryz.prog w = .ok .skip w' ∧ LocX encV w' g (valW (.slice A 2 2) (.slice B 2 2) (.slice C 2 2)) ∧ Away g w w' := by
 have c0 := (h.2 0 _ rfl); have c1 := (h.2 1 _ rfl); have c2 := (h.2 2 _ rfl); have c3 := (h.2 3 _ rfl); have c4 := (h.2 4 _ rfl); have c5 := (h.2 5 _ rfl); have c6 := (h.2 6 _ rfl)
 obtain ⟨c0, f0⟩ := c0; obtain ⟨c1, f1⟩ := c1; obtain ⟨c2, f2⟩ := c2; obtain ⟨c3, f3⟩ := c3; obtain ⟨c4, f4⟩ := c4; obtain ⟨c5, f5⟩ := c5; obtain ⟨c6, f6⟩ := c6
 have HH := Lib.hid h
 clear h
 refine ⟨((((((w.setCell ⟨g, 0, none⟩ (.slice A 2 2)).setCell ⟨g, 1, none⟩ (.slice B 2 2)).setCell ⟨g, 2, none⟩ (.slice C 2 2)).setCell ⟨g, 3, none⟩ (.int .i64 0)).setCell ⟨g, 4, none⟩ (.slice none 0 0)).setCell ⟨g, 5, none⟩ (.slice none 0 0)).setCell ⟨g, 6, none⟩ (.int .i64 0), ?_, ?_, ?_⟩
 · simp only [execOp, ho, hy, hz, valW]
   go_simp
 · exact ((((((HH.out.set 0 _ [.slice A 2 2, .slice none 0 0, .slice none 0 0, .int .i64 0, .slice none 0 0, .slice none 0 0, .int .i64 0] rfl).set 1 _ [.slice A 2 2, .slice B 2 2, .slice none 0 0, .int .i64 0, .slice none 0 0, .slice none 0 0, .int .i64 0] rfl).set 2 _ (valW (.slice A 2 2) (.slice B 2 2) (.slice C 2 2)) rfl).set 3 _ (valW (.slice A 2 2) (.slice B 2 2) (.slice C 2 2)) rfl).set 4 _ (valW (.slice A 2 2) (.slice B 2 2) (.slice C 2 2)) rfl).set 5 _ (valW (.slice A 2 2) (.slice B 2 2) (.slice C 2 2)) rfl).set 6 _ (valW (.slice A 2 2) (.slice B 2 2) (.slice C 2 2)) rfl
 · exact (((((((Away.set _ _ _).trans (Away.set _ _ _)).trans (Away.set _ _ _)).trans (Away.set _ _ _)).trans (Away.set _ _ _)).trans (Away.set _ _ _)).trans (Away.set _ _ _))
set_option maxHeartbeats 16000000 in
theorem awake_any (w : World) : Calls Tryz.prog 9 #[] w fun e w' => e = .returned (.bool true) ∧ Below w.heap.size w w' := by
 go_enter Tryz.func9, Tryz.ntmps9
 go_upto_region 5 with (fail)
 refine lay1 (fun W => AwAt W 0 1 true 10 (w.heap.size + 1 + 1) (w.heap.size + 1 + 1 + 1) (w.heap.size + 1 + 1 + 1 + 1) (w.heap.size + 1 + 1 + 1 + 1 + 1) (w.heap.size + 1 + 1 + 1 + 1 + 1 + 1) ∧ AwAt W 1 0 false 0 (w.heap.size + 1 + 1 + 1 + 1 + 1 + 1 + 1 + 1) (w.heap.size + 1 + 1 + 1 + 1 + 1 + 1 + 1 + 1 + 1) (w.heap.size + 1 + 1 + 1 + 1 + 1 + 1 + 1 + 1 + 1 + 1) (w.heap.size + 1 + 1 + 1 + 1 + 1 + 1 + 1 + 1 + 1 + 1 + 1) (w.heap.size + 1 + 1 + 1 + 1 + 1 + 1 + 1 + 1 + 1 + 1 + 1 + 1) ∧ LocX encN W (w.heap.size + 1 + 1 + 1 + 1 + 1 + 1 + 1) (awNd 0 1 true 10 (w.heap.size + 1 + 1) (w.heap.size + 1 + 1 + 1) (w.heap.size + 1 + 1 + 1 + 1) (w.heap.size + 1 + 1 + 1 + 1 + 1) (w.heap.size + 1 + 1 + 1 + 1 + 1 + 1)) ∧ LocX encN W (w.heap.size + 1 + 1 + 1 + 1 + 1 + 1 + 1 + 1 + 1 + 1 + 1 + 1 + 1) (awNd 1 0 false 0 (w.heap.size + 1 + 1 + 1 + 1 + 1 + 1 + 1 + 1) (w.heap.size + 1 + 1 + 1 + 1 + 1 + 1 + 1 + 1 + 1) (w.heap.size + 1 + 1 + 1 + 1 + 1 + 1 + 1 + 1 + 1 + 1) (w.heap.size + 1 + 1 + 1 + 1 + 1 + 1 + 1 + 1 + 1 + 1 + 1) (w.heap.size + 1 + 1 + 1 + 1 + 1 + 1 + 1 + 1 + 1 + 1 + 1 + 1)) ∧ Below w.heap.size w W) ⟨⟨(by repeat (first | (refine LocX.new ?_ ?_; (· (simp; done)); (· rfl)) | refine LocX.al ?_)), (by repeat (first | (refine LocX.new ?_ ?_; (· (simp; done)); (· rfl)) | refine LocX.al ?_)), (by repeat (first | (refine LocX.new ?_ ?_; (· (simp; done)); (· rfl)) | refine LocX.al ?_)), (by repeat (first | (refine LocX.new ?_ ?_; (· (simp; done)); (· rfl)) | refine LocX.al ?_)), (by repeat (first | (refine LocX.new ?_ ?_; (· (simp; done)); (· rfl)) | refine LocX.al ?_))⟩, ⟨(by repeat (first | (refine LocX.new ?_ ?_; (· (simp; done)); (· rfl)) | refine LocX.al ?_)), (by repeat (first | (refine LocX.new ?_ ?_; (· (simp; done)); (· rfl)) | refine LocX.al ?_)), (by repeat (first | (refine LocX.new ?_ ?_; (· (simp; done)); (· rfl)) | refine LocX.al ?_)), (by repeat (first | (refine LocX.new ?_ ?_; (· (simp; done)); (· rfl)) | refine LocX.al ?_)), (by repeat (first | (refine LocX.new ?_ ?_; (· (simp; done)); (· rfl)) | refine LocX.al ?_))⟩, (by repeat (first | (refine LocX.new ?_ ?_; (· (simp; done)); (· rfl)) | refine LocX.al ?_)), (by repeat (first | (refine LocX.new ?_ ?_; (· (simp; done)); (· rfl)) | refine LocX.al ?_)), Qb⟩ ?_
 rintro w4 ⟨hA1, hA2, hX3, hX4, kb4⟩
 have HA1 := Lib.hid hA1; have HA2 := Lib.hid hA2; have HX3 := Lib.hid hX3; have HX4 := Lib.hid hX4; have HKB4 := Lib.hid kb4
 clear hA1 hA2 hX3 hX4 kb4
 refine name_act ?_
 intro a0 ha0
 have hs : a0.tmps.size = 123 := by rw [ha0]; rfl
 have e3 : a0.eval (.tmp 3) = .pointer (some ⟨w.heap.size + 1 + 1 + 1 + 1 + 1 + 1 + 1, 0, none⟩) := by rw [ha0]; rfl
 have e4 : a0.eval (.tmp 4) = .pointer (some ⟨w.heap.size + 1 + 1 + 1 + 1 + 1 + 1 + 1 + 1 + 1 + 1 + 1 + 1 + 1, 0, none⟩) := by rw [ha0]; rfl
 have HA0 := Lib.hid ha0
 have HN : Hid (a0 = putAW a0 undef undef undef undef undef undef undef undef undef) := Lib.hid (by rw [ha0]; simp only [putAW, Act.put, List.setIfInBounds_toArray, List.set_cons_zero, List.set_cons_succ])
 clear ha0
 refine wp_region_J (fun l a w' => ∃ x1 x2 x3 x4 x5 x6 x7 x8 x9, a = putAW a0 x1 x2 x3 x4 x5 x6 x7 x8 x9 ∧ Below w4.heap.size w4 w' ∧ (l.getD 7 false = true → l.getD 2 false = true ∧ l.getD 3 false = true ∧ l.getD 6 false = true) ∧ (l.getD 9 false = true → l.getD 8 false = true ∧ l.getD 7 false = true) ∧ (l.getD 0 false = true → x1 = NdV (awNd 0 1 true 10 (w.heap.size + 1 + 1) (w.heap.size + 1 + 1 + 1) (w.heap.size + 1 + 1 + 1 + 1) (w.heap.size + 1 + 1 + 1 + 1 + 1) (w.heap.size + 1 + 1 + 1 + 1 + 1 + 1))) ∧ (l.getD 1 false = true → x2 = NdV (awNd 1 0 false 0 (w.heap.size + 1 + 1 + 1 + 1 + 1 + 1 + 1 + 1) (w.heap.size + 1 + 1 + 1 + 1 + 1 + 1 + 1 + 1 + 1) (w.heap.size + 1 + 1 + 1 + 1 + 1 + 1 + 1 + 1 + 1 + 1) (w.heap.size + 1 + 1 + 1 + 1 + 1 + 1 + 1 + 1 + 1 + 1 + 1) (w.heap.size + 1 + 1 + 1 + 1 + 1 + 1 + 1 + 1 + 1 + 1 + 1 + 1))) ∧ (l.getD 2 false = true → ∃ g, x3 = .slice (some ⟨g, 0, none⟩) 2 2 ∧ w4.heap.size ≤ g ∧ LocX encNN w' g ((awNd 0 1 true 10 (w.heap.size + 1 + 1) (w.heap.size + 1 + 1 + 1) (w.heap.size + 1 + 1 + 1 + 1) (w.heap.size + 1 + 1 + 1 + 1 + 1) (w.heap.size + 1 + 1 + 1 + 1 + 1 + 1)), (awNd 1 0 false 0 (w.heap.size + 1 + 1 + 1 + 1 + 1 + 1 + 1 + 1) (w.heap.size + 1 + 1 + 1 + 1 + 1 + 1 + 1 + 1 + 1) (w.heap.size + 1 + 1 + 1 + 1 + 1 + 1 + 1 + 1 + 1 + 1) (w.heap.size + 1 + 1 + 1 + 1 + 1 + 1 + 1 + 1 + 1 + 1 + 1) (w.heap.size + 1 + 1 + 1 + 1 + 1 + 1 + 1 + 1 + 1 + 1 + 1 + 1)))) ∧ (l.getD 3 false = true → ∃ g, x4 = .slice (some ⟨g, 0, none⟩) 2 2 ∧ w4.heap.size ≤ g ∧ LocX encBs w' g [true, true]) ∧ (l.getD 4 false = true → ∃ A, x5 = .slice A 64 64) ∧ (l.getD 5 false = true → ∃ A, x6 = .slice A 64 64) ∧ (l.getD 6 false = true → ∃ A, x7 = .slice A 2 2) ∧ (l.getD 7 false = true → x8 = .agg (valW x3 x4 x7).toArray) ∧ (l.getD 8 false = true → ∃ g, x9 = .pointer (some ⟨g, 0, none⟩) ∧ w4.heap.size ≤ g ∧ (l.getD 9 false = false → LocX encV w' g zerW) ∧ (l.getD 9 false = true → LocX encV w' g (valW x3 x4 x7)))) (by kernel_rfl) (dag_of (by kernel_rfl)) ?_ ?_ ?_
 · refine ⟨undef, undef, undef, undef, undef, undef, undef, undef, undef, HN.out, (Below.refl _ _).drew, ?_⟩
   have hf : ∀ j, (Array.replicate 10 false).getD j false = false := fun j => by
    unfold Array.getD
    split <;> simp
   refine ⟨fun h => ?_, fun h => ?_, fun h => ?_, fun h => ?_, fun h => ?_, fun h => ?_, fun h => ?_, fun h => ?_, fun h => ?_, fun h => ?_, fun h => ?_⟩ <;> exact absurd ((hf _).symm.trans h) (by decide)
 · intro l a w' i hl hi hu hd hJ
   obtain ⟨x1, x2, x3, x4, x5, x6, x7, x8, x9, rfl, hb, p7, p9, q0, q1, q2, q3, q4, q5, q6, q7, q8⟩ := hJ
   have hi' : i < l.size := by rw [hl]; exact hi
   have gt : ∀ j, (l.setIfInBounds i true).getD j false = true → j ≠ i → l.getD j false = true := fun j h hj => (set_true hi' h).resolve_left hj
   have gs : (l.setIfInBounds i true).getD i false = true := by simp [Array.getD, hi']
   have gk : ∀ j, j ≠ i → (l.setIfInBounds i true).getD j false = l.getD j false := fun j hj => getD_set_ne false (Ne.symm hj)
   have hui : l.getD i false = false := by rw [← getD_same hi']; exact hu
   have x3v : LocX encN w' (w.heap.size + 1 + 1 + 1 + 1 + 1 + 1 + 1) (awNd 0 1 true 10 (w.heap.size + 1 + 1) (w.heap.size + 1 + 1 + 1) (w.heap.size + 1 + 1 + 1 + 1) (w.heap.size + 1 + 1 + 1 + 1 + 1) (w.heap.size + 1 + 1 + 1 + 1 + 1 + 1)) := HX3.out.below hb HX3.out.1
   have x4v : LocX encN w' (w.heap.size + 1 + 1 + 1 + 1 + 1 + 1 + 1 + 1 + 1 + 1 + 1 + 1 + 1) (awNd 1 0 false 0 (w.heap.size + 1 + 1 + 1 + 1 + 1 + 1 + 1 + 1) (w.heap.size + 1 + 1 + 1 + 1 + 1 + 1 + 1 + 1 + 1) (w.heap.size + 1 + 1 + 1 + 1 + 1 + 1 + 1 + 1 + 1 + 1) (w.heap.size + 1 + 1 + 1 + 1 + 1 + 1 + 1 + 1 + 1 + 1 + 1) (w.heap.size + 1 + 1 + 1 + 1 + 1 + 1 + 1 + 1 + 1 + 1 + 1 + 1)) := HX4.out.below hb HX4.out.1
   have hw4 := hb.size
   have al : ∀ o, Below w4.heap.size w4 (w'.alloc o) := fun o => hb.alloc hw4 o
   have h10 : i < 10 := hi
   have hcs : i = 0 ∨ i = 1 ∨ i = 2 ∨ i = 3 ∨ i = 4 ∨ i = 5 ∨ i = 6 ∨ i = 7 ∨ i = 8 ∨ i = 9 := by omega
   rcases hcs with rfl | rfl | rfl | rfl | rfl | rfl | rfl | rfl | rfl | rfl
   · skip
     refine wpOp_of rfl rfl ?_
     have ev := evAW_far a0 x1 x2 x3 x4 x5 x6 x7 x8 x9 3 hs (by decide)
     rw [e3] at ev
     refine Oper.wp_val (v := NdV (awNd 0 1 true 10 (w.heap.size + 1 + 1) (w.heap.size + 1 + 1 + 1) (w.heap.size + 1 + 1 + 1 + 1) (w.heap.size + 1 + 1 + 1 + 1 + 1) (w.heap.size + 1 + 1 + 1 + 1 + 1 + 1))) (w' := w') ?_ ?_
     · refine aw_load rfl ?_ x3v
       exact ev
     exact ⟨_, _, _, _, _, _, _, _, _, putAW_37 .., hb, fun h => ⟨by rw [gk 2 (by decide)]; exact (p7 (gt 7 h (by decide))).1, by rw [gk 3 (by decide)]; exact (p7 (gt 7 h (by decide))).2.1, by rw [gk 6 (by decide)]; exact (p7 (gt 7 h (by decide))).2.2⟩, fun h => ⟨by rw [gk 8 (by decide)]; exact (p9 (gt 9 h (by decide))).1, by rw [gk 7 (by decide)]; exact (p9 (gt 9 h (by decide))).2⟩, fun _ => rfl, fun h => q1 (gt 1 h (by decide)), fun h => by obtain ⟨g, e, h1, h2⟩ := q2 (gt 2 h (by decide)); exact ⟨g, e, h1, h2⟩, fun h => by obtain ⟨g, e, h1, h2⟩ := q3 (gt 3 h (by decide)); exact ⟨g, e, h1, h2⟩, fun h => q4 (gt 4 h (by decide)), fun h => q5 (gt 5 h (by decide)), fun h => q6 (gt 6 h (by decide)), fun h => q7 (gt 7 h (by decide)), fun h => by obtain ⟨g, e, h1, h2, h3⟩ := q8 (gt 8 h (by decide)); exact ⟨g, e, h1, fun h4 => (h2 (by rw [← gk 9 (by decide)]; exact h4)), fun h4 => (h3 (by rw [← gk 9 (by decide)]; exact h4))⟩⟩
   · skip
     refine wpOp_of rfl rfl ?_
     have ev := evAW_far a0 x1 x2 x3 x4 x5 x6 x7 x8 x9 4 hs (by decide)
     rw [e4] at ev
     refine Oper.wp_val (v := NdV (awNd 1 0 false 0 (w.heap.size + 1 + 1 + 1 + 1 + 1 + 1 + 1 + 1) (w.heap.size + 1 + 1 + 1 + 1 + 1 + 1 + 1 + 1 + 1) (w.heap.size + 1 + 1 + 1 + 1 + 1 + 1 + 1 + 1 + 1 + 1) (w.heap.size + 1 + 1 + 1 + 1 + 1 + 1 + 1 + 1 + 1 + 1 + 1) (w.heap.size + 1 + 1 + 1 + 1 + 1 + 1 + 1 + 1 + 1 + 1 + 1 + 1))) (w' := w') ?_ ?_
     · refine aw_load rfl ?_ x4v
       exact ev
     exact ⟨_, _, _, _, _, _, _, _, _, putAW_38 .., hb, fun h => ⟨by rw [gk 2 (by decide)]; exact (p7 (gt 7 h (by decide))).1, by rw [gk 3 (by decide)]; exact (p7 (gt 7 h (by decide))).2.1, by rw [gk 6 (by decide)]; exact (p7 (gt 7 h (by decide))).2.2⟩, fun h => ⟨by rw [gk 8 (by decide)]; exact (p9 (gt 9 h (by decide))).1, by rw [gk 7 (by decide)]; exact (p9 (gt 9 h (by decide))).2⟩, fun h => q0 (gt 0 h (by decide)), fun _ => rfl, fun h => by obtain ⟨g, e, h1, h2⟩ := q2 (gt 2 h (by decide)); exact ⟨g, e, h1, h2⟩, fun h => by obtain ⟨g, e, h1, h2⟩ := q3 (gt 3 h (by decide)); exact ⟨g, e, h1, h2⟩, fun h => q4 (gt 4 h (by decide)), fun h => q5 (gt 5 h (by decide)), fun h => q6 (gt 6 h (by decide)), fun h => q7 (gt 7 h (by decide)), fun h => by obtain ⟨g, e, h1, h2, h3⟩ := q8 (gt 8 h (by decide)); exact ⟨g, e, h1, fun h4 => (h2 (by rw [← gk 9 (by decide)]; exact h4)), fun h4 => (h3 (by rw [← gk 9 (by decide)]; exact h4))⟩⟩
   · skip
     have d0 := hd _ rfl ⟨0, .data⟩ (List.mem_toArray.2 (.head _)) rfl
     have d1 := hd _ rfl ⟨1, .data⟩ (List.mem_toArray.2 (.tail _ (.head _))) rfl
     refine wpOp_of rfl rfl ?_
     obtain rfl := q0 d0
     obtain rfl := q1 d1
     refine Oper.wp_val (aw_bs22 rfl (evAW_37 _ _ _ _ _ _ _ _ _ _ hs) (evAW_38 _ _ _ _ _ _ _ _ _ _ hs)) ?_
     exact ⟨_, _, _, _, _, _, _, _, _, putAW_39 .., al _, fun h => absurd (hui.symm.trans (p7 (gt 7 h (by decide))).1) (by decide), fun h => ⟨by rw [gk 8 (by decide)]; exact (p9 (gt 9 h (by decide))).1, by rw [gk 7 (by decide)]; exact (p9 (gt 9 h (by decide))).2⟩, fun _ => rfl, fun _ => rfl, fun _ => ⟨_, rfl, hw4, LocX.new rfl rfl⟩, fun h => by obtain ⟨g, e, h1, h2⟩ := q3 (gt 3 h (by decide)); exact ⟨g, e, h1, h2.al⟩, fun h => q4 (gt 4 h (by decide)), fun h => q5 (gt 5 h (by decide)), fun h => q6 (gt 6 h (by decide)), fun h => absurd (hui.symm.trans (p7 (gt 7 h (by decide))).1) (by decide), fun h => by obtain ⟨g, e, h1, h2, h3⟩ := q8 (gt 8 h (by decide)); exact ⟨g, e, h1, fun h4 => (h2 (by rw [← gk 9 (by decide)]; exact h4)).al, fun h4 => absurd (hui.symm.trans (p7 (p9 (gt 9 h4 (by decide))).2).1) (by decide)⟩⟩
   · skip
     refine wpOp_of rfl rfl ?_
     refine Oper.wp_val (aw_bs23 rfl (fun _ => rfl)) ?_
     exact ⟨_, _, _, _, _, _, _, _, _, putAW_40 .., al _, fun h => absurd (hui.symm.trans (p7 (gt 7 h (by decide))).2.1) (by decide), fun h => ⟨by rw [gk 8 (by decide)]; exact (p9 (gt 9 h (by decide))).1, by rw [gk 7 (by decide)]; exact (p9 (gt 9 h (by decide))).2⟩, fun h => q0 (gt 0 h (by decide)), fun h => q1 (gt 1 h (by decide)), fun h => by obtain ⟨g, e, h1, h2⟩ := q2 (gt 2 h (by decide)); exact ⟨g, e, h1, h2.al⟩, fun _ => ⟨_, rfl, hw4, LocX.new rfl rfl⟩, fun h => q4 (gt 4 h (by decide)), fun h => q5 (gt 5 h (by decide)), fun h => q6 (gt 6 h (by decide)), fun h => absurd (hui.symm.trans (p7 (gt 7 h (by decide))).2.1) (by decide), fun h => by obtain ⟨g, e, h1, h2, h3⟩ := q8 (gt 8 h (by decide)); exact ⟨g, e, h1, fun h4 => (h2 (by rw [← gk 9 (by decide)]; exact h4)).al, fun h4 => absurd (hui.symm.trans (p7 (p9 (gt 9 h4 (by decide))).2).2.1) (by decide)⟩⟩
   · skip
     refine wpOp_of rfl rfl ?_
     refine Oper.wp_val (aw_mk rfl (fun _ => rfl)) ?_
     exact ⟨_, _, _, _, _, _, _, _, _, putAW_41 .., al _, fun h => ⟨by rw [gk 2 (by decide)]; exact (p7 (gt 7 h (by decide))).1, by rw [gk 3 (by decide)]; exact (p7 (gt 7 h (by decide))).2.1, by rw [gk 6 (by decide)]; exact (p7 (gt 7 h (by decide))).2.2⟩, fun h => ⟨by rw [gk 8 (by decide)]; exact (p9 (gt 9 h (by decide))).1, by rw [gk 7 (by decide)]; exact (p9 (gt 9 h (by decide))).2⟩, fun h => q0 (gt 0 h (by decide)), fun h => q1 (gt 1 h (by decide)), fun h => by obtain ⟨g, e, h1, h2⟩ := q2 (gt 2 h (by decide)); exact ⟨g, e, h1, h2.al⟩, fun h => by obtain ⟨g, e, h1, h2⟩ := q3 (gt 3 h (by decide)); exact ⟨g, e, h1, h2.al⟩, fun _ => ⟨_, rfl⟩, fun h => q5 (gt 5 h (by decide)), fun h => q6 (gt 6 h (by decide)), fun h => q7 (gt 7 h (by decide)), fun h => by obtain ⟨g, e, h1, h2, h3⟩ := q8 (gt 8 h (by decide)); exact ⟨g, e, h1, fun h4 => (h2 (by rw [← gk 9 (by decide)]; exact h4)).al, fun h4 => (h3 (by rw [← gk 9 (by decide)]; exact h4)).al⟩⟩
   · skip
     refine wpOp_of rfl rfl ?_
     refine Oper.wp_val (aw_mk rfl (fun _ => rfl)) ?_
     exact ⟨_, _, _, _, _, _, _, _, _, putAW_42 .., al _, fun h => ⟨by rw [gk 2 (by decide)]; exact (p7 (gt 7 h (by decide))).1, by rw [gk 3 (by decide)]; exact (p7 (gt 7 h (by decide))).2.1, by rw [gk 6 (by decide)]; exact (p7 (gt 7 h (by decide))).2.2⟩, fun h => ⟨by rw [gk 8 (by decide)]; exact (p9 (gt 9 h (by decide))).1, by rw [gk 7 (by decide)]; exact (p9 (gt 9 h (by decide))).2⟩, fun h => q0 (gt 0 h (by decide)), fun h => q1 (gt 1 h (by decide)), fun h => by obtain ⟨g, e, h1, h2⟩ := q2 (gt 2 h (by decide)); exact ⟨g, e, h1, h2.al⟩, fun h => by obtain ⟨g, e, h1, h2⟩ := q3 (gt 3 h (by decide)); exact ⟨g, e, h1, h2.al⟩, fun h => q4 (gt 4 h (by decide)), fun _ => ⟨_, rfl⟩, fun h => q6 (gt 6 h (by decide)), fun h => q7 (gt 7 h (by decide)), fun h => by obtain ⟨g, e, h1, h2, h3⟩ := q8 (gt 8 h (by decide)); exact ⟨g, e, h1, fun h4 => (h2 (by rw [← gk 9 (by decide)]; exact h4)).al, fun h4 => (h3 (by rw [← gk 9 (by decide)]; exact h4)).al⟩⟩
   · skip
     have d4 := hd _ rfl ⟨4, .data⟩ (List.mem_toArray.2 (.head _)) rfl
     have d5 := hd _ rfl ⟨5, .data⟩ (List.mem_toArray.2 (.tail _ (.head _))) rfl
     refine wpOp_of rfl rfl ?_
     obtain ⟨A5, rfl⟩ := q4 d4
     obtain ⟨A6, rfl⟩ := q5 d5
     refine Oper.wp_val (aw_bs24 rfl (evAW_41 _ _ _ _ _ _ _ _ _ _ hs) (evAW_42 _ _ _ _ _ _ _ _ _ _ hs)) ?_
     exact ⟨_, _, _, _, _, _, _, _, _, putAW_43 .., al _, fun h => absurd (hui.symm.trans (p7 (gt 7 h (by decide))).2.2) (by decide), fun h => ⟨by rw [gk 8 (by decide)]; exact (p9 (gt 9 h (by decide))).1, by rw [gk 7 (by decide)]; exact (p9 (gt 9 h (by decide))).2⟩, fun h => q0 (gt 0 h (by decide)), fun h => q1 (gt 1 h (by decide)), fun h => by obtain ⟨g, e, h1, h2⟩ := q2 (gt 2 h (by decide)); exact ⟨g, e, h1, h2.al⟩, fun h => by obtain ⟨g, e, h1, h2⟩ := q3 (gt 3 h (by decide)); exact ⟨g, e, h1, h2.al⟩, fun _ => ⟨_, rfl⟩, fun _ => ⟨_, rfl⟩, fun _ => ⟨_, rfl⟩, fun h => absurd (hui.symm.trans (p7 (gt 7 h (by decide))).2.2) (by decide), fun h => by obtain ⟨g, e, h1, h2, h3⟩ := q8 (gt 8 h (by decide)); exact ⟨g, e, h1, fun h4 => (h2 (by rw [← gk 9 (by decide)]; exact h4)).al, fun h4 => absurd (hui.symm.trans (p7 (p9 (gt 9 h4 (by decide))).2).2.2) (by decide)⟩⟩
   · skip
     have d2 := hd _ rfl ⟨2, .data⟩ (List.mem_toArray.2 (.head _)) rfl
     have d3 := hd _ rfl ⟨3, .data⟩ (List.mem_toArray.2 (.tail _ (.head _))) rfl
     have d6 := hd _ rfl ⟨6, .data⟩ (List.mem_toArray.2 (.tail _ (.tail _ (.head _)))) rfl
     refine wpOp_of rfl rfl ?_
     obtain ⟨g3, rfl, h31, h32⟩ := q2 d2
     obtain ⟨g4, rfl, h41, h42⟩ := q3 d3
     obtain ⟨A7, rfl⟩ := q6 d6
     refine Oper.wp_val (aw_build rfl (evAW_39 _ _ _ _ _ _ _ _ _ _ hs) (evAW_40 _ _ _ _ _ _ _ _ _ _ hs) (evAW_43 _ _ _ _ _ _ _ _ _ _ hs)) ?_
     exact ⟨_, _, _, _, _, _, _, _, _, putAW_44 .., hb, fun _ => ⟨by rw [gk 2 (by decide)]; exact d2, by rw [gk 3 (by decide)]; exact d3, by rw [gk 6 (by decide)]; exact d6⟩, fun h => absurd (hui.symm.trans (p9 (gt 9 h (by decide))).2) (by decide), fun h => q0 (gt 0 h (by decide)), fun h => q1 (gt 1 h (by decide)), fun _ => ⟨g3, rfl, h31, h32⟩, fun _ => ⟨g4, rfl, h41, h42⟩, fun h => q4 (gt 4 h (by decide)), fun h => q5 (gt 5 h (by decide)), fun _ => ⟨A7, rfl⟩, fun _ => rfl, fun h => by obtain ⟨g, e, h1, h2, h3⟩ := q8 (gt 8 h (by decide)); exact ⟨g, e, h1, fun h4 => (h2 (by rw [← gk 9 (by decide)]; exact h4)), fun h4 => (h3 (by rw [← gk 9 (by decide)]; exact h4))⟩⟩
   · skip
     refine wpOp_of rfl rfl ?_
     refine Oper.wp_val (aw_alloc rfl) ?_
     exact ⟨_, _, _, _, _, _, _, _, _, putAW_5 .., al _, fun h => ⟨by rw [gk 2 (by decide)]; exact (p7 (gt 7 h (by decide))).1, by rw [gk 3 (by decide)]; exact (p7 (gt 7 h (by decide))).2.1, by rw [gk 6 (by decide)]; exact (p7 (gt 7 h (by decide))).2.2⟩, fun h => absurd (hui.symm.trans (p9 (gt 9 h (by decide))).1) (by decide), fun h => q0 (gt 0 h (by decide)), fun h => q1 (gt 1 h (by decide)), fun h => by obtain ⟨g, e, h1, h2⟩ := q2 (gt 2 h (by decide)); exact ⟨g, e, h1, h2.al⟩, fun h => by obtain ⟨g, e, h1, h2⟩ := q3 (gt 3 h (by decide)); exact ⟨g, e, h1, h2.al⟩, fun h => q4 (gt 4 h (by decide)), fun h => q5 (gt 5 h (by decide)), fun h => q6 (gt 6 h (by decide)), fun h => q7 (gt 7 h (by decide)), fun _ => ⟨_, rfl, hw4, fun _ => LocX.new rfl rfl, fun h4 => absurd (hui.symm.trans (p9 (gt 9 h4 (by decide))).1) (by decide)⟩⟩
   · skip
     have d8 := hd _ rfl ⟨8, .data⟩ (List.mem_toArray.2 (.head _)) rfl
     have d7 := hd _ rfl ⟨7, .data⟩ (List.mem_toArray.2 (.tail _ (.head _))) rfl
     obtain rfl := q7 d7
     obtain ⟨g, rfl, hg1, hg2, hg3⟩ := q8 d8
     have hz := hg2 hui
     obtain ⟨g3, rfl, h31, h32⟩ := q2 (p7 d7).1
     obtain ⟨g4, rfl, h41, h42⟩ := q3 (p7 d7).2.1
     obtain ⟨A7, rfl⟩ := q6 (p7 d7).2.2
     have hn3 : g3 ≠ g := by
      rintro rfl
      have c1 := (h32.2 0 _ rfl).1
      rw [(hz.2 0 _ rfl).1] at c1
      cases c1
     have hn4 : g4 ≠ g := by
      rintro rfl
      have c1 := (h42.2 0 _ rfl).1
      rw [(hz.2 0 _ rfl).1] at c1
      cases c1
     refine wpOp_skipE (C := fun w2 => LocX encV w2 g (valW (.slice (some ⟨g3, 0, none⟩) 2 2) (.slice (some ⟨g4, 0, none⟩) 2 2) (.slice A7 2 2)) ∧ Away g w' w2) rfl rfl ?_ ?_
     · exact aw_store rfl (evAW_5 _ _ _ _ _ _ _ _ _ _ hs) (evAW_44 _ _ _ _ _ _ _ _ _ _ hs) hz
     rintro w2 ⟨hx, hA⟩
     exact ⟨_, _, _, _, _, _, _, _, _, putN _ _, hb.trans (hA.low.mono hg1), fun h => ⟨by rw [gk 2 (by decide)]; exact (p7 (gt 7 h (by decide))).1, by rw [gk 3 (by decide)]; exact (p7 (gt 7 h (by decide))).2.1, by rw [gk 6 (by decide)]; exact (p7 (gt 7 h (by decide))).2.2⟩, fun _ => ⟨by rw [gk 8 (by decide)]; exact d8, by rw [gk 7 (by decide)]; exact d7⟩, fun h => q0 (gt 0 h (by decide)), fun h => q1 (gt 1 h (by decide)), fun _ => ⟨g3, rfl, h31, h32.away hA hn3⟩, fun _ => ⟨g4, rfl, h41, h42.away hA hn4⟩, fun h => q4 (gt 4 h (by decide)), fun h => q5 (gt 5 h (by decide)), fun _ => ⟨A7, rfl⟩, fun _ => rfl, fun _ => ⟨g, rfl, hg1, fun h4 => absurd (gs.symm.trans h4) (by decide), fun _ => hx⟩⟩
 · intro l a w' hall hJ
   obtain ⟨x1, x2, x3, x4, x5, x6, x7, x8, x9, rfl, hb, p7, p9, q0, q1, q2, q3, q4, q5, q6, q7, q8⟩ := hJ
   obtain ⟨g3, rfl, hg3, hx3⟩ := q2 (hall 2 (by decide))
   obtain ⟨g4, rfl, hg4, hx4⟩ := q3 (hall 3 (by decide))
   obtain ⟨A7, rfl⟩ := q6 (hall 6 (by decide))
   obtain ⟨g5, rfl, hg5, _, hx5⟩ := q8 (hall 8 (by decide))
   have hx5 := hx5 (hall 9 (by decide))
   obtain ⟨c0, f0⟩ := hx5.2 0 _ rfl; obtain ⟨c1, f1⟩ := hx5.2 1 _ rfl; obtain ⟨c2, f2⟩ := hx5.2 2 _ rfl; obtain ⟨c3, f3⟩ := hx5.2 3 _ rfl; obtain ⟨c4, f4⟩ := hx5.2 4 _ rfl; obtain ⟨c5, f5⟩ := hx5.2 5 _ rfl; obtain ⟨c6, f6⟩ := hx5.2 6 _ rfl
   have hg5w := hx5.1
   have HW : Hid (WdOk w' (awW g3 g4 A7 (awNd 0 1 true 10 (w.heap.size + 1 + 1) (w.heap.size + 1 + 1 + 1) (w.heap.size + 1 + 1 + 1 + 1) (w.heap.size + 1 + 1 + 1 + 1 + 1) (w.heap.size + 1 + 1 + 1 + 1 + 1 + 1)) (awNd 1 0 false 0 (w.heap.size + 1 + 1 + 1 + 1 + 1 + 1 + 1 + 1) (w.heap.size + 1 + 1 + 1 + 1 + 1 + 1 + 1 + 1 + 1) (w.heap.size + 1 + 1 + 1 + 1 + 1 + 1 + 1 + 1 + 1 + 1) (w.heap.size + 1 + 1 + 1 + 1 + 1 + 1 + 1 + 1 + 1 + 1 + 1) (w.heap.size + 1 + 1 + 1 + 1 + 1 + 1 + 1 + 1 + 1 + 1 + 1 + 1)))) := Lib.hid ⟨⟨⟨rows_two hx3 hx3.1, fun y hy => by
    rcases List.mem_cons.1 hy with rfl | hy
    · exact (HA1.out.below hb).nd
    · rw [List.mem_singleton.1 hy]
      exact (HA2.out.below hb).nd⟩, rows_ups hx4 hx4.1⟩, aw_fit ..⟩
   have kb5 : Below w.heap.size w w' := HKB4.out.trans (hb.mono HKB4.out.size)
   have hg5k : w.heap.size ≤ g5 := by have := HKB4.out.size; omega
   rw [HA0.out]
   clear p7 p9 q0 q1 q2 q3 q4 q5 q6 q7 q8 hall hx3 hx4 hx5 hb hg3 hg4 hg5 e3 e4 hs HN HA0 HA1 HA2 HX3 HX4
   simp only [putAW, Act.put, List.setIfInBounds_toArray, List.set_cons_zero, List.set_cons_succ]
   obtain ⟨w5, h⟩ : ∃ w5, w5 = w' := ⟨_, rfl⟩
   subst h
   have C1 := Lib.hid (fun W (hb : Below w5.heap.size w5 W) => awc_sums _ _ _ _ _ _ _ _ _ _ _ _ _ W (HW.out.below hb))
   have C2 := Lib.hid (fun W (hb : Below w5.heap.size w5 W) => awc_sq _ _ _ _ _ _ _ _ _ _ _ _ _ W (HW.out.below hb))
   have C3 := Lib.hid (fun W (hb : Below w5.heap.size w5 W) => awc_held _ _ _ _ _ _ _ _ _ _ _ _ _ W (HW.out.below hb))
   have C4 := Lib.hid (fun W (hb : Below w5.heap.size w5 W) => awc_agr _ _ _ _ _ _ _ _ _ _ _ _ _ W (HW.out.below hb))
   have C5 := Lib.hid (fun W (hb : Below w5.heap.size w5 W) => awc_edges _ _ _ _ _ _ _ _ _ _ _ _ _ W (HW.out.below hb))
   have C6 := Lib.hid (fun W (hb : Below w5.heap.size w5 W) => awc_open _ _ _ _ _ _ _ _ _ _ _ _ _ W (HW.out.below hb))
   have C7 := Lib.hid (fun W (hb : Below w5.heap.size w5 W) => awc_cl1 _ _ _ _ _ _ _ _ _ _ _ _ _ W (HW.out.below hb))
   have C8 := Lib.hid (fun W (hb : Below w5.heap.size w5 W) => awc_cl2 _ _ _ _ _ _ _ _ _ _ _ _ _ W (HW.out.below hb))
   have C9 := Lib.hid (fun W (hb : Below w5.heap.size w5 W) => awc_groups _ _ _ _ _ _ _ _ _ _ _ _ _ W (HW.out.below hb))
   have CA := Lib.hid (fun W (hb : Below w5.heap.size w5 W) => awc_seats _ _ _ _ _ _ _ _ _ _ _ _ _ W (HW.out.below hb))
   have CB := Lib.hid (fun W (hb : Below w5.heap.size w5 W) => awc_every _ _ _ _ _ _ _ _ _ _ _ _ _ W (HW.out.below hb))
   have HK5 := Lib.hid kb5
   clear kb5 HW f0 f1 f2 f3 f4 f5 f6
   go_wp2_with (fail)
   refine (C1.out _ Qb _ _ rows_lit2).mono ?_; rintro e w6 ⟨rfl, hb6⟩
   have hk6 : KeptC w5 [(⟨g5, 0, none⟩, .slice (some ⟨g3, 0, none⟩) 2 2), (⟨g5, 1, none⟩, .slice (some ⟨g4, 0, none⟩) 2 2), (⟨g5, 2, none⟩, .slice A7 2 2), (⟨g5, 3, none⟩, .int .i64 0), (⟨g5, 4, none⟩, .slice none 0 0), (⟨g5, 5, none⟩, .slice none 0 0), (⟨g5, 6, none⟩, .int .i64 0)] [] w6 := by
    refine KeptC.below ?_ hb6
    exact Qk
   simp only [KeptC, List.forall_mem_cons] at hk6; obtain ⟨kb6, ⟨kc6_0, kc6_1, kc6_2, kc6_3, kc6_4, kc6_5, kc6_6, _⟩, _⟩ := hk6
   have hg6 : g5 < w6.heap.size := cell_lt kc6_0
   clear hb6 C1 c0 c1 c2 c3 c4 c5 c6
   go_wp2_with (fail)
   refine (C2.out _ (Qb1 kb6)).mono ?_; rintro e w7 ⟨rfl, hb7⟩
   have hk7 : KeptC w5 [(⟨g5, 0, none⟩, .slice (some ⟨g3, 0, none⟩) 2 2), (⟨g5, 1, none⟩, .slice (some ⟨g4, 0, none⟩) 2 2), (⟨g5, 2, none⟩, .slice A7 2 2), (⟨g5, 3, none⟩, .int .i64 0), (⟨g5, 4, none⟩, .slice none 0 0), (⟨g5, 5, none⟩, .slice none 0 0), (⟨g5, 6, none⟩, .int .i64 0)] [] w7 := by
    refine KeptC.below ?_ hb7
    exact Qk1 kb6
   simp only [KeptC, List.forall_mem_cons] at hk7; obtain ⟨kb7, ⟨kc7_0, kc7_1, kc7_2, kc7_3, kc7_4, kc7_5, kc7_6, _⟩, _⟩ := hk7
   have hg7 : g5 < w7.heap.size := cell_lt kc7_0
   clear hb7 kb6 hg6 kc6_0 kc6_1 kc6_2 kc6_3 kc6_4 kc6_5 kc6_6 C2
   have hs7 := kb7.size
   go_upto_region 8 with (fail)
   refine lay1 (fun W => KeptC w5 [(⟨g5, 0, none⟩, .slice (some ⟨g3, 0, none⟩) 2 2), (⟨g5, 1, none⟩, .slice (some ⟨g4, 0, none⟩) 2 2), (⟨g5, 2, none⟩, .slice A7 2 2), (⟨g5, 3, none⟩, .int .i64 0), (⟨g5, 4, none⟩, .slice none 0 0), (⟨g5, 5, none⟩, .slice none 0 0), (⟨g5, 6, none⟩, .int .i64 0), (⟨w7.heap.size, 0, none⟩, .int .u64 0), (⟨w7.heap.size, 1, none⟩, .int .u64 50)] [] W ∧ w7.heap.size < W.heap.size) ⟨(Qk1 kb7), by simp⟩ ?_
   rintro w8 ⟨hK8, hz8⟩
   simp only [KeptC, List.forall_mem_cons] at hK8; obtain ⟨kb8, ⟨kc8_0, kc8_1, kc8_2, kc8_3, kc8_4, kc8_5, kc8_6, kc8_7, kc8_8, _⟩, _⟩ := hK8
   have hg8 : g5 < w8.heap.size := cell_lt kc8_0
   clear kb7 hg7 kc7_0 kc7_1 kc7_2 kc7_3 kc7_4 kc7_5 kc7_6
   have hs8 := kb8.size
   go_wp2_with (fail)
   refine (C3.out _ (Qb1 kb8)).mono ?_; rintro e w9 ⟨rfl, hb9⟩
   have hk9 : KeptC w5 [(⟨g5, 0, none⟩, .slice (some ⟨g3, 0, none⟩) 2 2), (⟨g5, 1, none⟩, .slice (some ⟨g4, 0, none⟩) 2 2), (⟨g5, 2, none⟩, .slice A7 2 2), (⟨g5, 3, none⟩, .int .i64 0), (⟨g5, 4, none⟩, .slice none 0 0), (⟨g5, 5, none⟩, .slice none 0 0), (⟨g5, 6, none⟩, .int .i64 0), (⟨w7.heap.size, 0, none⟩, .int .u64 0), (⟨w7.heap.size, 1, none⟩, .int .u64 50)] [] w9 := by
    refine KeptC.below ?_ hb9
    exact Qk1 kb8
   simp only [KeptC, List.forall_mem_cons] at hk9; obtain ⟨kb9, ⟨kc9_0, kc9_1, kc9_2, kc9_3, kc9_4, kc9_5, kc9_6, kc9_7, kc9_8, _⟩, _⟩ := hk9
   have hg9 : g5 < w9.heap.size := cell_lt kc9_0
   have hq9 : w7.heap.size < w9.heap.size := cell_lt kc9_7
   clear hb9 kb8 hs8 hg8 kc8_0 kc8_1 kc8_2 kc8_3 kc8_4 kc8_5 kc8_6 kc8_7 kc8_8 C3
   have hs9 := kb9.size
   go_wp2_with (fail)
   refine (C4.out _ (Qb1 kb9)).mono ?_; rintro e wA ⟨rfl, hbA⟩
   have hkA : KeptC w5 [(⟨g5, 0, none⟩, .slice (some ⟨g3, 0, none⟩) 2 2), (⟨g5, 1, none⟩, .slice (some ⟨g4, 0, none⟩) 2 2), (⟨g5, 2, none⟩, .slice A7 2 2), (⟨g5, 3, none⟩, .int .i64 0), (⟨g5, 4, none⟩, .slice none 0 0), (⟨g5, 5, none⟩, .slice none 0 0), (⟨g5, 6, none⟩, .int .i64 0), (⟨w7.heap.size, 0, none⟩, .int .u64 0), (⟨w7.heap.size, 1, none⟩, .int .u64 50)] [] wA := by
    refine KeptC.below ?_ hbA
    exact Qk1 kb9
   simp only [KeptC, List.forall_mem_cons] at hkA; obtain ⟨kbA, ⟨kcA_0, kcA_1, kcA_2, kcA_3, kcA_4, kcA_5, kcA_6, kcA_7, kcA_8, _⟩, _⟩ := hkA
   have hgA : g5 < wA.heap.size := cell_lt kcA_0
   have hqA : w7.heap.size < wA.heap.size := cell_lt kcA_7
   clear hbA kb9 hs9 hg9 kc9_0 kc9_1 kc9_2 kc9_3 kc9_4 kc9_5 kc9_6 kc9_7 kc9_8 C4
   have hsA := kbA.size
   go_wp2_with (fail)
   refine (C5.out _ (Qb1 kbA)).mono ?_; rintro e wB ⟨⟨A1, p1, rfl⟩, hbB⟩
   have hkB : KeptC w5 [(⟨g5, 0, none⟩, .slice (some ⟨g3, 0, none⟩) 2 2), (⟨g5, 1, none⟩, .slice (some ⟨g4, 0, none⟩) 2 2), (⟨g5, 2, none⟩, .slice A7 2 2), (⟨g5, 3, none⟩, .int .i64 0), (⟨g5, 4, none⟩, .slice none 0 0), (⟨g5, 5, none⟩, .slice none 0 0), (⟨g5, 6, none⟩, .int .i64 0), (⟨w7.heap.size, 0, none⟩, .int .u64 0), (⟨w7.heap.size, 1, none⟩, .int .u64 50)] [] wB := by
    refine KeptC.below ?_ hbB
    exact Qk1 kbA
   simp only [KeptC, List.forall_mem_cons] at hkB; obtain ⟨kbB, ⟨kcB_0, kcB_1, kcB_2, kcB_3, kcB_4, kcB_5, kcB_6, kcB_7, kcB_8, _⟩, _⟩ := hkB
   have hgB : g5 < wB.heap.size := cell_lt kcB_0
   have hqB : w7.heap.size < wB.heap.size := cell_lt kcB_7
   clear hbB kbA hsA hgA kcA_0 kcA_1 kcA_2 kcA_3 kcA_4 kcA_5 kcA_6 kcA_7 kcA_8 C5
   have hsB := kbB.size
   go_wp2_with (fail)
   refine (C6.out _ (Qb1 kbB)).mono ?_; rintro e wC ⟨⟨A2, p2, rfl⟩, hbC⟩
   have hkC : KeptC w5 [(⟨g5, 0, none⟩, .slice (some ⟨g3, 0, none⟩) 2 2), (⟨g5, 1, none⟩, .slice (some ⟨g4, 0, none⟩) 2 2), (⟨g5, 2, none⟩, .slice A7 2 2), (⟨g5, 3, none⟩, .int .i64 0), (⟨g5, 4, none⟩, .slice none 0 0), (⟨g5, 5, none⟩, .slice none 0 0), (⟨g5, 6, none⟩, .int .i64 0), (⟨w7.heap.size, 0, none⟩, .int .u64 0), (⟨w7.heap.size, 1, none⟩, .int .u64 50)] [] wC := by
    refine KeptC.below ?_ hbC
    exact Qk1 kbB
   simp only [KeptC, List.forall_mem_cons] at hkC; obtain ⟨kbC, ⟨kcC_0, kcC_1, kcC_2, kcC_3, kcC_4, kcC_5, kcC_6, kcC_7, kcC_8, _⟩, _⟩ := hkC
   have hgC : g5 < wC.heap.size := cell_lt kcC_0
   have hqC : w7.heap.size < wC.heap.size := cell_lt kcC_7
   clear hbC kbB hsB hgB kcB_0 kcB_1 kcB_2 kcB_3 kcB_4 kcB_5 kcB_6 kcB_7 kcB_8 C6
   have hsC := kbC.size
   go_wp2_with (fail)
   refine (C7.out _ (Qb1 kbC) _ _ (Nat.le_refl _) rows_lit2).mono ?_; rintro e wD ⟨rfl, hbD⟩
   have hkD : KeptC w5 [(⟨g5, 0, none⟩, .slice (some ⟨g3, 0, none⟩) 2 2), (⟨g5, 1, none⟩, .slice (some ⟨g4, 0, none⟩) 2 2), (⟨g5, 2, none⟩, .slice A7 2 2), (⟨g5, 3, none⟩, .int .i64 0), (⟨g5, 4, none⟩, .slice none 0 0), (⟨g5, 5, none⟩, .slice none 0 0), (⟨g5, 6, none⟩, .int .i64 0), (⟨w7.heap.size, 0, none⟩, .int .u64 0), (⟨w7.heap.size, 1, none⟩, .int .u64 50)] [] wD := by
    refine KeptC.below ?_ hbD
    exact Qk1 kbC
   simp only [KeptC, List.forall_mem_cons] at hkD; obtain ⟨kbD, ⟨kcD_0, kcD_1, kcD_2, kcD_3, kcD_4, kcD_5, kcD_6, kcD_7, kcD_8, _⟩, _⟩ := hkD
   have hgD : g5 < wD.heap.size := cell_lt kcD_0
   have hqD : w7.heap.size < wD.heap.size := cell_lt kcD_7
   clear hbD kbC hsC hgC kcC_0 kcC_1 kcC_2 kcC_3 kcC_4 kcC_5 kcC_6 kcC_7 kcC_8 C7
   have hsD := kbD.size
   go_wp2_with (fail)
   refine (C8.out _ (Qb1 kbD) _ _ (Nat.le_refl _) rows_lit1).mono ?_; rintro e wE ⟨rfl, hbE⟩
   have hkE : KeptC w5 [(⟨g5, 0, none⟩, .slice (some ⟨g3, 0, none⟩) 2 2), (⟨g5, 1, none⟩, .slice (some ⟨g4, 0, none⟩) 2 2), (⟨g5, 2, none⟩, .slice A7 2 2), (⟨g5, 3, none⟩, .int .i64 0), (⟨g5, 4, none⟩, .slice none 0 0), (⟨g5, 5, none⟩, .slice none 0 0), (⟨g5, 6, none⟩, .int .i64 0), (⟨w7.heap.size, 0, none⟩, .int .u64 0), (⟨w7.heap.size, 1, none⟩, .int .u64 50)] [] wE := by
    refine KeptC.below ?_ hbE
    exact Qk1 kbD
   simp only [KeptC, List.forall_mem_cons] at hkE; obtain ⟨kbE, ⟨kcE_0, kcE_1, kcE_2, kcE_3, kcE_4, kcE_5, kcE_6, kcE_7, kcE_8, _⟩, _⟩ := hkE
   have hgE : g5 < wE.heap.size := cell_lt kcE_0
   have hqE : w7.heap.size < wE.heap.size := cell_lt kcE_7
   clear hbE kbD hsD hgD kcD_0 kcD_1 kcD_2 kcD_3 kcD_4 kcD_5 kcD_6 kcD_7 kcD_8 C8
   have hsE := kbE.size
   go_wp2_with (fail)
   refine (C9.out _ (Qb1 kbE)).mono ?_; rintro e wF ⟨⟨A3, p3, rfl⟩, hbF⟩
   have hkF : KeptC w5 [(⟨g5, 0, none⟩, .slice (some ⟨g3, 0, none⟩) 2 2), (⟨g5, 1, none⟩, .slice (some ⟨g4, 0, none⟩) 2 2), (⟨g5, 2, none⟩, .slice A7 2 2), (⟨g5, 3, none⟩, .int .i64 0), (⟨g5, 4, none⟩, .slice none 0 0), (⟨g5, 5, none⟩, .slice none 0 0), (⟨g5, 6, none⟩, .int .i64 0), (⟨w7.heap.size, 0, none⟩, .int .u64 0), (⟨w7.heap.size, 1, none⟩, .int .u64 50)] [] wF := by
    refine KeptC.below ?_ hbF
    exact Qk1 kbE
   simp only [KeptC, List.forall_mem_cons] at hkF; obtain ⟨kbF, ⟨kcF_0, kcF_1, kcF_2, kcF_3, kcF_4, kcF_5, kcF_6, kcF_7, kcF_8, _⟩, _⟩ := hkF
   have hgF : g5 < wF.heap.size := cell_lt kcF_0
   have hqF : w7.heap.size < wF.heap.size := cell_lt kcF_7
   clear hbF kbE hsE hgE kcE_0 kcE_1 kcE_2 kcE_3 kcE_4 kcE_5 kcE_6 kcE_7 kcE_8 C9
   have hsF := kbF.size
   go_wp2_with (fail)
   refine (CA.out _ (Qb1 kbF)).mono ?_; rintro e wG ⟨⟨A4, p4, rfl⟩, hbG⟩
   have hkG : KeptC w5 [(⟨g5, 0, none⟩, .slice (some ⟨g3, 0, none⟩) 2 2), (⟨g5, 1, none⟩, .slice (some ⟨g4, 0, none⟩) 2 2), (⟨g5, 2, none⟩, .slice A7 2 2), (⟨g5, 3, none⟩, .int .i64 0), (⟨g5, 4, none⟩, .slice none 0 0), (⟨g5, 5, none⟩, .slice none 0 0), (⟨g5, 6, none⟩, .int .i64 0), (⟨w7.heap.size, 0, none⟩, .int .u64 0), (⟨w7.heap.size, 1, none⟩, .int .u64 50)] [] wG := by
    refine KeptC.below ?_ hbG
    exact Qk1 kbF
   simp only [KeptC, List.forall_mem_cons] at hkG; obtain ⟨kbG, ⟨kcG_0, kcG_1, kcG_2, kcG_3, kcG_4, kcG_5, kcG_6, kcG_7, kcG_8, _⟩, _⟩ := hkG
   have hgG : g5 < wG.heap.size := cell_lt kcG_0
   have hqG : w7.heap.size < wG.heap.size := cell_lt kcG_7
   clear hbG kbF hsF hgF kcF_0 kcF_1 kcF_2 kcF_3 kcF_4 kcF_5 kcF_6 kcF_7 kcF_8 CA
   have hsG := kbG.size
   go_wp2_with (fail)
   refine (CB.out _ (Qb1 kbG)).mono ?_; rintro e wH ⟨rfl, hbH⟩
   have hkH : KeptC w5 [(⟨g5, 0, none⟩, .slice (some ⟨g3, 0, none⟩) 2 2), (⟨g5, 1, none⟩, .slice (some ⟨g4, 0, none⟩) 2 2), (⟨g5, 2, none⟩, .slice A7 2 2), (⟨g5, 3, none⟩, .int .i64 0), (⟨g5, 4, none⟩, .slice none 0 0), (⟨g5, 5, none⟩, .slice none 0 0), (⟨g5, 6, none⟩, .int .i64 0), (⟨w7.heap.size, 0, none⟩, .int .u64 0), (⟨w7.heap.size, 1, none⟩, .int .u64 50)] [] wH := by
    refine KeptC.below ?_ hbH
    exact Qk1 kbG
   simp only [KeptC, List.forall_mem_cons] at hkH; obtain ⟨kbH, ⟨kcH_0, kcH_1, kcH_2, kcH_3, kcH_4, kcH_5, kcH_6, kcH_7, kcH_8, _⟩, _⟩ := hkH
   have hgH : g5 < wH.heap.size := cell_lt kcH_0
   have hqH : w7.heap.size < wH.heap.size := cell_lt kcH_7
   clear hbH kbG hsG hgG kcG_0 kcG_1 kcG_2 kcG_3 kcG_4 kcG_5 kcG_6 kcG_7 kcG_8 CB
   have hsH := kbH.size
   go_wp2
   go_ret
   exact ⟨rfl, HK5.out.trans (kbH.mono HK5.out.size)⟩
end Go.Proofs.YtkfodkbgmpbmfaaGreat
