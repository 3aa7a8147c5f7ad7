/- Chapter 22, parts on the way: Wt -/
import Derived.Test.YtkfodkbgmpbmfaaGreatB01
import Derived.Test.YtkfodkbgmpbmfaaGreatB28
set_option linter.unusedVariables false
set_option linter.unusedSimpArgs false
namespace Go.Proofs.YtkfodkbgmpbmfaaGreat
open Go.RowKit Go.Shelf
set_option linter.unusedVariables false
set_option linter.unusedSimpArgs false
set_option maxRecDepth 100000
def it19 (w : World) (p : Addr) (x : It) : Prop := w.cell? p = some (.string x.nm) ∧ w.cell? ⟨p.block, p.off + 1, none⟩ = some (.int .i64 x.ep) ∧ w.cell? ⟨p.block, p.off + 2, none⟩ = some (.int .i64 x.who) ∧ w.cell? ⟨p.block, p.off + 3, none⟩ = some (.bool x.al) ∧ w.cell? ⟨p.block, p.off + 4, none⟩ = some (.int .i64 x.kd) ∧ w.cell? ⟨p.block, p.off + 5, none⟩ = some (.int .i64 x.sc) ∧ w.cell? ⟨p.block, p.off + 6, none⟩ = some (.int .i64 x.ver) ∧ w.cell? ⟨p.block, p.off + 7, none⟩ = some (.int .i64 x.wr) ∧ w.cell? ⟨p.block, p.off + 8, none⟩ = some (.int .i64 x.flow) ∧ w.cell? ⟨p.block, p.off + 9, none⟩ = some (.bool x.hr) ∧ w.cell? ⟨p.block, p.off + 10, none⟩ = some (.int .i64 x.rest) ∧ w.cell? ⟨p.block, p.off + 11, none⟩ = some (.bool x.h1) ∧ w.cell? ⟨p.block, p.off + 12, none⟩ = some (.int .i64 x.v1) ∧ w.cell? ⟨p.block, p.off + 13, none⟩ = some (.int .i64 x.o1) ∧ w.cell? ⟨p.block, p.off + 14, none⟩ = some (.int .i64 x.a1) ∧ w.cell? ⟨p.block, p.off + 15, none⟩ = some (.bool x.h2) ∧ w.cell? ⟨p.block, p.off + 16, none⟩ = some (.int .i64 x.v2) ∧ w.cell? ⟨p.block, p.off + 17, none⟩ = some (.int .i64 x.o2) ∧ w.cell? ⟨p.block, p.off + 18, none⟩ = some (.int .i64 x.a2)
theorem it19_of {w : World} {p : Addr} {x : It} (h : CellsE encIt w p x) : it19 w p x := by
 have h0 := h 0 _ rfl
 have hs : ∀ i u, (encIt x)[i + 1]? = some u → w.cell? ⟨p.block, p.off + (i + 1), none⟩ = some u := fun i u hu => by rw [← add_next]; exact h (i + 1) u hu
 exact ⟨h0, hs 0 _ rfl, hs 1 _ rfl, hs 2 _ rfl, hs 3 _ rfl, hs 4 _ rfl, hs 5 _ rfl, hs 6 _ rfl, hs 7 _ rfl, hs 8 _ rfl, hs 9 _ rfl, hs 10 _ rfl, hs 11 _ rfl, hs 12 _ rfl, hs 13 _ rfl, hs 14 _ rfl, hs 15 _ rfl, hs 16 _ rfl, hs 17 _ rfl⟩
theorem it19.below {w w' : World} {B : Nat} {p : Addr} {x : It} (h : it19 w p x) (hp : p.block < B) (hb : Below B w w') : it19 w' p x := by
 obtain ⟨h0, h1, h2, h3, h4, h5, h6, h7, h8, h9, h10, h11, h12, h13, h14, h15, h16, h17, h18⟩ := h
 exact ⟨(hb.cell hp).trans h0, (hb.cell (p := ⟨_, _, none⟩) hp).trans h1, (hb.cell (p := ⟨_, _, none⟩) hp).trans h2, (hb.cell (p := ⟨_, _, none⟩) hp).trans h3, (hb.cell (p := ⟨_, _, none⟩) hp).trans h4, (hb.cell (p := ⟨_, _, none⟩) hp).trans h5, (hb.cell (p := ⟨_, _, none⟩) hp).trans h6, (hb.cell (p := ⟨_, _, none⟩) hp).trans h7, (hb.cell (p := ⟨_, _, none⟩) hp).trans h8, (hb.cell (p := ⟨_, _, none⟩) hp).trans h9, (hb.cell (p := ⟨_, _, none⟩) hp).trans h10, (hb.cell (p := ⟨_, _, none⟩) hp).trans h11, (hb.cell (p := ⟨_, _, none⟩) hp).trans h12, (hb.cell (p := ⟨_, _, none⟩) hp).trans h13, (hb.cell (p := ⟨_, _, none⟩) hp).trans h14, (hb.cell (p := ⟨_, _, none⟩) hp).trans h15, (hb.cell (p := ⟨_, _, none⟩) hp).trans h16, (hb.cell (p := ⟨_, _, none⟩) hp).trans h17, (hb.cell (p := ⟨_, _, none⟩) hp).trans h18⟩
theorem load_it {w W' : World} {p : Addr} {x : It} (h : CellsE encIt w p x) (hp : p.block < w.heap.size) (hb : Below w.heap.size w W') : (Instr.loadAt 183 (.pointer (some p))).run Tryz.prog W' = .ok (ItV x) W' := by
 have hl : (loadCells p 19).run Tryz.prog W' = .ok (encIt x).toArray W' :=
  run_loadCells_list (P := Tryz.prog) W' p (encIt x) (fun j v hv => (hb.cell (by rw [block_of_add]; exact hp)).trans (h j v hv))
 have hi : (Tryz.prog.info? 183).map (·.size) = some 19 := by kernel_rfl
 have hagg : (isAgg 183).run Tryz.prog W' = .ok true W' := by
  unfold isAgg
  rw [Sem.run_bind, run_underlying Tryz.underlying183 W']
  rfl
 simp only [Instr.loadAt, Instr.sureAddr, Sem.run_bind, Sem.run_pure, Result.andThen_ok]
 cases hq : Tryz.prog.info? 183 with
 | none => simp [hq] at hi
 | some i =>
  have hs : i.size = 19 := by simpa [hq] using hi
  simp [loadVar, Sem.run_bind, hagg, sizeOf, typeInfo, hq, hs, hl]
  rfl
theorem exec_load {P : Program} {ev : Operand → Value} {o : Oper} {ty : TypeId} {x : Operand} {p : Addr} {v : Value} {w : World} (ho : o.op = .load ty x) (hx : ev x = .pointer (some p)) (h : (Instr.loadAt ty (.pointer (some p))).run P w = .ok v w) : (execOp ev o).run P w = .ok (.value v) w := by
 unfold execOp
 simp only [ho, hx, Sem.run_bind, Sem.run_pure, Result.andThen_ok, h]
structure Pk where
 kd : Int
 frm : Int
 dst : Int
 boot : Int
 life : Int
 echo : Int
 elife : Int
 ia : Option Addr
 il : Nat
 ic : Nat
@[reducible] def PkV (x : Pk) : Value := .agg #[.int .i64 x.kd, .int .i64 x.frm, .int .i64 x.dst, .int .i64 x.boot, .int .i64 x.life, .int .i64 x.echo, .int .i64 x.elife, .slice x.ia x.il x.ic]
def encPk (x : Pk) : List Value := [.int .i64 x.kd, .int .i64 x.frm, .int .i64 x.dst, .int .i64 x.boot, .int .i64 x.life, .int .i64 x.echo, .int .i64 x.elife, .slice x.ia x.il x.ic]
theorem encPk_len (x : Pk) : (encPk x).length = 8 := rfl
set_option maxHeartbeats 8000000 in
theorem wfit_hello (x : Pk) (its : List It) (w : World) (hr : RowsE encIt 19 w w.heap.size x.ia x.il its) (hk : x.kd = 1) : Calls Tryz.prog 120 #[PkV x] w (FitPost True w) := by
 have HR := Lib.hid hr
 clear hr
 obtain ⟨kd, frm, dst, boot, life, echo, elife, ia, il, ic⟩ := x
 simp only [] at hk HR ⊢
 have c1 : ∀ w : World, _ := fun w => wnode_any frm w
 have c2 : ∀ w : World, _ := fun w => wnode_any dst w
 have c3 : ∀ w : World, _ := fun w => within_any boot 1 1099511627776 w
 have c4 : ∀ w : World, _ := fun w => within_any life 0 1099511627776 w
 have c5 : ∀ w : World, _ := fun w => within_any echo 1 1099511627776 w
 have c6 : ∀ w : World, _ := fun w => within_any elife 0 1099511627776 w
 generalize (decide (0 ≤ frm) && decide (frm < 16)) = b1 at c1
 generalize (decide (0 ≤ dst) && decide (dst < 16)) = b2 at c2
 generalize withB boot 1 1099511627776 = b3 at c3
 generalize withB life 0 1099511627776 = b4 at c4
 generalize withB echo 1 1099511627776 = b5 at c5
 generalize withB elife 0 1099511627776 = b6 at c6
 have C1 := Lib.hid c1; have C2 := Lib.hid c2; have C3 := Lib.hid c3; have C4 := Lib.hid c4; have C5 := Lib.hid c5; have C6 := Lib.hid c6
 clear c1 c2 c3 c4 c5 c6
 obtain ⟨k3, hk3⟩ : ∃ k, (frm == dst) = k := ⟨_, rfl⟩
 subst hk
 obtain ⟨k5, hk5⟩ : ∃ k, (echo != 0) = k := ⟨_, rfl⟩
 obtain ⟨k6, hk6⟩ : ∃ k, (elife != 0) = k := ⟨_, rfl⟩
 go_enter Tryz.func120, Tryz.ntmps120
 go_wp2_with (fail)
 refine (C1.out _).mono ?_; rintro e w1 ⟨rfl, rfl⟩
 cases b1 with
 | false =>
  go_wp2
  go_ret
  exact ⟨_, rfl, fun _ => trivial, Qb⟩
 | true =>
  go_wp2_with (fail)
  refine (C2.out _).mono ?_; rintro e w2 ⟨rfl, rfl⟩
  cases b2 with
  | false =>
   go_wp2
   go_ret
   exact ⟨_, rfl, fun _ => trivial, Qb⟩
  | true =>
   cases k3 with
   | false =>
    go_wp2_with (fail)
    refine (C3.out _).mono ?_; rintro e w3 ⟨rfl, rfl⟩
    cases b3 with
    | false =>
     go_wp2
     go_ret
     exact ⟨_, rfl, fun _ => trivial, Qb⟩
    | true =>
     go_wp2_with (fail)
     refine (C4.out _).mono ?_; rintro e w4 ⟨rfl, rfl⟩
     cases b4 with
     | false =>
      go_wp2
      go_ret
      exact ⟨_, rfl, fun _ => trivial, Qb⟩
     | true =>
      cases k5 with
      | false =>
       cases k6 with
       | false =>
        go_wp2
        go_ret
        exact ⟨_, rfl, fun _ => trivial, Qb⟩
       | true =>
        go_wp2
        go_ret
        exact ⟨_, rfl, fun _ => trivial, Qb⟩
      | true =>
       go_wp2
       go_ret
       exact ⟨_, rfl, fun _ => trivial, Qb⟩
   | true =>
    go_wp2
    go_ret
    exact ⟨_, rfl, fun _ => trivial, Qb⟩
set_option maxHeartbeats 8000000 in
theorem wfit_other (x : Pk) (its : List It) (w : World) (hr : RowsE encIt 19 w w.heap.size x.ia x.il its) (hk : x.kd ≠ 1 ∧ x.kd ≠ 3 ∧ x.kd ≠ 4) : Calls Tryz.prog 120 #[PkV x] w (FitPost True w) := by
 have HR := Lib.hid hr
 clear hr
 obtain ⟨kd, frm, dst, boot, life, echo, elife, ia, il, ic⟩ := x
 simp only [] at hk HR ⊢
 have c1 : ∀ w : World, _ := fun w => wnode_any frm w
 have c2 : ∀ w : World, _ := fun w => wnode_any dst w
 have c3 : ∀ w : World, _ := fun w => within_any boot 1 1099511627776 w
 have c4 : ∀ w : World, _ := fun w => within_any life 0 1099511627776 w
 have c5 : ∀ w : World, _ := fun w => within_any echo 1 1099511627776 w
 have c6 : ∀ w : World, _ := fun w => within_any elife 0 1099511627776 w
 generalize (decide (0 ≤ frm) && decide (frm < 16)) = b1 at c1
 generalize (decide (0 ≤ dst) && decide (dst < 16)) = b2 at c2
 generalize withB boot 1 1099511627776 = b3 at c3
 generalize withB life 0 1099511627776 = b4 at c4
 generalize withB echo 1 1099511627776 = b5 at c5
 generalize withB elife 0 1099511627776 = b6 at c6
 have C1 := Lib.hid c1; have C2 := Lib.hid c2; have C3 := Lib.hid c3; have C4 := Lib.hid c4; have C5 := Lib.hid c5; have C6 := Lib.hid c6
 clear c1 c2 c3 c4 c5 c6
 obtain ⟨k3, hk3⟩ : ∃ k, (frm == dst) = k := ⟨_, rfl⟩
 have q1 : (kd == 1) = false := by simpa using hk.1
 have q3 : (kd != 3) = true := by simpa using hk.2.1
 have q4 : (kd != 4) = true := by simpa using hk.2.2
 obtain ⟨k1, hk1⟩ : ∃ k, decide (kd < 1) = k := ⟨_, rfl⟩
 obtain ⟨k2, hk2⟩ : ∃ k, decide (5 < kd) = k := ⟨_, rfl⟩
 clear hk
 go_enter Tryz.func120, Tryz.ntmps120
 cases k1 with
 | false =>
  cases k2 with
  | false =>
   go_wp2_with (fail)
   refine (C1.out _).mono ?_; rintro e w1 ⟨rfl, rfl⟩
   cases b1 with
   | false =>
    go_wp2
    go_ret
    exact ⟨_, rfl, fun _ => trivial, Qb⟩
   | true =>
    go_wp2_with (fail)
    refine (C2.out _).mono ?_; rintro e w2 ⟨rfl, rfl⟩
    cases b2 with
    | false =>
     go_wp2
     go_ret
     exact ⟨_, rfl, fun _ => trivial, Qb⟩
    | true =>
     cases k3 with
     | false =>
      go_wp2_with (fail)
      refine (C3.out _).mono ?_; rintro e w3 ⟨rfl, rfl⟩
      cases b3 with
      | false =>
       go_wp2
       go_ret
       exact ⟨_, rfl, fun _ => trivial, Qb⟩
      | true =>
       go_wp2_with (fail)
       refine (C4.out _).mono ?_; rintro e w4 ⟨rfl, rfl⟩
       cases b4 with
       | false =>
        go_wp2
        go_ret
        exact ⟨_, rfl, fun _ => trivial, Qb⟩
       | true =>
        go_wp2_with (fail)
        refine (C5.out _).mono ?_; rintro e w5 ⟨rfl, rfl⟩
        cases b5 with
        | false =>
         go_wp2
         go_ret
         exact ⟨_, rfl, fun _ => trivial, Qb⟩
        | true =>
         go_wp2_with (fail)
         refine (C6.out _).mono ?_; rintro e w6 ⟨rfl, rfl⟩
         cases b6 with
         | false =>
          go_wp2
          go_ret
          exact ⟨_, rfl, fun _ => trivial, Qb⟩
         | true =>
          go_wp2
          go_ret
          exact ⟨_, rfl, fun _ => trivial, Qb⟩
     | true =>
      go_wp2
      go_ret
      exact ⟨_, rfl, fun _ => trivial, Qb⟩
  | true =>
   go_wp2
   go_ret
   exact ⟨_, rfl, fun _ => trivial, Qb⟩
 | true =>
  go_wp2
  go_ret
  exact ⟨_, rfl, fun _ => trivial, Qb⟩
set_option maxHeartbeats 8000000 in
theorem wfit_list3 (x : Pk) (its : List It) (w : World) (hr : RowsE encIt 19 w w.heap.size x.ia x.il its) (hk : x.kd = 3) : Calls Tryz.prog 120 #[PkV x] w (FitPost True w) := by
 have HR := Lib.hid hr
 clear hr
 obtain ⟨kd, frm, dst, boot, life, echo, elife, ia, il, ic⟩ := x
 simp only [] at hk HR ⊢
 have c1 : ∀ w : World, _ := fun w => wnode_any frm w
 have c2 : ∀ w : World, _ := fun w => wnode_any dst w
 have c3 : ∀ w : World, _ := fun w => within_any boot 1 1099511627776 w
 have c4 : ∀ w : World, _ := fun w => within_any life 0 1099511627776 w
 have c5 : ∀ w : World, _ := fun w => within_any echo 1 1099511627776 w
 have c6 : ∀ w : World, _ := fun w => within_any elife 0 1099511627776 w
 generalize (decide (0 ≤ frm) && decide (frm < 16)) = b1 at c1
 generalize (decide (0 ≤ dst) && decide (dst < 16)) = b2 at c2
 generalize withB boot 1 1099511627776 = b3 at c3
 generalize withB life 0 1099511627776 = b4 at c4
 generalize withB echo 1 1099511627776 = b5 at c5
 generalize withB elife 0 1099511627776 = b6 at c6
 have C1 := Lib.hid c1; have C2 := Lib.hid c2; have C3 := Lib.hid c3; have C4 := Lib.hid c4; have C5 := Lib.hid c5; have C6 := Lib.hid c6
 clear c1 c2 c3 c4 c5 c6
 obtain ⟨k3, hk3⟩ : ∃ k, (frm == dst) = k := ⟨_, rfl⟩
 subst hk
 go_enter Tryz.func120, Tryz.ntmps120
 go_wp2_with (fail)
 refine (C1.out _).mono ?_; rintro e w1 ⟨rfl, rfl⟩
 cases b1 with
 | false =>
  go_wp2
  go_ret
  exact ⟨_, rfl, fun _ => trivial, Qb⟩
 | true =>
  go_wp2_with (fail)
  refine (C2.out _).mono ?_; rintro e w2 ⟨rfl, rfl⟩
  cases b2 with
  | false =>
   go_wp2
   go_ret
   exact ⟨_, rfl, fun _ => trivial, Qb⟩
  | true =>
   cases k3 with
   | false =>
    go_wp2_with (fail)
    refine (C3.out _).mono ?_; rintro e w3 ⟨rfl, rfl⟩
    cases b3 with
    | false =>
     go_wp2
     go_ret
     exact ⟨_, rfl, fun _ => trivial, Qb⟩
    | true =>
     go_wp2_with (fail)
     refine (C4.out _).mono ?_; rintro e w4 ⟨rfl, rfl⟩
     cases b4 with
     | false =>
      go_wp2
      go_ret
      exact ⟨_, rfl, fun _ => trivial, Qb⟩
     | true =>
      go_wp2_with (fail)
      refine (C5.out _).mono ?_; rintro e w5 ⟨rfl, rfl⟩
      cases b5 with
      | false =>
       go_wp2
       go_ret
       exact ⟨_, rfl, fun _ => trivial, Qb⟩
      | true =>
       go_wp2_with (fail)
       refine (C6.out _).mono ?_; rintro e w6 ⟨rfl, rfl⟩
       cases b6 with
       | false =>
        go_wp2
        go_ret
        exact ⟨_, rfl, fun _ => trivial, Qb⟩
       | true =>
        by_cases hl8 : (8 : Int) < il
        · go_wp2
          go_ret
          exact ⟨_, rfl, fun _ => trivial, Qb⟩
        have hil : il ≤ 8 := by omega
        have HIL := Lib.hid hil
        go_wp2
        clear hil hl8 C1 C2 C3 C4 C5 C6 hk3
        go_loopw [3] (fun i w' => ∃ (k : Nat), k ≤ il ∧ i = .int .i64 k ∧ KeptC w [(⟨w.heap.size, 7, none⟩, .slice ia il ic)] [] w') (fun i _ => il - (intOf i).toNat)
        case atStart => exact ⟨0, Nat.zero_le _, rfl, Qk⟩
        case round =>
         obtain ⟨k, hk, rfl, hK⟩ := hrel
         simp only [KeptC, List.forall_mem_cons] at hK; obtain ⟨kb0, ⟨kc0_0, _⟩, _⟩ := hK
         by_cases hlt : k < il
         rotate_left
         · obtain rfl : k = il := by omega
           go_wp2
           go_ret
           exact ⟨_, rfl, fun _ => trivial, kb0⟩
         · obtain ⟨ad, x, rfl, hab, hx, h4⟩ := HR.out.at hlt
           obtain ⟨P, hP⟩ : ∃ P, ad.add (k * 19) = P := ⟨_, rfl⟩
           rw [hP] at h4 hab
           have s0 := ((it19_of h4).below hab kb0).1
           have HLD : Hid (∀ W', Below wr.heap.size wr W' → (Instr.loadAt 183 (.pointer (some P))).run Tryz.prog W' = .ok (ItV x) W') := Lib.hid (fun W' hb => load_it (h4.below hab kb0) (by have := kb0.size; omega) hb)
           have hs0 := kb0.size
           have hzw : w.heap.size < wr.heap.size := cell_lt kc0_0
           have hPw : P.block < wr.heap.size := by omega
           clear h4 hx
           obtain ⟨B0, cI⟩ := witem_some x
           have CI := Lib.hid cI
           clear cI
           cases k with
           | zero =>
            go_wp2_with (fail)
            refine wp_region_quietC_lit (KeptC wr [(⟨w.heap.size, 7, none⟩, .slice (some ad) il ic), (P, .string x.nm)] []) (by kernel_rfl) (by kernel_rfl) ?_ ?_
            · refine KeptC.drewn ?_
              exact Qk
            try simp only [List.append_eq, List.cons_append, List.nil_append]
            repeat (first
             | ((with_reducible show wpQuiet _ _ _ _ (Oper.mk _ (Op.load 183 _) _ _ _ _ :: _) _); go_big_quiet_want; (refine quietC_run (v := ItV x) ?_ ?_); (· intro w' hw'; exact exec_load rfl rfl (HLD.out _ hw'.1)); (simp only [Act.put, List.setIfInBounds_toArray, List.set_cons_zero, List.set_cons_succ]; go_big_quiet_on))
             | go_big_quiet_skip
             | (refine BigFrame.wpQuiet_skip (wanted_off rfl rfl rfl rfl) ?_; (simp only [Act.put, List.setIfInBounds_toArray, List.set_cons_zero, List.set_cons_succ]))
             | (apply pick_or0 rfl rfl rfl; (· intro hA; (try simp only [hA, Bool.not_false, Bool.not_true, Bool.and_self, Bool.and_true, Bool.true_and, qv_true]); rfl); intro D hD; (simp only [Act.put, List.setIfInBounds_toArray, List.set_cons_zero, List.set_cons_succ]))
             | (apply pick_orG rfl (by first | exact wanted_on rfl rfl rfl rfl | exact wanted_pos rfl rfl rfl | exact wanted_neg rfl rfl rfl | exact wanted_pos2 rfl rfl rfl | exact wanted_neg2 rfl rfl rfl); (· intro hG; (try simp only [Bool.and_eq_true, Bool.or_eq_false_iff, Bool.not_eq_true', Bool.not_eq_false', Bool.not_not] at hG); (try simp only [hG, Bool.or_false, Bool.false_or, Bool.not_false, Bool.not_true, Bool.and_self, Bool.and_true, Bool.true_and, Bool.or_true, Bool.true_or, qv_true]); rfl); (· intro hG; (try simp only [Bool.and_eq_true, Bool.or_eq_false_iff, Bool.not_eq_true', Bool.not_eq_false', Bool.not_not] at hG); (try simp only [hG, Bool.or_false, Bool.false_or, Bool.not_false, Bool.not_true, Bool.and_self, Bool.and_true, Bool.true_and, Bool.or_true, Bool.true_or, qv_true]); intro hA; (try simp only [hA, Bool.not_false, Bool.not_true, Bool.and_self, Bool.and_true, Bool.true_and, qv_true]); rfl); intro D hD; (simp only [Act.put, List.setIfInBounds_toArray, List.set_cons_zero, List.set_cons_succ]))
             | (apply pick_and0 rfl rfl rfl; (· intro hA; (try simp only [hA, Bool.not_false, Bool.not_true, Bool.and_self, Bool.and_true, Bool.true_and, qv_true]); rfl); intro D hD; (simp only [Act.put, List.setIfInBounds_toArray, List.set_cons_zero, List.set_cons_succ]))
             | (apply pick_andG rfl (by first | exact wanted_on rfl rfl rfl rfl | exact wanted_pos rfl rfl rfl | exact wanted_neg rfl rfl rfl | exact wanted_pos2 rfl rfl rfl | exact wanted_neg2 rfl rfl rfl); (· intro hG; (try simp only [Bool.and_eq_true, Bool.or_eq_false_iff, Bool.not_eq_true', Bool.not_eq_false', Bool.not_not] at hG); (try simp only [hG, Bool.or_false, Bool.false_or, Bool.not_false, Bool.not_true, Bool.and_self, Bool.and_true, Bool.true_and, Bool.or_true, Bool.true_or, qv_true]); rfl); (· intro hG; (try simp only [Bool.and_eq_true, Bool.or_eq_false_iff, Bool.not_eq_true', Bool.not_eq_false', Bool.not_not] at hG); (try simp only [hG, Bool.or_false, Bool.false_or, Bool.not_false, Bool.not_true, Bool.and_self, Bool.and_true, Bool.true_and, Bool.or_true, Bool.true_or, qv_true]); intro hA; (try simp only [hA, Bool.not_false, Bool.not_true, Bool.and_self, Bool.and_true, Bool.true_and, qv_true]); rfl); intro D hD; (simp only [Act.put, List.setIfInBounds_toArray, List.set_cons_zero, List.set_cons_succ]))
             | (go_big_quiet_want; (apply quietC_run); (· intro w' hw'; (have hk' := hw'; simp only [KeptC, List.forall_mem_cons] at hk'; go_split_ands); go_simp; first | done | rfl); (simp only [Act.put, List.setIfInBounds_toArray, List.set_cons_zero, List.set_cons_succ]; go_big_quiet_on))
             | (go_big_quiet_want; (apply quietC_call); (· intro w' hw'; go_simp; first | done | exact ⟨rfl, rfl⟩ | rfl); (· intro w' hw'; first | ((with_reducible refine (CI.out _).mono ?_); rintro e w2 ⟨rfl, hb⟩; exact ⟨rfl, hw'.below hb⟩)); (simp only [Act.put, List.setIfInBounds_toArray, List.set_cons_zero, List.set_cons_succ]; go_big_quiet_on))
             | (apply both_run (by first | exact wanted_on rfl rfl rfl rfl | exact wanted_pos rfl rfl rfl | exact wanted_neg rfl rfl rfl | exact wanted_pos2 rfl rfl rfl | exact wanted_neg2 rfl rfl rfl); (· intro hG w' hw'; (have hk' := hw'; simp only [KeptC, List.forall_mem_cons] at hk'; go_split_ands); (try simp only [Bool.and_eq_true, Bool.or_eq_false_iff, Bool.not_eq_true', Bool.not_eq_false', Bool.not_not] at hG); (try simp only [hG, Bool.or_false, Bool.false_or, Bool.not_false, Bool.not_true, Bool.and_self, Bool.and_true, Bool.true_and, Bool.or_true, Bool.true_or, qv_true]); go_simp; first | done | rfl); (simp only [Act.put, List.setIfInBounds_toArray, List.set_cons_zero, List.set_cons_succ]))
             | (apply both_call (by first | exact wanted_on rfl rfl rfl rfl | exact wanted_pos rfl rfl rfl | exact wanted_neg rfl rfl rfl | exact wanted_pos2 rfl rfl rfl | exact wanted_neg2 rfl rfl rfl); (· intro hG w' hw'; (try simp only [Bool.and_eq_true, Bool.or_eq_false_iff, Bool.not_eq_true', Bool.not_eq_false', Bool.not_not] at hG); (try simp only [hG, Bool.or_false, Bool.false_or, Bool.not_false, Bool.not_true, Bool.and_self, Bool.and_true, Bool.true_and, Bool.or_true, Bool.true_or, qv_true]); go_simp; first | done | exact ⟨rfl, rfl⟩ | rfl); (· intro hG w' hw'; first | ((with_reducible refine (CI.out _).mono ?_); rintro e w2 ⟨rfl, hb⟩; exact ⟨rfl, hw'.below hb⟩)); (simp only [Act.put, List.setIfInBounds_toArray, List.set_cons_zero, List.set_cons_succ])))
            refine wpQuiet_nil ?_
            intro w9 hk9
            (have hk' := hk9; simp only [KeptC, List.forall_mem_cons] at hk'; go_split_ands); have hkB9 := hk9.1
            have hR : (!B0) = D := by subst_vars; simp
            clear hR
            cases D with
            | true =>
             go_wp2
             go_ret
             exact ⟨_, rfl, fun _ => trivial, (Qb2 hkB9 kb0)⟩
            | false =>
             go_wp2
             go_roundw
             case rel => exact ⟨0 + 1, by omega, by go_num, (Qk2 hkB9 kb0)⟩
             case measure => simp [intOf]; omega
           | succ k =>
            obtain ⟨ad2, y, hA2, hab2, hy, g4⟩ := HR.out.at (j := k) (by omega)
            obtain rfl : ad = ad2 := Option.some.inj hA2
            obtain ⟨Q, hQ⟩ : ∃ Q, ad.add (k * 19) = Q := ⟨_, rfl⟩
            rw [hQ] at g4 hab2
            have e0 := ((it19_of g4).below hab2 kb0).1
            have hQw : Q.block < wr.heap.size := by omega
            have hwk : IntKind.i64.wrap (k : Int) = k := by rw [IntKind.wrap_i64]; have := HIL.out; omega
            have hkn : k < il := by omega
            obtain ⟨L, hL⟩ : ∃ L, Op.bytesLess y.nm.toList x.nm.toList = L := ⟨_, rfl⟩
            have HL := Lib.hid hL
            clear hy g4 hA2
            go_wp2_with (fail)
            refine wp_region_quietC_lit (KeptC wr [(⟨w.heap.size, 7, none⟩, .slice (some ad) il ic), (P, .string x.nm), (Q, .string y.nm)] []) (by kernel_rfl) (by kernel_rfl) ?_ ?_
            · refine KeptC.drewn ?_
              exact Qk
            try simp only [List.append_eq, List.cons_append, List.nil_append]
            repeat (first
             | ((with_reducible show wpQuiet _ _ _ _ (Oper.mk _ (Op.load 183 _) _ _ _ _ :: _) _); go_big_quiet_want; (refine quietC_run (v := ItV x) ?_ ?_); (· intro w' hw'; exact exec_load rfl rfl (HLD.out _ hw'.1)); (simp only [Act.put, List.setIfInBounds_toArray, List.set_cons_zero, List.set_cons_succ]; go_big_quiet_on))
             | go_big_quiet_skip
             | (refine BigFrame.wpQuiet_skip (wanted_off rfl rfl rfl rfl) ?_; (simp only [Act.put, List.setIfInBounds_toArray, List.set_cons_zero, List.set_cons_succ]))
             | (apply pick_or0 rfl rfl rfl; (· intro hA; (try simp only [hA, Bool.not_false, Bool.not_true, Bool.and_self, Bool.and_true, Bool.true_and, qv_true]); rfl); intro D hD; (simp only [Act.put, List.setIfInBounds_toArray, List.set_cons_zero, List.set_cons_succ]))
             | (apply pick_orG rfl (by first | exact wanted_on rfl rfl rfl rfl | exact wanted_pos rfl rfl rfl | exact wanted_neg rfl rfl rfl | exact wanted_pos2 rfl rfl rfl | exact wanted_neg2 rfl rfl rfl); (· intro hG; (try simp only [Bool.and_eq_true, Bool.or_eq_false_iff, Bool.not_eq_true', Bool.not_eq_false', Bool.not_not] at hG); (try simp only [hG, Bool.or_false, Bool.false_or, Bool.not_false, Bool.not_true, Bool.and_self, Bool.and_true, Bool.true_and, Bool.or_true, Bool.true_or, qv_true]); rfl); (· intro hG; (try simp only [Bool.and_eq_true, Bool.or_eq_false_iff, Bool.not_eq_true', Bool.not_eq_false', Bool.not_not] at hG); (try simp only [hG, Bool.or_false, Bool.false_or, Bool.not_false, Bool.not_true, Bool.and_self, Bool.and_true, Bool.true_and, Bool.or_true, Bool.true_or, qv_true]); intro hA; (try simp only [hA, Bool.not_false, Bool.not_true, Bool.and_self, Bool.and_true, Bool.true_and, qv_true]); rfl); intro D hD; (simp only [Act.put, List.setIfInBounds_toArray, List.set_cons_zero, List.set_cons_succ]))
             | (apply pick_and0 rfl rfl rfl; (· intro hA; (try simp only [hA, Bool.not_false, Bool.not_true, Bool.and_self, Bool.and_true, Bool.true_and, qv_true]); rfl); intro D hD; (simp only [Act.put, List.setIfInBounds_toArray, List.set_cons_zero, List.set_cons_succ]))
             | (apply pick_andG rfl (by first | exact wanted_on rfl rfl rfl rfl | exact wanted_pos rfl rfl rfl | exact wanted_neg rfl rfl rfl | exact wanted_pos2 rfl rfl rfl | exact wanted_neg2 rfl rfl rfl); (· intro hG; (try simp only [Bool.and_eq_true, Bool.or_eq_false_iff, Bool.not_eq_true', Bool.not_eq_false', Bool.not_not] at hG); (try simp only [hG, Bool.or_false, Bool.false_or, Bool.not_false, Bool.not_true, Bool.and_self, Bool.and_true, Bool.true_and, Bool.or_true, Bool.true_or, qv_true]); rfl); (· intro hG; (try simp only [Bool.and_eq_true, Bool.or_eq_false_iff, Bool.not_eq_true', Bool.not_eq_false', Bool.not_not] at hG); (try simp only [hG, Bool.or_false, Bool.false_or, Bool.not_false, Bool.not_true, Bool.and_self, Bool.and_true, Bool.true_and, Bool.or_true, Bool.true_or, qv_true]); intro hA; (try simp only [hA, Bool.not_false, Bool.not_true, Bool.and_self, Bool.and_true, Bool.true_and, qv_true]); rfl); intro D hD; (simp only [Act.put, List.setIfInBounds_toArray, List.set_cons_zero, List.set_cons_succ]))
             | (go_big_quiet_want; (apply quietC_run); (· intro w' hw'; (have hk' := hw'; simp only [KeptC, List.forall_mem_cons] at hk'; go_split_ands); go_simp; first | done | rfl); (simp only [Act.put, List.setIfInBounds_toArray, List.set_cons_zero, List.set_cons_succ]; go_big_quiet_on))
             | (go_big_quiet_want; (apply quietC_call); (· intro w' hw'; go_simp; first | done | exact ⟨rfl, rfl⟩ | rfl); (· intro w' hw'; first | ((with_reducible refine (CI.out _).mono ?_); rintro e w2 ⟨rfl, hb⟩; exact ⟨rfl, hw'.below hb⟩)); (simp only [Act.put, List.setIfInBounds_toArray, List.set_cons_zero, List.set_cons_succ]; go_big_quiet_on))
             | (apply both_run (by first | exact wanted_on rfl rfl rfl rfl | exact wanted_pos rfl rfl rfl | exact wanted_neg rfl rfl rfl | exact wanted_pos2 rfl rfl rfl | exact wanted_neg2 rfl rfl rfl); (· intro hG w' hw'; (have hk' := hw'; simp only [KeptC, List.forall_mem_cons] at hk'; go_split_ands); (try simp only [Bool.and_eq_true, Bool.or_eq_false_iff, Bool.not_eq_true', Bool.not_eq_false', Bool.not_not] at hG); (try simp only [hG, Bool.or_false, Bool.false_or, Bool.not_false, Bool.not_true, Bool.and_self, Bool.and_true, Bool.true_and, Bool.or_true, Bool.true_or, qv_true]); go_simp; first | done | rfl); (simp only [Act.put, List.setIfInBounds_toArray, List.set_cons_zero, List.set_cons_succ]))
             | (apply both_call (by first | exact wanted_on rfl rfl rfl rfl | exact wanted_pos rfl rfl rfl | exact wanted_neg rfl rfl rfl | exact wanted_pos2 rfl rfl rfl | exact wanted_neg2 rfl rfl rfl); (· intro hG w' hw'; (try simp only [Bool.and_eq_true, Bool.or_eq_false_iff, Bool.not_eq_true', Bool.not_eq_false', Bool.not_not] at hG); (try simp only [hG, Bool.or_false, Bool.false_or, Bool.not_false, Bool.not_true, Bool.and_self, Bool.and_true, Bool.true_and, Bool.or_true, Bool.true_or, qv_true]); go_simp; first | done | exact ⟨rfl, rfl⟩ | rfl); (· intro hG w' hw'; first | ((with_reducible refine (CI.out _).mono ?_); rintro e w2 ⟨rfl, hb⟩; exact ⟨rfl, hw'.below hb⟩)); (simp only [Act.put, List.setIfInBounds_toArray, List.set_cons_zero, List.set_cons_succ])))
            refine wpQuiet_nil ?_
            intro w9 hk9
            (have hk' := hk9; simp only [KeptC, List.forall_mem_cons] at hk'; go_split_ands); have hkB9 := hk9.1
            have hR : (!B0 || !L) = D := by subst_vars; simp
            clear hR
            cases D with
            | true =>
             go_wp2
             go_ret
             exact ⟨_, rfl, fun _ => trivial, (Qb2 hkB9 kb0)⟩
            | false =>
             go_wp2
             go_roundw
             case rel => exact ⟨k + 1 + 1, by omega, by go_num, (Qk2 hkB9 kb0)⟩
             case measure => simp [intOf]; omega
   | true =>
    go_wp2
    go_ret
    exact ⟨_, rfl, fun _ => trivial, Qb⟩
set_option maxHeartbeats 8000000 in
theorem wfit_list4 (x : Pk) (its : List It) (w : World) (hr : RowsE encIt 19 w w.heap.size x.ia x.il its) (hk : x.kd = 4) : Calls Tryz.prog 120 #[PkV x] w (FitPost True w) := by
 have HR := Lib.hid hr
 clear hr
 obtain ⟨kd, frm, dst, boot, life, echo, elife, ia, il, ic⟩ := x
 simp only [] at hk HR ⊢
 have c1 : ∀ w : World, _ := fun w => wnode_any frm w
 have c2 : ∀ w : World, _ := fun w => wnode_any dst w
 have c3 : ∀ w : World, _ := fun w => within_any boot 1 1099511627776 w
 have c4 : ∀ w : World, _ := fun w => within_any life 0 1099511627776 w
 have c5 : ∀ w : World, _ := fun w => within_any echo 1 1099511627776 w
 have c6 : ∀ w : World, _ := fun w => within_any elife 0 1099511627776 w
 generalize (decide (0 ≤ frm) && decide (frm < 16)) = b1 at c1
 generalize (decide (0 ≤ dst) && decide (dst < 16)) = b2 at c2
 generalize withB boot 1 1099511627776 = b3 at c3
 generalize withB life 0 1099511627776 = b4 at c4
 generalize withB echo 1 1099511627776 = b5 at c5
 generalize withB elife 0 1099511627776 = b6 at c6
 have C1 := Lib.hid c1; have C2 := Lib.hid c2; have C3 := Lib.hid c3; have C4 := Lib.hid c4; have C5 := Lib.hid c5; have C6 := Lib.hid c6
 clear c1 c2 c3 c4 c5 c6
 obtain ⟨k3, hk3⟩ : ∃ k, (frm == dst) = k := ⟨_, rfl⟩
 subst hk
 go_enter Tryz.func120, Tryz.ntmps120
 go_wp2_with (fail)
 refine (C1.out _).mono ?_; rintro e w1 ⟨rfl, rfl⟩
 cases b1 with
 | false =>
  go_wp2
  go_ret
  exact ⟨_, rfl, fun _ => trivial, Qb⟩
 | true =>
  go_wp2_with (fail)
  refine (C2.out _).mono ?_; rintro e w2 ⟨rfl, rfl⟩
  cases b2 with
  | false =>
   go_wp2
   go_ret
   exact ⟨_, rfl, fun _ => trivial, Qb⟩
  | true =>
   cases k3 with
   | false =>
    go_wp2_with (fail)
    refine (C3.out _).mono ?_; rintro e w3 ⟨rfl, rfl⟩
    cases b3 with
    | false =>
     go_wp2
     go_ret
     exact ⟨_, rfl, fun _ => trivial, Qb⟩
    | true =>
     go_wp2_with (fail)
     refine (C4.out _).mono ?_; rintro e w4 ⟨rfl, rfl⟩
     cases b4 with
     | false =>
      go_wp2
      go_ret
      exact ⟨_, rfl, fun _ => trivial, Qb⟩
     | true =>
      go_wp2_with (fail)
      refine (C5.out _).mono ?_; rintro e w5 ⟨rfl, rfl⟩
      cases b5 with
      | false =>
       go_wp2
       go_ret
       exact ⟨_, rfl, fun _ => trivial, Qb⟩
      | true =>
       go_wp2_with (fail)
       refine (C6.out _).mono ?_; rintro e w6 ⟨rfl, rfl⟩
       cases b6 with
       | false =>
        go_wp2
        go_ret
        exact ⟨_, rfl, fun _ => trivial, Qb⟩
       | true =>
        by_cases hl8 : (8 : Int) < il
        · go_wp2
          go_ret
          exact ⟨_, rfl, fun _ => trivial, Qb⟩
        have hil : il ≤ 8 := by omega
        have HIL := Lib.hid hil
        go_wp2
        clear hil hl8 C1 C2 C3 C4 C5 C6 hk3
        go_loopw [3] (fun i w' => ∃ (k : Nat), k ≤ il ∧ i = .int .i64 k ∧ KeptC w [(⟨w.heap.size, 7, none⟩, .slice ia il ic)] [] w') (fun i _ => il - (intOf i).toNat)
        case atStart => exact ⟨0, Nat.zero_le _, rfl, Qk⟩
        case round =>
         obtain ⟨k, hk, rfl, hK⟩ := hrel
         simp only [KeptC, List.forall_mem_cons] at hK; obtain ⟨kb0, ⟨kc0_0, _⟩, _⟩ := hK
         by_cases hlt : k < il
         rotate_left
         · obtain rfl : k = il := by omega
           go_wp2
           go_ret
           exact ⟨_, rfl, fun _ => trivial, kb0⟩
         · obtain ⟨ad, x, rfl, hab, hx, h4⟩ := HR.out.at hlt
           obtain ⟨P, hP⟩ : ∃ P, ad.add (k * 19) = P := ⟨_, rfl⟩
           rw [hP] at h4 hab
           have s0 := ((it19_of h4).below hab kb0).1
           have HLD : Hid (∀ W', Below wr.heap.size wr W' → (Instr.loadAt 183 (.pointer (some P))).run Tryz.prog W' = .ok (ItV x) W') := Lib.hid (fun W' hb => load_it (h4.below hab kb0) (by have := kb0.size; omega) hb)
           have hs0 := kb0.size
           have hzw : w.heap.size < wr.heap.size := cell_lt kc0_0
           have hPw : P.block < wr.heap.size := by omega
           clear h4 hx
           obtain ⟨B0, cI⟩ := witem_some x
           have CI := Lib.hid cI
           clear cI
           cases k with
           | zero =>
            go_wp2_with (fail)
            refine wp_region_quietC_lit (KeptC wr [(⟨w.heap.size, 7, none⟩, .slice (some ad) il ic), (P, .string x.nm)] []) (by kernel_rfl) (by kernel_rfl) ?_ ?_
            · refine KeptC.drewn ?_
              exact Qk
            try simp only [List.append_eq, List.cons_append, List.nil_append]
            repeat (first
             | ((with_reducible show wpQuiet _ _ _ _ (Oper.mk _ (Op.load 183 _) _ _ _ _ :: _) _); go_big_quiet_want; (refine quietC_run (v := ItV x) ?_ ?_); (· intro w' hw'; exact exec_load rfl rfl (HLD.out _ hw'.1)); (simp only [Act.put, List.setIfInBounds_toArray, List.set_cons_zero, List.set_cons_succ]; go_big_quiet_on))
             | go_big_quiet_skip
             | (refine BigFrame.wpQuiet_skip (wanted_off rfl rfl rfl rfl) ?_; (simp only [Act.put, List.setIfInBounds_toArray, List.set_cons_zero, List.set_cons_succ]))
             | (apply pick_or0 rfl rfl rfl; (· intro hA; (try simp only [hA, Bool.not_false, Bool.not_true, Bool.and_self, Bool.and_true, Bool.true_and, qv_true]); rfl); intro D hD; (simp only [Act.put, List.setIfInBounds_toArray, List.set_cons_zero, List.set_cons_succ]))
             | (apply pick_orG rfl (by first | exact wanted_on rfl rfl rfl rfl | exact wanted_pos rfl rfl rfl | exact wanted_neg rfl rfl rfl | exact wanted_pos2 rfl rfl rfl | exact wanted_neg2 rfl rfl rfl); (· intro hG; (try simp only [Bool.and_eq_true, Bool.or_eq_false_iff, Bool.not_eq_true', Bool.not_eq_false', Bool.not_not] at hG); (try simp only [hG, Bool.or_false, Bool.false_or, Bool.not_false, Bool.not_true, Bool.and_self, Bool.and_true, Bool.true_and, Bool.or_true, Bool.true_or, qv_true]); rfl); (· intro hG; (try simp only [Bool.and_eq_true, Bool.or_eq_false_iff, Bool.not_eq_true', Bool.not_eq_false', Bool.not_not] at hG); (try simp only [hG, Bool.or_false, Bool.false_or, Bool.not_false, Bool.not_true, Bool.and_self, Bool.and_true, Bool.true_and, Bool.or_true, Bool.true_or, qv_true]); intro hA; (try simp only [hA, Bool.not_false, Bool.not_true, Bool.and_self, Bool.and_true, Bool.true_and, qv_true]); rfl); intro D hD; (simp only [Act.put, List.setIfInBounds_toArray, List.set_cons_zero, List.set_cons_succ]))
             | (apply pick_and0 rfl rfl rfl; (· intro hA; (try simp only [hA, Bool.not_false, Bool.not_true, Bool.and_self, Bool.and_true, Bool.true_and, qv_true]); rfl); intro D hD; (simp only [Act.put, List.setIfInBounds_toArray, List.set_cons_zero, List.set_cons_succ]))
             | (apply pick_andG rfl (by first | exact wanted_on rfl rfl rfl rfl | exact wanted_pos rfl rfl rfl | exact wanted_neg rfl rfl rfl | exact wanted_pos2 rfl rfl rfl | exact wanted_neg2 rfl rfl rfl); (· intro hG; (try simp only [Bool.and_eq_true, Bool.or_eq_false_iff, Bool.not_eq_true', Bool.not_eq_false', Bool.not_not] at hG); (try simp only [hG, Bool.or_false, Bool.false_or, Bool.not_false, Bool.not_true, Bool.and_self, Bool.and_true, Bool.true_and, Bool.or_true, Bool.true_or, qv_true]); rfl); (· intro hG; (try simp only [Bool.and_eq_true, Bool.or_eq_false_iff, Bool.not_eq_true', Bool.not_eq_false', Bool.not_not] at hG); (try simp only [hG, Bool.or_false, Bool.false_or, Bool.not_false, Bool.not_true, Bool.and_self, Bool.and_true, Bool.true_and, Bool.or_true, Bool.true_or, qv_true]); intro hA; (try simp only [hA, Bool.not_false, Bool.not_true, Bool.and_self, Bool.and_true, Bool.true_and, qv_true]); rfl); intro D hD; (simp only [Act.put, List.setIfInBounds_toArray, List.set_cons_zero, List.set_cons_succ]))
             | (go_big_quiet_want; (apply quietC_run); (· intro w' hw'; (have hk' := hw'; simp only [KeptC, List.forall_mem_cons] at hk'; go_split_ands); go_simp; first | done | rfl); (simp only [Act.put, List.setIfInBounds_toArray, List.set_cons_zero, List.set_cons_succ]; go_big_quiet_on))
             | (go_big_quiet_want; (apply quietC_call); (· intro w' hw'; go_simp; first | done | exact ⟨rfl, rfl⟩ | rfl); (· intro w' hw'; first | ((with_reducible refine (CI.out _).mono ?_); rintro e w2 ⟨rfl, hb⟩; exact ⟨rfl, hw'.below hb⟩)); (simp only [Act.put, List.setIfInBounds_toArray, List.set_cons_zero, List.set_cons_succ]; go_big_quiet_on))
             | (apply both_run (by first | exact wanted_on rfl rfl rfl rfl | exact wanted_pos rfl rfl rfl | exact wanted_neg rfl rfl rfl | exact wanted_pos2 rfl rfl rfl | exact wanted_neg2 rfl rfl rfl); (· intro hG w' hw'; (have hk' := hw'; simp only [KeptC, List.forall_mem_cons] at hk'; go_split_ands); (try simp only [Bool.and_eq_true, Bool.or_eq_false_iff, Bool.not_eq_true', Bool.not_eq_false', Bool.not_not] at hG); (try simp only [hG, Bool.or_false, Bool.false_or, Bool.not_false, Bool.not_true, Bool.and_self, Bool.and_true, Bool.true_and, Bool.or_true, Bool.true_or, qv_true]); go_simp; first | done | rfl); (simp only [Act.put, List.setIfInBounds_toArray, List.set_cons_zero, List.set_cons_succ]))
             | (apply both_call (by first | exact wanted_on rfl rfl rfl rfl | exact wanted_pos rfl rfl rfl | exact wanted_neg rfl rfl rfl | exact wanted_pos2 rfl rfl rfl | exact wanted_neg2 rfl rfl rfl); (· intro hG w' hw'; (try simp only [Bool.and_eq_true, Bool.or_eq_false_iff, Bool.not_eq_true', Bool.not_eq_false', Bool.not_not] at hG); (try simp only [hG, Bool.or_false, Bool.false_or, Bool.not_false, Bool.not_true, Bool.and_self, Bool.and_true, Bool.true_and, Bool.or_true, Bool.true_or, qv_true]); go_simp; first | done | exact ⟨rfl, rfl⟩ | rfl); (· intro hG w' hw'; first | ((with_reducible refine (CI.out _).mono ?_); rintro e w2 ⟨rfl, hb⟩; exact ⟨rfl, hw'.below hb⟩)); (simp only [Act.put, List.setIfInBounds_toArray, List.set_cons_zero, List.set_cons_succ])))
            refine wpQuiet_nil ?_
            intro w9 hk9
            (have hk' := hk9; simp only [KeptC, List.forall_mem_cons] at hk'; go_split_ands); have hkB9 := hk9.1
            have hR : (!B0) = D := by subst_vars; simp
            clear hR
            cases D with
            | true =>
             go_wp2
             go_ret
             exact ⟨_, rfl, fun _ => trivial, (Qb2 hkB9 kb0)⟩
            | false =>
             go_wp2
             go_roundw
             case rel => exact ⟨0 + 1, by omega, by go_num, (Qk2 hkB9 kb0)⟩
             case measure => simp [intOf]; omega
           | succ k =>
            obtain ⟨ad2, y, hA2, hab2, hy, g4⟩ := HR.out.at (j := k) (by omega)
            obtain rfl : ad = ad2 := Option.some.inj hA2
            obtain ⟨Q, hQ⟩ : ∃ Q, ad.add (k * 19) = Q := ⟨_, rfl⟩
            rw [hQ] at g4 hab2
            have e0 := ((it19_of g4).below hab2 kb0).1
            have hQw : Q.block < wr.heap.size := by omega
            have hwk : IntKind.i64.wrap (k : Int) = k := by rw [IntKind.wrap_i64]; have := HIL.out; omega
            have hkn : k < il := by omega
            obtain ⟨L, hL⟩ : ∃ L, Op.bytesLess y.nm.toList x.nm.toList = L := ⟨_, rfl⟩
            have HL := Lib.hid hL
            clear hy g4 hA2
            go_wp2_with (fail)
            refine wp_region_quietC_lit (KeptC wr [(⟨w.heap.size, 7, none⟩, .slice (some ad) il ic), (P, .string x.nm), (Q, .string y.nm)] []) (by kernel_rfl) (by kernel_rfl) ?_ ?_
            · refine KeptC.drewn ?_
              exact Qk
            try simp only [List.append_eq, List.cons_append, List.nil_append]
            repeat (first
             | ((with_reducible show wpQuiet _ _ _ _ (Oper.mk _ (Op.load 183 _) _ _ _ _ :: _) _); go_big_quiet_want; (refine quietC_run (v := ItV x) ?_ ?_); (· intro w' hw'; exact exec_load rfl rfl (HLD.out _ hw'.1)); (simp only [Act.put, List.setIfInBounds_toArray, List.set_cons_zero, List.set_cons_succ]; go_big_quiet_on))
             | go_big_quiet_skip
             | (refine BigFrame.wpQuiet_skip (wanted_off rfl rfl rfl rfl) ?_; (simp only [Act.put, List.setIfInBounds_toArray, List.set_cons_zero, List.set_cons_succ]))
             | (apply pick_or0 rfl rfl rfl; (· intro hA; (try simp only [hA, Bool.not_false, Bool.not_true, Bool.and_self, Bool.and_true, Bool.true_and, qv_true]); rfl); intro D hD; (simp only [Act.put, List.setIfInBounds_toArray, List.set_cons_zero, List.set_cons_succ]))
             | (apply pick_orG rfl (by first | exact wanted_on rfl rfl rfl rfl | exact wanted_pos rfl rfl rfl | exact wanted_neg rfl rfl rfl | exact wanted_pos2 rfl rfl rfl | exact wanted_neg2 rfl rfl rfl); (· intro hG; (try simp only [Bool.and_eq_true, Bool.or_eq_false_iff, Bool.not_eq_true', Bool.not_eq_false', Bool.not_not] at hG); (try simp only [hG, Bool.or_false, Bool.false_or, Bool.not_false, Bool.not_true, Bool.and_self, Bool.and_true, Bool.true_and, Bool.or_true, Bool.true_or, qv_true]); rfl); (· intro hG; (try simp only [Bool.and_eq_true, Bool.or_eq_false_iff, Bool.not_eq_true', Bool.not_eq_false', Bool.not_not] at hG); (try simp only [hG, Bool.or_false, Bool.false_or, Bool.not_false, Bool.not_true, Bool.and_self, Bool.and_true, Bool.true_and, Bool.or_true, Bool.true_or, qv_true]); intro hA; (try simp only [hA, Bool.not_false, Bool.not_true, Bool.and_self, Bool.and_true, Bool.true_and, qv_true]); rfl); intro D hD; (simp only [Act.put, List.setIfInBounds_toArray, List.set_cons_zero, List.set_cons_succ]))
             | (apply pick_and0 rfl rfl rfl; (· intro hA; (try simp only [hA, Bool.not_false, Bool.not_true, Bool.and_self, Bool.and_true, Bool.true_and, qv_true]); rfl); intro D hD; (simp only [Act.put, List.setIfInBounds_toArray, List.set_cons_zero, List.set_cons_succ]))
             | (apply pick_andG rfl (by first | exact wanted_on rfl rfl rfl rfl | exact wanted_pos rfl rfl rfl | exact wanted_neg rfl rfl rfl | exact wanted_pos2 rfl rfl rfl | exact wanted_neg2 rfl rfl rfl); (· intro hG; (try simp only [Bool.and_eq_true, Bool.or_eq_false_iff, Bool.not_eq_true', Bool.not_eq_false', Bool.not_not] at hG); (try simp only [hG, Bool.or_false, Bool.false_or, Bool.not_false, Bool.not_true, Bool.and_self, Bool.and_true, Bool.true_and, Bool.or_true, Bool.true_or, qv_true]); rfl); (· intro hG; (try simp only [Bool.and_eq_true, Bool.or_eq_false_iff, Bool.not_eq_true', Bool.not_eq_false', Bool.not_not] at hG); (try simp only [hG, Bool.or_false, Bool.false_or, Bool.not_false, Bool.not_true, Bool.and_self, Bool.and_true, Bool.true_and, Bool.or_true, Bool.true_or, qv_true]); intro hA; (try simp only [hA, Bool.not_false, Bool.not_true, Bool.and_self, Bool.and_true, Bool.true_and, qv_true]); rfl); intro D hD; (simp only [Act.put, List.setIfInBounds_toArray, List.set_cons_zero, List.set_cons_succ]))
             | (go_big_quiet_want; (apply quietC_run); (· intro w' hw'; (have hk' := hw'; simp only [KeptC, List.forall_mem_cons] at hk'; go_split_ands); go_simp; first | done | rfl); (simp only [Act.put, List.setIfInBounds_toArray, List.set_cons_zero, List.set_cons_succ]; go_big_quiet_on))
             | (go_big_quiet_want; (apply quietC_call); (· intro w' hw'; go_simp; first | done | exact ⟨rfl, rfl⟩ | rfl); (· intro w' hw'; first | ((with_reducible refine (CI.out _).mono ?_); rintro e w2 ⟨rfl, hb⟩; exact ⟨rfl, hw'.below hb⟩)); (simp only [Act.put, List.setIfInBounds_toArray, List.set_cons_zero, List.set_cons_succ]; go_big_quiet_on))
             | (apply both_run (by first | exact wanted_on rfl rfl rfl rfl | exact wanted_pos rfl rfl rfl | exact wanted_neg rfl rfl rfl | exact wanted_pos2 rfl rfl rfl | exact wanted_neg2 rfl rfl rfl); (· intro hG w' hw'; (have hk' := hw'; simp only [KeptC, List.forall_mem_cons] at hk'; go_split_ands); (try simp only [Bool.and_eq_true, Bool.or_eq_false_iff, Bool.not_eq_true', Bool.not_eq_false', Bool.not_not] at hG); (try simp only [hG, Bool.or_false, Bool.false_or, Bool.not_false, Bool.not_true, Bool.and_self, Bool.and_true, Bool.true_and, Bool.or_true, Bool.true_or, qv_true]); go_simp; first | done | rfl); (simp only [Act.put, List.setIfInBounds_toArray, List.set_cons_zero, List.set_cons_succ]))
             | (apply both_call (by first | exact wanted_on rfl rfl rfl rfl | exact wanted_pos rfl rfl rfl | exact wanted_neg rfl rfl rfl | exact wanted_pos2 rfl rfl rfl | exact wanted_neg2 rfl rfl rfl); (· intro hG w' hw'; (try simp only [Bool.and_eq_true, Bool.or_eq_false_iff, Bool.not_eq_true', Bool.not_eq_false', Bool.not_not] at hG); (try simp only [hG, Bool.or_false, Bool.false_or, Bool.not_false, Bool.not_true, Bool.and_self, Bool.and_true, Bool.true_and, Bool.or_true, Bool.true_or, qv_true]); go_simp; first | done | exact ⟨rfl, rfl⟩ | rfl); (· intro hG w' hw'; first | ((with_reducible refine (CI.out _).mono ?_); rintro e w2 ⟨rfl, hb⟩; exact ⟨rfl, hw'.below hb⟩)); (simp only [Act.put, List.setIfInBounds_toArray, List.set_cons_zero, List.set_cons_succ])))
            refine wpQuiet_nil ?_
            intro w9 hk9
            (have hk' := hk9; simp only [KeptC, List.forall_mem_cons] at hk'; go_split_ands); have hkB9 := hk9.1
            have hR : (!B0 || !L) = D := by subst_vars; simp
            clear hR
            cases D with
            | true =>
             go_wp2
             go_ret
             exact ⟨_, rfl, fun _ => trivial, (Qb2 hkB9 kb0)⟩
            | false =>
             go_wp2
             go_roundw
             case rel => exact ⟨k + 1 + 1, by omega, by go_num, (Qk2 hkB9 kb0)⟩
             case measure => simp [intOf]; omega
   | true =>
    go_wp2
    go_ret
    exact ⟨_, rfl, fun _ => trivial, Qb⟩
theorem wfit_any (x : Pk) (its : List It) (w : World) (hr : RowsE encIt 19 w w.heap.size x.ia x.il its) : Calls Tryz.prog 120 #[PkV x] w (FitPost True w) := by
 by_cases h1 : x.kd = 1
 · exact wfit_hello x its w hr h1
 by_cases h3 : x.kd = 3
 · exact wfit_list3 x its w hr h3
 by_cases h4 : x.kd = 4
 · exact wfit_list4 x its w hr h4
 exact wfit_other x its w hr ⟨h1, h3, h4⟩
end Go.Proofs.YtkfodkbgmpbmfaaGreat
