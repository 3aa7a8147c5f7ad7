/- Chapter 22, parts on the way: RngE VwK VwL VwM -/
import Derived.Maps.AppendAt
import Derived.Maps.OwnIn
import Derived.Test.YtkfodkbgmpbmfaaGreatB01
import Derived.Test.YtkfodkbgmpbmfaaGreatB02
import Derived.Test.YtkfodkbgmpbmfaaGreatB05
set_option linter.unusedVariables false
set_option linter.unusedSimpArgs false
namespace Go.Proofs.YtkfodkbgmpbmfaaGreat
open Go.Proofs.YtkfodkbgmpbmfaaGreat.Bg
open Go.RowKit Go.Shelf
set_option linter.unusedVariables false
def postE {α : Type} (ex : Nat) (B D Bo Bw : Nat) (I Ix : List α → World → Prop) (xs : List α) (W : World) : Exit → Act → World → Prop
 | .normal, _, W' => KeepsFrom B W W' ∧ Kp D Bo Bw W W' ∧ I xs W'
 | .exit k, _, W' => k = ex ∧ KeepsFrom B W W' ∧ Ix xs W'
 | _, _, _ => False
theorem wpIn_range_e {α : Type} (ex : Nat) {P : Program} {n : Nat} {g : Operand} {ps : Array Tmp} {assign body : Code} {Q : Exit → Act → World → Prop} {a : Act} {w : World}
    (hn : 1 ≤ n) {gf : Nat} {lb : Array Value} (hg : a.eval g = .func (.func gf) #[] lb) (eg : ∀ args w, (callFunc gf args).run P w = .ok (.enter gf args) w)
    {encs : α → Array Value} {Bo Bw N : Nat} {S Sp : List α → Prop} (hBo : Bo < w.heap.size) (hseq : SeqS (n - 1) P gf lb encs Bo Bw N S Sp w) (hps : ∀ x, (encs x).size = ps.size)
    (I Ix : List α → World → Prop) (hIr : ∀ s A, I s A → w.heap.size ≤ A.heap.size ∧ ∀ r, rowB Bo A = some r → w.heap.size ≤ r ∧ (∃ o, A.heap[r]? = some o ∧ o.isCells = true)) (hIF : ∀ s A C, I s A → FrI w.heap.size Bo A C → I s C)
    (hIx : ∀ s A l o o', Ix s A → w.heap.size ≤ l → A.heap[l]? = some o → o.isCells = false → Ix s (A.putObj l o'))
    (h0 : I [] w) (Ax : α → Act → World → Prop) (hAx : ∀ x a' A l o o', Ax x a' A → A.heap[l]? = some o → o.isCells = false → Ax x a' (A.putObj l o'))
    (hassign : ∀ (l : Nat) (pre : List α) (x : α) (W : World) (K : Act → World → Prop), w.heap.size ≤ l → I pre W → (∀ a' W', KeepsFrom w.heap.size W W' → Kp w.heap.size Bo Bw W W' → I pre W' → Ax x a' W' → K a' W') →
     assign.wpIn (Fence.wide.inRound l) (n - 1 - 1) P (Exit.then K (fun _ _ _ => False)) { tmps := (ps.zip (encs x)).foldl (fun t (p, v) => t.setIfInBounds p v) a.tmps, defers := [] } W)
    (hbody : ∀ (l : Nat) (pre : List α) (x : α) (a' : Act) (W : World), w.heap.size ≤ l → pre.length < N → I pre W → Ax x a' W → body.wpIn (Fence.wide.inRound l) (n - 1 - 1) P (postE ex w.heap.size w.heap.size Bo Bw I Ix (pre ++ [x]) W) a' W)
    (hdone : ∀ (D : Nat) (xs : List α) (W : World), w.heap.size ≤ D → S xs → I xs W → W.heap[D]? = some (.deferred (some [])) → Q .normal { a with defers := { target := .collected D, args := #[] } :: a.defers } W)
    (hstop : ∀ (D : Nat) (pre : List α) (W : World), w.heap.size ≤ D → Sp pre → Ix pre W → W.heap[D]? = some (.deferred (some [])) → (Code.exit ex).wpIn Fence.wide n P Q { a with defers := { target := .collected D, args := #[] } :: a.defers } W) :
    (Code.rangeFunc g ps assign body).wpIn Fence.wide n P Q a w := by
 refine wpIn_rangeFunc fun fn hfn => ?_
 generalize hD : w.heap.size = D at *
 obtain ⟨rc, hrc⟩ : ∃ rc : LoopState → Option Code → Loop, rc = fun st pe => { state := st, pending := pe, fn, tmps := a.tmps, params := ps, assign, body, defers := D } := ⟨_, rfl⟩
 have hgrow : ∀ {A C : World}, KeepsFrom D A C → ∀ {k : Nat} {o : Obj}, D ≤ k → A.heap[k]? = some o → o.isCells = false → C.heap[k]? = some o := fun h _ _ h1 h2 h3 => h.same _ _ h1 h2 h3
 obtain ⟨W1, hW1⟩ : ∃ W1, (w.alloc (.deferred (some []))).alloc (.loop (rc .ready none)) = W1 := ⟨_, rfl⟩
 have dD : W1.heap[D]? = some (.deferred (some [])) := by
  rw [← hW1, ← hD]; exact (Below.heap_alloc _ _ _ (by simp)).trans (World.alloc_heap_new w _)
 have dL : W1.heap[D + 1]? = some (.loop (rc .ready none)) := by
  rw [← hW1, ← hD]; have := World.alloc_heap_new (w.alloc (.deferred (some []))) (.loop (rc .ready none)); rwa [World.size_alloc] at this
 have b1 : Below D w W1 := by
  rw [← hW1, ← hD]; exact ((Below.refl _ w).alloc (Nat.le_refl _) _).alloc (by simp) _
 have f1 : Fr D Bo w W1 := Fr.below (by rw [hD]; exact b1)
 have i1 : I [] W1 := hIF _ _ _ h0 f1.I
 have hput : ∀ {s : List α} {A : World} {l : Nat} {o o' : Obj}, I s A → D ≤ l → A.heap[l]? = some o → o.isCells = false → I s (A.putObj l o') := by
  intro s A l o o' hi hl ho hc
  refine hIF _ _ _ hi ⟨Nat.le_of_eq (World.putObj_size ..).symm, fun b hb hcb => World.putObj_heap_other ?_, ⟨rfl, rfl, rfl⟩⟩
  intro e
  subst e
  rcases hcb with h | h
  · omega
  · obtain ⟨_, o2, h2, h3⟩ := (hIr _ _ hi).2 _ h
    rw [ho] at h2
    cases h2
    rw [hc] at h3
    cases h3
 refine ⟨D + 1, [{ target := .collected D, args := #[] }], W1, { target := .fn (.func gf) lb, args := #[.func (.yield (D + 1)) #[] #[]] }, W1, gf, #[.func (.yield (D + 1)) #[] #[]] ++ lb, W1, ?_, ?_, fun _ _ => trivial, ?_, fun _ => hn, ?_⟩
 · have he := run_enterLoop_outer (P := P) (w := w) fn a.tmps ps assign body
   rw [hD] at he
   rw [← hW1, hrc]
   exact he
 · simp only [resolve, hg]
   simp [go_sem]
 · simp [invoke, go_sem, eg]
 · have hcall := hseq (D + 1)
     (fun pre W => I pre W ∧ W.heap[D + 1]? = some (.loop (rc .ready none)) ∧ W.heap[D]? = some (.deferred (some [])))
     (fun pre W => Ix pre W ∧ W.heap[D + 1]? = some (.loop (rc .done (some (.exit ex)))) ∧ W.heap[D]? = some (.deferred (some [])))
     W1 (by rw [hD]; exact b1)
     (fun s A h => by
      rw [hD]
      refine ⟨(hIr s A h.1).1, fun r hr => ?_⟩
      obtain ⟨h1, o, h2, _⟩ := (hIr s A h.1).2 r hr
      exact ⟨h1, (Array.getElem?_eq_some_iff.1 h2).1⟩)
     (fun s A C h hf => by
      rw [hD] at hf
      have l1 := (Array.getElem?_eq_some_iff.1 h.2.1).1
      have l2 := (Array.getElem?_eq_some_iff.1 h.2.2).1
      exact ⟨hIF s A C h.1 hf.I, (hf.2.1 _ l1 (.inr (.inr ⟨_, h.2.1, rfl⟩))).trans h.2.1, (hf.2.1 _ l2 (.inr (.inr ⟨_, h.2.2, rfl⟩))).trans h.2.2⟩) ?_ ⟨i1, dL, dD⟩
   · refine hcall.mono ?_
     rintro e W2 ⟨⟨v, rfl⟩, ⟨xs, hS, hi, hl, hk⟩ | ⟨pre, hSp, hi, hl, hk⟩⟩
     · have hend := run_endLoop (P := P) hl (by rw [hrc]; simp)
       have hpe : (rc LoopState.ready none).pending = none := by rw [hrc]
       rw [hpe] at hend
       exact ⟨none, _, hend, hdone D xs _ (Nat.le_refl _) hS (hput hi (by omega) hl rfl) ((World.putObj_heap_other (by omega)).trans hk)⟩
     · have hend := run_endLoop (P := P) hl (by rw [hrc]; simp)
       have hpe : (rc LoopState.done (some (.exit ex))).pending = some (.exit ex) := by rw [hrc]
       rw [hpe] at hend
       exact ⟨some (.exit ex), _, hend, hstop D pre _ (Nat.le_refl _) hSp (hIx _ _ _ _ _ hi (by omega) hl rfl) ((World.putObj_heap_other (by omega)).trans hk)⟩
   · rintro pre x W ⟨hi, hl, hk⟩ hlen
     have hy := run_yield (P := P) (args := encs x) hl (by rw [hrc]; exact hps x)
     rw [hrc] at hy
     refine ⟨fn, _, assign, body, hy, roundIn_of_wpIn hfn (hassign (D + 1) pre x W _ (by omega) hi fun a' Wa ka sa ia xa => ?_)⟩
     clear hy
     have hl1 := hgrow ka (by omega) hl rfl
     have hk1 := hgrow ka (Nat.le_refl _) hk rfl
     have hlt : D + 1 < Wa.heap.size := (Array.getElem?_eq_some_iff.1 hl1).1
     refine ⟨_, run_beginRound hl1 (by rw [hrc]), ?_⟩
     obtain ⟨Wb, hWb⟩ : ∃ Wb, Wa.putObj (D + 1) (.loop { rc .ready none with state := .busy }) = Wb := ⟨_, rfl⟩
     have hl2 : Wb.heap[D + 1]? = some (.loop { rc .ready none with state := .busy }) := by rw [← hWb]; exact World.putObj_heap_same hlt
     have hk2 : Wb.heap[D]? = some (.deferred (some [])) := by rw [← hWb]; exact (World.putObj_heap_other (by omega)).trans hk1
     have s2 : Kp D Bo Bw W Wb := sa.trans (by rw [← hWb]; exact Kp.putObj _ _ (by omega) hl1 rfl)
     have ib : I pre Wb := by rw [← hWb]; exact hput ia (by omega) hl1 rfl
     have xb : Ax x a' Wb := by rw [← hWb]; exact hAx _ _ _ _ _ _ xa hl1 rfl
     rw [hWb]
     refine wpIn_mono (hbody (D + 1) pre x a' Wb (by omega) hlen ib xb) fun e a3 W3 hp => ?_
     match e, hp with
     | .normal, ⟨k3, s3, i3⟩ =>
      have hl3 := hgrow k3 (by omega) hl2 rfl
      have he := run_endRound (P := P) none hl3
      refine ⟨_, W3.putObj (D + 1) (.loop (rc .ready none)), by rw [he, hrc]; rfl, .inl ⟨rfl, ⟨hput i3 (by omega) hl3 rfl, World.putObj_heap_same (Array.getElem?_eq_some_iff.1 hl3).1, (World.putObj_heap_other (by omega)).trans (hgrow k3 (Nat.le_refl _) hk2 rfl)⟩, ?_⟩⟩
      rw [hD]
      exact (s2.trans s3).trans (Kp.putObj _ _ (by omega) hl3 rfl)
     | .exit k, hp =>
      obtain ⟨hk, k3, i3⟩ := hp
      subst hk
      have hl3 := hgrow k3 (by omega) hl2 rfl
      have he := run_endRound (P := P) (some (.exit k)) hl3
      exact ⟨_, W3.putObj (D + 1) (.loop (rc .done (some (.exit k)))), by rw [he, hrc]; rfl, .inr ⟨rfl, hIx _ _ _ _ _ i3 (by omega) hl3 rfl, World.putObj_heap_same (Array.getElem?_eq_some_iff.1 hl3).1, (World.putObj_heap_other (by omega)).trans (hgrow k3 (Nat.le_refl _) hk2 rfl)⟩⟩
end Go.Proofs.YtkfodkbgmpbmfaaGreat
namespace Go.Proofs.YtkfodkbgmpbmfaaGreat
open Go.RowKit Go.Shelf
set_option linter.unusedVariables false
set_option linter.unusedSimpArgs false
set_option maxRecDepth 100000
attribute [local go_sem] Oper.semAt_some
@[reducible] def LnV (x : Ln) : Value := .agg #[.string x.name, .int .i64 x.ver, .int .i64 x.wr, .int .i64 x.flow]
def encsL (x : Nat × Ln) : Array Value := #[.int .i64 x.1, LnV x.2]
def uptoG {α : Type} (d : α) (ls : List α) (j : Nat) : List (Nat × α) := (List.range j).map (fun t => (t, (ls[t]?).getD d))
theorem uptoG_succ {α : Type} (d : α) (ls : List α) (j : Nat) : uptoG d ls (j + 1) = uptoG d ls j ++ [(j, (ls[j]?).getD d)] := by unfold uptoG; rw [List.range_succ]; simp
theorem uptoG_len {α : Type} (d : α) (ls : List α) (j : Nat) : (uptoG d ls j).length = j := by unfold uptoG; simp
theorem mem_uptoG {α : Type} {d : α} {ls : List α} {j i : Nat} (h : i < j) : (i, (ls[i]?).getD d) ∈ uptoG d ls j := List.mem_map.2 ⟨i, List.mem_range.2 h, rfl⟩
theorem Kp.cellV {D Bo Bw : Nat} {A C : World} (h : Kp D Bo Bw A C) {p : Addr} {v : Value} (hp : p.block < D) (h1 : p.block ≠ Bo) (h2 : p.block ≠ Bw) (hc : A.cell? p = some v) : C.cell? p = some v := by
 cases ho : A.heap[p.block]? with
 | none => unfold World.cell? at hc; rw [ho] at hc; simp at hc
 | some o =>
  have hcl : o.isCells = true := by unfold World.cell? at hc; rw [ho] at hc; cases o <;> simp_all [Obj.isCells]
  have := h.2.2 p.block o h1 h2 (.inl hp) ho hcl
  exact (World.cell?_of_block (this.trans ho.symm)).trans hc
def LiesV (D Bo Bw : Nat) (W W' : World) : Prop := ∀ (p : Addr) (v : Value), p.block < D → p.block ≠ Bo → p.block ≠ Bw → W.cell? p = some v → W'.cell? p = some v
theorem LiesV.below {D Bo Bw : Nat} {W A C : World} (h : LiesV D Bo Bw W A) (hb : Below A.heap.size A C) : LiesV D Bo Bw W C := fun p v h1 h2 h3 hc => by
 have h4 := h p v h1 h2 h3 hc
 exact (hb.cell (cell_lt h4)).trans h4
theorem LiesV.of_below {D Bo Bw : Nat} {W A : World} (hb : Below W.heap.size W A) : LiesV D Bo Bw W A := fun p v _ _ _ hc => (hb.cell (cell_lt hc)).trans hc
theorem LiesV.kp {D Bo Bw : Nat} {W A C : World} (h : LiesV D Bo Bw W A) (hk : Kp D Bo Bw A C) : LiesV D Bo Bw W C := fun p v h1 h2 h3 hc => hk.cellV h1 h2 h3 (h p v h1 h2 h3 hc)
theorem LiesV.ln {D Bo Bw : Nat} {W A : World} (h : LiesV D Bo Bw W A) {p : Addr} {x : Ln} (hh : ln4 W p x) (h1 : p.block < D) (h2 : p.block ≠ Bo) (h3 : p.block ≠ Bw) : ln4 A p x := by
 obtain ⟨q0, q1, q2, q3⟩ := hh
 exact ⟨h _ _ h1 h2 h3 q0, h ⟨p.block, _, none⟩ _ h1 h2 h3 q1, h ⟨p.block, _, none⟩ _ h1 h2 h3 q2, h ⟨p.block, _, none⟩ _ h1 h2 h3 q3⟩
set_option maxHeartbeats 8000000 in
theorem all_seq (k : Nat) (hk : 1 ≤ k) (B1 Bo Bw : Nat) (A : Option Addr) (n c : Nat) (ls : List Ln) (w : World) (hBo : Bo < w.heap.size) (hBw : Bw < w.heap.size)
    (h1 : w.cell? ⟨B1, 0, none⟩ = some (.slice A n c)) (d1 : B1 ≠ Bo ∧ B1 ≠ Bw) (hr : LnsAt w w.heap.size A n ls) (hne : ∀ ad, A = some ad → 0 < n → ad.block ≠ Bo ∧ ad.block ≠ Bw) (hm : n ≤ 1000) :
    Bg.SeqS k Tryz.prog 187 #[.pointer (some ⟨B1, 0, none⟩)] encsL Bo Bw n (fun ys => ys = uptoG Ln0 ls n) (fun pre => ∃ j, j < n ∧ pre = uptoG Ln0 ls (j + 1)) w := by
 intro l J Jx W hW hJr hJF hY h0
 have hB1 := cell_lt h1
 simp only [] at hB1
 have hws := hW.size
 have L0 : LiesV w.heap.size Bo Bw w W := LiesV.of_below hW
 have q1 := L0 _ _ hB1 d1.1 d1.2 h1
 have HR := Lib.hid hr; have HN := Lib.hid hne
 refine callsIn_of_wp Tryz.func187 rfl trivial ?_ rfl
 simp only [Tryz.ntmps187, List.size_toArray, List.length_cons, List.length_nil, Nat.reduceAdd, Nat.reduceSub, Array.replicate_succ, Array.replicate_zero, List.push_toArray, List.append_toArray, List.nil_append, List.cons_append]
 have HY := Lib.hid hY; have HJR := Lib.hid hJr; have HJF := Lib.hid hJF; have H0 := Lib.hid h0
 clear hY hJr hJF h0 h1 hr hne
 gi_wp2
 gi_loopw [7] (fun i W' => ∃ (j : Nat) (pre : List (Nat × Ln)), i = .int .i64 j ∧ j ≤ n ∧ pre = uptoG Ln0 ls j ∧ Hid (J pre W') ∧ Hid (LiesV w.heap.size Bo Bw w W')) (fun i _ => n - (intOf i).toNat)
 case atStart => exact ⟨0, [], rfl, Nat.zero_le _, rfl, H0, Lib.hid L0⟩
 case round =>
  obtain ⟨j, pre, rfl, hj, hpre, HJ, HLi⟩ := hrel
  clear L0 H0 q1
  have hsz0 : w.heap.size ≤ wr.heap.size := (HJR.out _ _ HJ.out).1
  by_cases hlt : j < n
  rotate_left
  · obtain rfl : j = n := by omega
    gi_wp2
    go_end0
    exact ⟨⟨_, rfl⟩, .inl ⟨pre, hpre, HJ.out⟩⟩
  · obtain ⟨ad, x, rfl, hab, hx, h4, hsz⟩ := HR.out.get hlt
    obtain ⟨P, hP⟩ : ∃ P, ad.add (j * 4) = P := ⟨_, rfl⟩
    have hPd : P.block ≠ Bo ∧ P.block ≠ Bw := by rw [← hP, block_of_add]; exact HN.out ad rfl (by omega)
    rw [hP] at h4 hab
    have hPw : P.block < wr.heap.size := by omega
    obtain ⟨c0, c1, c2, c3⟩ := HLi.out.ln h4 hab hPd.1 hPd.2
    clear h4 hab
    obtain ⟨xn, xv, xw, xf⟩ := x
    simp only [] at c0 c1 c2 c3
    have HX : Hid ((j, (ls[j]?).getD Ln0) = (j, (⟨xn, xv, xw, xf⟩ : Ln))) := Lib.hid (by rw [hx]; rfl)
    have hj9 := HJF.out _ _ (wr.alloc (Obj.cells #[.string xn, .int .i64 xv, .int .i64 xw, .int .i64 xf] 92)) HJ.out (Fr.alloc _)
    obtain ⟨fn', tm', as', bo', hy, hR'⟩ := HY.out pre (j, ⟨xn, xv, xw, xf⟩) _ hj9 (by rw [hpre, uptoG_len]; exact hlt)
    simp only [encsL, LnV] at hy
    have HRR := Lib.hid hR'
    clear hj9 hR' hx
    gi_wp2
    refine HRR.out.mono ?_
    rintro e' W3 (⟨rfl, hJ3, hK3⟩ | ⟨rfl, hJx3⟩)
    · have HJ3 := Lib.hid hJ3
      have HL3 := Lib.hid ((HLi.out.below ((Below.refl _ _).alloc (Nat.le_refl _) (Obj.cells #[.string xn, .int .i64 xv, .int .i64 xw, .int .i64 xf] 92))).kp hK3)
      clear hJ3 hK3
      gi_wp2
      go_roundw
      case rel => exact ⟨j + 1, pre ++ [(j, ⟨xn, xv, xw, xf⟩)], by go_num, by omega, by rw [uptoG_succ, hpre, HX.out], HJ3, HL3⟩
      case measure => simp [intOf]; omega
    · have HJ3 := Lib.hid hJx3
      clear hJx3
      gi_wp2
      refine bodyPost_ret (results_none rfl _ _ _) rfl ?_
      exact ⟨⟨_, rfl⟩, .inr ⟨pre ++ [(j, ⟨xn, xv, xw, xf⟩)], ⟨j, hlt, by rw [uptoG_succ, hpre, HX.out]⟩, HJ3.out⟩⟩
end Go.Proofs.YtkfodkbgmpbmfaaGreat
namespace Go.Proofs.YtkfodkbgmpbmfaaGreat
open Go.RowKit Go.Shelf
set_option linter.unusedVariables false
set_option linter.unusedSimpArgs false
set_option maxRecDepth 100000
attribute [local go_sem] Oper.semAt_some
theorem lay {P : Program} {c : Code} {Q : Exit → Act → World → Prop} {a : Act} {W : World} (C : World → Prop) (hC : C W) (h : ∀ W', C W' → c.wp P Q a W') : c.wp P Q a W := h W hC
theorem all_any (A : Option Addr) (n c : Nat) (w : World) :
    Calls Tryz.prog 159 #[.slice A n c] w fun e w' => e = .returned (.func (.func 187) #[] #[.pointer (some ⟨w.heap.size, 0, none⟩)]) ∧ w.alloc (Obj.cells #[.slice A n c] 57) = w' := by
 have hmf : ∀ (fn : Fn) (first cap : Array Value) (w : World), (Instr.makeFunc fn first cap).run Tryz.prog w = .ok (.func fn first cap) w := fun _ _ _ _ => rfl
 go_enter Tryz.func159, Tryz.ntmps159
 go_wp2
 go_ret
 exact ⟨rfl, rfl⟩
theorem lines_any (h : Hf) (w : World) :
    Calls Tryz.prog 123 #[HfV h] w fun e w' => e = .returned (.func (.func 187) #[] #[.pointer (some ⟨w.heap.size + 1, 0, none⟩)]) ∧ (w.alloc (Obj.cells #[.int .i64 h.peer, .int .i64 h.boot, .int .i64 h.life, .slice h.la h.ln h.lc, .bool h.pend, .int .i64 h.miss] 59)).alloc (Obj.cells #[.slice h.la h.ln h.lc] 57) = w' := by
 go_enter Tryz.func123, Tryz.ntmps123
 go_wp2_with (fail)
 refine (all_any _ _ _ _).mono ?_; rintro e w1 ⟨rfl, rfl⟩
 go_wp2
 go_ret
 exact ⟨by simp, rfl⟩
theorem below_putObjV {B l : Nat} (A : World) (o : Obj) (h : B ≤ l) : Below B A (A.putObj l o) :=
 ⟨rfl, rfl, rfl, Nat.le_of_eq (World.putObj_size ..).symm, fun b hb => World.putObj_heap_other (by omega)⟩
theorem cell_putObjV {A : World} {l : Nat} {o o' : Obj} {p : Addr} {v : Value} (ho : A.heap[l]? = some o) (hc : o.isCells = false) (h : A.cell? p = some v) : (A.putObj l o').cell? p = some v := by
 refine (World.cell?_of_block (World.putObj_heap_other (fun e => ?_))).trans h
 unfold World.cell? at h
 rw [e, ho] at h
 cases o <;> simp_all [Obj.isCells]
def SeekPost (ls : List Ln) (nm : ByteArray) (w : World) (e : Ending) (w' : World) : Prop := Below w.heap.size w w' ∧ ((∃ k x, e = .returned (.tuple #[.int .i64 (k : Nat), .bool true]) ∧ ls[k]? = some x ∧ getLn ls nm = x) ∨ (∃ k : Nat, e = .returned (.tuple #[.int .i64 k, .bool false]) ∧ getLn ls nm = Ln0))
def SkI (W0 : World) (nm : ByteArray) (pre : List (Nat × Ln)) (W : World) : Prop := Below W0.heap.size W0 W ∧ ∀ x ∈ pre, isL nm x.2 = false
def SkX (w : World) (nm : ByteArray) (D : Nat) (pre : List (Nat × Ln)) (W : World) : Prop :=
 Below w.heap.size w W ∧ D ≤ W.heap.size ∧ ∃ (p : List (Nat × Ln)) (x : Nat × Ln), pre = p ++ [x] ∧ (∀ y ∈ p, isL nm y.2 = false) ∧ W.cell? ⟨w.heap.size + 2, 0, none⟩ = some (.int .i64 x.1) ∧
  ((W.cell? ⟨w.heap.size + 3, 0, none⟩ = some (.bool true) ∧ isL nm x.2 = true) ∨ (W.cell? ⟨w.heap.size + 3, 0, none⟩ = some (.bool false) ∧ isL nm x.2 = false ∧ ltN nm x.2.name = true))
theorem SkX.put {w A : World} {nm : ByteArray} {D : Nat} {pre : List (Nat × Ln)} {l : Nat} {o o' : Obj} (h : SkX w nm D pre A) (hw : w.heap.size ≤ D) (hl : D ≤ l) (ho : A.heap[l]? = some o) (hc : o.isCells = false) : SkX w nm D pre (A.putObj l o') := by
 obtain ⟨h1, h2, p, x, h3, h4, h5, h6⟩ := h
 exact ⟨h1.trans (below_putObjV _ _ (by omega)), by rw [World.putObj_size]; exact h2, p, x, h3, h4, cell_putObjV ho hc h5, h6.imp (fun q => ⟨cell_putObjV ho hc q.1, q.2⟩) (fun q => ⟨cell_putObjV ho hc q.1, q.2⟩)⟩
theorem postE_exit {α : Type} {ex B D Bo Bw : Nat} {I Ix : List α → World → Prop} {xs : List α} {W W' : World} {a : Act} (h1 : KeepsFrom B W W') (h2 : Ix xs W') : postE ex B D Bo Bw I Ix xs W (.exit ex) a W' := ⟨rfl, h1, h2⟩
theorem ko_setV {W W' : World} (h : KeepsOthers W W') (p : Addr) (v : Value) : KeepsOthers W (W'.setCell p v) := h.trans (KeepsOthers.setCell _ _ _)
theorem uptoG_next {α : Type} {d : α} {ls : List α} {j : Nat} {pre : List (Nat × α)} {x : Nat × α} (hj : j < ls.length) (h : pre ++ [x] = uptoG d ls (j + 1)) : pre = uptoG d ls j ∧ ls[x.1]? = some x.2 ∧ x.1 = j := by
 rw [uptoG_succ] at h
 have h1 := List.append_inj_left' h rfl
 have h2 := List.append_inj_right' h rfl
 simp only [List.cons.injEq, and_true] at h2
 subst h2
 exact ⟨h1, by simp [List.getElem?_eq_getElem hj], rfl⟩
set_option maxHeartbeats 2000000 in
theorem seek_any (h : Hf) (nm : ByteArray) (w : World) (hl : LnsAt w w.heap.size h.la h.ln h.lines) (hp : h.lines.Pairwise (fun a b => ltN a.name b.name = true)) (hm : h.ln ≤ 1000) :
    Calls Tryz.prog 87 #[HfV h, .string nm] w (SeekPost h.lines nm w) := by
 obtain ⟨pe, bo, li, la, n, lc, pd, mi, ls⟩ := h
 simp only [] at hl hm hp ⊢
 have HR := Lib.hid hl
 have HP := Lib.hid hp
 clear hl hp
 have hmx : Tryz.prog.follows .mixedOrders = true := by kernel_rfl
 refine (callsIn_wide (n := 6)).1 ?_
 refine callsIn_of_wp_marks Tryz.func87 rfl trivial ?_ rfl
 simp only [Tryz.ntmps87, List.size_toArray, List.length_cons, List.length_nil, Nat.reduceAdd, Nat.reduceSub, Array.replicate_succ, Array.replicate_zero, List.push_toArray, List.append_toArray, List.nil_append, List.cons_append]
 refine wpIn_wide.2 ?_
 go_wp2_with (fail)
 go_step3
 go_wp2_with (fail)
 go_step3
 go_wp2_with (fail)
 refine (lines_any ⟨pe, bo, li, la, n, lc, pd, mi, ls⟩ _).mono ?_; rintro e w1 ⟨rfl, rfl⟩
 go_wp2
 refine lay (fun W => W.heap.size = w.heap.size + 6 ∧ KeptC w [(⟨w.heap.size + 1, 0, none⟩, .string nm), (⟨w.heap.size + 2, 0, none⟩, .int .i64 n), (⟨w.heap.size + 3, 0, none⟩, .bool false), (⟨w.heap.size + 5, 0, none⟩, .slice la n lc)] [⟨w.heap.size + 2, 0, none⟩, ⟨w.heap.size + 3, 0, none⟩] W) ⟨by simp, Qk⟩ ?_
 rintro W0 ⟨hz, hK⟩
 simp only [KeptC, List.forall_mem_cons] at hK; obtain ⟨kb0, ⟨kc0_0, kc0_1, kc0_2, kc0_3, _⟩, ⟨kz0_0, kg0_0⟩, ⟨kz0_1, kg0_1⟩, _⟩ := hK
 have hr0 := (HR.out.below kb0).more kb0.size
 have HR0 := Lib.hid hr0
 have hda : ∀ ad, la = some ad → 0 < n → ad.block ≠ w.heap.size + 1 ∧ ad.block ≠ w.heap.size + 1 := fun ad ea hn0 => by
  obtain ⟨ad2, e2, hb2, _⟩ := HR.out.1.2 hn0
  obtain rfl : ad = ad2 := by rw [ea] at e2; exact Option.some.inj e2
  exact ⟨by omega, by omega⟩
 have HDA := Lib.hid hda
 clear hr0 hda
 have hrb : ∀ A, W0.heap.size ≤ A.heap.size → Below W0.heap.size W0 A → rowB (w.heap.size + 1) A = none := fun A _ hA => by
  unfold rowB
  rw [(hA.cell (p := ⟨w.heap.size + 1, 0, none⟩) (by show w.heap.size + 1 < _; omega)).trans kc0_0]
  rfl
 refine (wpIn_wide (n := 6)).1 ?_
 refine wpIn_range_e 0 (by omega) (gf := 187) (lb := #[.pointer (some ⟨w.heap.size + 5, 0, none⟩)]) rfl (enters_of Tryz.func187 (by kernel_rfl) rfl)
  (encs := encsL) (Bo := w.heap.size + 1) (Bw := w.heap.size + 1) (by omega) (all_seq 5 (by omega) (w.heap.size + 5) (w.heap.size + 1) (w.heap.size + 1) la n lc ls W0 (by omega) (by omega) kc0_3 ⟨by omega, by omega⟩ (by have := HR0.out; exact this.more (by omega)) HDA.out hm) (fun _ => rfl)
  (SkI W0 nm) (SkX w nm W0.heap.size) (fun _ A h => ⟨h.1.size, fun r hr => by rw [hrb A h.1.size h.1] at hr; cases hr⟩) (fun _ A C h hf => ⟨h.1.trans ⟨hf.2.2.1, hf.2.2.2.1, hf.2.2.2.2, hf.1, fun b hb => hf.2.1 b (Nat.lt_of_lt_of_le hb h.1.size) (.inl hb)⟩, h.2⟩)
  (fun _ _ _ _ _ h hl ho hc => h.put (by omega) hl ho hc) ⟨Below.refl _ _, fun x hx => by cases hx⟩
  (fun x a' W => ∃ Bx, W0.heap.size ≤ Bx ∧ W.cell? ⟨Bx, 0, none⟩ = some (.string x.2.name) ∧
   a' = { tmps := #[HfV ⟨pe, bo, li, la, n, lc, pd, mi, ls⟩, .string nm, .pointer (some ⟨w.heap.size, 0, none⟩), .pointer (some ⟨w.heap.size + 1, 0, none⟩), .int .i64 0, .bool false, .pointer (some ⟨w.heap.size + 1 + 1, 0, none⟩), .pointer (some ⟨w.heap.size + 1 + 1 + 1, 0, none⟩), .int .i64 x.1, .pointer (some ⟨Bx, 0, none⟩), .pointer (some ⟨w.heap.size, 3, none⟩), .slice la n lc, .int .i64 n, HfV ⟨pe, bo, li, la, n, lc, pd, mi, ls⟩, .func (.func 187) #[] #[.pointer (some ⟨w.heap.size + 1 + 1 + 1 + 1 + 1, 0, none⟩)], .int .i64 x.1, LnV x.2, undef, undef, undef, undef, undef, undef, undef, undef, undef, undef, undef, undef, undef, undef], defers := [] })
  (fun x a' A l o o' hx ho hc => by
   obtain ⟨Bx, h1, h2, h6⟩ := hx
   exact ⟨Bx, h1, cell_putObjV ho hc h2, h6⟩) ?assign ?body ?done ?stop
 all_goals clear hrb
 case assign =>
  intro l pre x W K hl hI hK
  unfold encsL
  obtain ⟨xi, xn, xv, xw, xf⟩ := x
  have hIs := hI.1.size
  gi_wp2
  refine hK _ _ ((KeepsOthers.alloc _ _).from _) (Kp.below ((Below.refl _ _).alloc (Nat.le_refl _) _) (by omega)) ⟨hI.1.alloc hIs _, hI.2⟩ ⟨W.heap.size, hIs, by go_simp, rfl⟩
 case body =>
  intro l pre x a' W hl hlen hI hx
  obtain ⟨Bx, hx0, x0, rfl⟩ := hx
  obtain ⟨hIb, hIp⟩ := hI
  have hIs := hIb.size
  have hI0 : Below w.heap.size w W := kb0.trans (hIb.mono (by omega))
  have g0 := (hIb.cell (p := ⟨w.heap.size + 1, 0, none⟩) (by show w.heap.size + 1 < _; omega)).trans kc0_0
  have e1 := (hIb.cell (p := ⟨w.heap.size + 2, 0, none⟩) (by show w.heap.size + 2 < _; omega)).trans kc0_1
  have g1 := (hIb.frozen (p := ⟨w.heap.size + 2, 0, none⟩) (by show w.heap.size + 2 < _; omega)).trans kg0_0
  have e2 := (hIb.cell (p := ⟨w.heap.size + 3, 0, none⟩) (by show w.heap.size + 3 < _; omega)).trans kc0_2
  have g2 := (hIb.frozen (p := ⟨w.heap.size + 3, 0, none⟩) (by show w.heap.size + 3 < _; omega)).trans kg0_1
  obtain ⟨xi, xn, xv, xw, xf⟩ := x
  simp only [] at x0
  have hbl := cell_lt x0
  simp only [] at hbl
  have HIP := Lib.hid hIp
  have HKO : ∀ (a : Value) (b : Value), KeepsOthers W ((W.setCell ⟨w.heap.size + 1 + 1, 0, none⟩ a).setCell ⟨w.heap.size + 1 + 1 + 1, 0, none⟩ b) := fun a b => ko_setV (KeepsOthers.setCell _ _ _) _ _
  have HKP : ∀ (a : Value), KeepsOthers W (W.setCell ⟨w.heap.size + 1 + 1, 0, none⟩ a) := fun a => KeepsOthers.setCell _ _ _
  have HLEN := Lib.hid hlen
  cases he : (xn.toList == nm.toList) with
  | true =>
   gi_wp2
   refine postE_exit ((HKO _ _).from _) ⟨(Qb1 hI0), by simp; omega, pre, (xi, ⟨xn, xv, xw, xf⟩), rfl, HIP.out, by go_simp, .inl ⟨by go_simp, he⟩⟩
  | false =>
   cases hg : Op.bytesLess xn.toList nm.toList with
   | false =>
    gi_wp2
    refine postE_exit ((HKP _).from _) ⟨(Qb1 hI0), by simp; omega, pre, (xi, ⟨xn, xv, xw, xf⟩), rfl, HIP.out, by go_simp, .inr ⟨by go_simp, he, ?_⟩⟩
    cases h9 : ltN nm xn with
    | true => rfl
    | false => have h8 := ltN_total (a := xn) (b := nm) hg h9; have h7 : eqN xn nm = false := he; rw [h7] at h8; cases h8
   | true =>
    gi_wp2
    exact ⟨(KeepsOthers.refl _).from _, Kp.refl _ _ _ _, hIb, fun y hy => (List.mem_append.1 hy).elim (HIP.out y) (fun h => by rw [List.mem_singleton] at h; subst h; exact he)⟩
 case done =>
  intro D ys W hDw hS hI hDd
  subst hS
  obtain ⟨hIb, hIp⟩ := hI
  have hIs := hIb.size
  have hI0 : Below w.heap.size w W := kb0.trans (hIb.mono (by omega))
  have e1 := (hIb.cell (p := ⟨w.heap.size + 2, 0, none⟩) (by show w.heap.size + 2 < _; omega)).trans kc0_1
  have e2 := (hIb.cell (p := ⟨w.heap.size + 3, 0, none⟩) (by show w.heap.size + 3 < _; omega)).trans kc0_2
  have HN : Hid (getLn ls nm = Ln0) := Lib.hid (getLn_miss (fun t y hy => by
   have ht := (List.getElem?_eq_some_iff.1 hy).1
   have := hIp (t, y) (by have h2 := mem_uptoG (d := Ln0) (ls := ls) (i := t) (j := n) (by have := HR.out.1.1; omega); rwa [hy] at h2)
   exact this))
  clear hIp
  simp only [Exit.inBlock, Exit.then]
  go_wp2
  go_quiet (fail)
  go_wp2
  refine ⟨by simp, .inl ⟨_, _, rfl, run_takeDeferred (b := D) (w := W.drewN nq) hDd, ?_⟩⟩
  exact ⟨.tuple #[.int .i64 n, .bool false], by simp [results, Tryz.results87, go_sem, *], (hI0.trans (below_drewN (Below.refl _ _) nq)).trans (below_putObjV _ _ (by omega)), .inr ⟨n, rfl, HN.out⟩⟩
 case stop =>
  intro D pre W hDw hS hI hDd
  obtain ⟨hI0, hI1, p, ⟨k, x⟩, hpx, hpn, q1, h3⟩ := hI
  obtain ⟨j, hj, hpre⟩ := hS
  have hlen := HR.out.1.1
  obtain ⟨hpj, hxj, rfl⟩ := uptoG_next (d := Ln0) (ls := ls) (j := j) (by omega) (hpx.symm.trans hpre)
  simp only [] at hxj q1 h3 hpj
  have hbf : ∀ (t : Nat) y, t < k → ls[t]? = some y → isL nm y = false := fun t y ht hy => by
   have h2 := mem_uptoG (d := Ln0) (ls := ls) ht
   rw [hy, ← hpj] at h2
   exact hpn _ h2
  have h4 : (W.cell? ⟨w.heap.size + 3, 0, none⟩ = some (.bool true) ∧ getLn ls nm = x) ∨ (W.cell? ⟨w.heap.size + 3, 0, none⟩ = some (.bool false) ∧ getLn ls nm = Ln0) := h3.imp (fun q => ⟨q.1, getLn_hit hxj q.2 hbf⟩) (fun q => ⟨q.1, getLn_miss (isL_past HP.out hxj q.2.2 hbf)⟩)
  have HXJ := Lib.hid hxj
  clear h3 hbf hpn hpx hpj hxj hpre hlen
  simp only [Exit.inBlock, Exit.then]
  gi_wp2
  rcases h4 with ⟨q2, q4⟩ | ⟨q2, q3⟩
  · have HQ4 := Lib.hid q4
    clear q4
    go_wp2
    go_quiet (fail)
    go_wp2
    refine ⟨by simp, .inl ⟨_, _, rfl, run_takeDeferred (b := D) (w := W.drewN nq) hDd, ?_⟩⟩
    exact ⟨.tuple #[.int .i64 k, .bool true], by simp [results, Tryz.results87, go_sem, *], (hI0.trans (below_drewN (Below.refl _ _) nq)).trans (below_putObjV _ _ (by omega)), .inl ⟨k, x, rfl, HXJ.out, HQ4.out⟩⟩
  · have HQ3 := Lib.hid q3
    clear q3
    go_wp2
    go_quiet (fail)
    go_wp2
    refine ⟨by simp, .inl ⟨_, _, rfl, run_takeDeferred (b := D) (w := W.drewN nq) hDd, ?_⟩⟩
    exact ⟨.tuple #[.int .i64 k, .bool false], by simp [results, Tryz.results87, go_sem, *], (hI0.trans (below_drewN (Below.refl _ _) nq)).trans (below_putObjV _ _ (by omega)), .inr ⟨k, rfl, HQ3.out⟩⟩
end Go.Proofs.YtkfodkbgmpbmfaaGreat
namespace Go.Proofs.YtkfodkbgmpbmfaaGreat
open Go.RowKit
set_option linter.unusedVariables false
set_option linter.unusedSimpArgs false
set_option maxRecDepth 100000
set_option maxHeartbeats 4000000 in
theorem reg_any (h : Hf) (nm : ByteArray) (w : World) (hl : LnsAt w w.heap.size h.la h.ln h.lines) (hp : h.lines.Pairwise (fun a b => ltN a.name b.name = true)) (hm : h.ln ≤ 1000) :
    Calls Tryz.prog 50 #[HfV h, .string nm] w fun e w' => e = .returned (RgV (getLn h.lines nm)) ∧ Below w.heap.size w w' := by
 have HL := Lib.hid hl
 have C := Lib.hid (fun W (hb : Below w.heap.size w W) => seek_any h nm W ((hl.below hb).more hb.size) hp hm)
 obtain ⟨pe, bo, li, la, n, lc, pd, mi, ls⟩ := h
 clear hl hp
 simp only [] at hm ⊢
 go_enter Tryz.func50, Tryz.ntmps50
 go_wp2_with (fail)
 refine (C.out _ Qb).mono ?_; rintro e w1 ⟨hb1, hse⟩
 have hk1 : KeptC w [(⟨w.heap.size, 3, none⟩, .slice la n lc), (⟨w.heap.size + 1, 0, none⟩, .int .i64 0), (⟨w.heap.size + 1, 1, none⟩, .int .i64 0), (⟨w.heap.size + 1, 2, none⟩, .int .i64 0)] [⟨w.heap.size + 1, 0, none⟩, ⟨w.heap.size + 1, 1, none⟩, ⟨w.heap.size + 1, 2, none⟩] w1 := by
  refine KeptC.below ?_ hb1
  exact Qk
 simp only [KeptC, List.forall_mem_cons] at hk1; obtain ⟨kb1, ⟨kc1_0, kc1_1, kc1_2, kc1_3, _⟩, ⟨kz1_0, kg1_0⟩, ⟨kz1_1, kg1_1⟩, ⟨kz1_2, kg1_2⟩, _⟩ := hk1
 have hz1 := hb1.size
 simp at hz1
 have q0 : w.heap.size < w1.heap.size := by omega
 have q1 : w.heap.size + 1 < w1.heap.size := by omega
 have hbw : Below w.heap.size w w1 := (Qb1 hb1)
 rcases hse with ⟨k, x, rfl, hx, hg⟩ | ⟨k, rfl, hg⟩
 · obtain ⟨ad, x2, rfl, hab, hx2, h4, hsz⟩ := HL.out.get (k := k) (by have h1 := HL.out.1.1; have h2 := (List.getElem?_eq_some_iff.1 hx).1; exact Nat.lt_of_lt_of_eq h2 h1)
   try simp only [] at hx hx2 hg hab
   obtain rfl := Option.some.inj (hx.symm.trans hx2)
   obtain ⟨P, hP⟩ : ∃ P, ad.add (k * 4) = P := ⟨_, rfl⟩
   rw [hP] at h4 hab
   obtain ⟨c0, c1, c2, c3⟩ := h4.below hab hbw
   clear h4
   have hPw : P.block < w1.heap.size := by omega
   have hkn : k < n := by have h1 := HL.out.1.1; have h2 := (List.getElem?_eq_some_iff.1 hx).1; exact Nat.lt_of_lt_of_eq h2 h1
   have HG := Lib.hid hg
   clear hx hx2 hg
   go_wp2
   refine bodyPost_ret (v := RgV x) (by simp [results, Tryz.results50, go_sem, *]) rfl ⟨by rw [HG.out], (Qb1 hb1)⟩
 · have HG := Lib.hid hg
   clear hg
   go_wp2
   refine bodyPost_ret (v := RgV Ln0) (by simp [results, Tryz.results50, go_sem, *]) rfl ⟨by rw [HG.out], (Qb1 hb1)⟩
set_option maxHeartbeats 4000000 in
theorem hplace_any (A : Option Addr) (n cp : Nat) (hs : List Hf) (p : Int) (w : World) (hr : HfsAt w w.heap.size A n hs) (hp : hs.Pairwise (fun a b => a.peer < b.peer)) (hm : n ≤ 1000) (hl : ∀ h ∈ hs, 0 ≤ h.peer ∧ h.peer < 16) (p0 : 0 ≤ p) (p1 : p < 16) :
    Calls Tryz.prog 155 #[.slice A n cp, .int .i64 p] w fun e w' => BsPost hs p w w' e := by
 have C := Lib.hid (fun W (hb : Below w.heap.size w W) => bsearch_any A n cp hs p W ((hr.below hb).more hb.size) hp hm hl p0 p1)
 clear hr hp hl
 go_enter Tryz.func155, Tryz.ntmps155
 go_wp2_with (fail)
 refine (C.out _ Qb).mono ?_; rintro e w1 (⟨k, x, rfl, hx, hg, hb1⟩ | ⟨k, rfl, hg, hb1⟩)
 · have HX := Lib.hid hx
   have HG := Lib.hid hg
   clear hx hg
   go_wp2
   go_ret2
   exact .inl ⟨k, x, rfl, HX.out, HG.out, (Qb1 hb1)⟩
 · have HG := Lib.hid hg
   clear hg
   go_wp2
   go_ret2
   exact .inr ⟨k, rfl, HG.out, (Qb1 hb1)⟩
set_option maxHeartbeats 4000000 in
theorem hfind_any (A : Option Addr) (n cp : Nat) (hs : List Hf) (p : Int) (w : World) (hr : HfsAt w w.heap.size A n hs) (hp : hs.Pairwise (fun a b => a.peer < b.peer)) (hm : n ≤ 1000) (hl : ∀ h ∈ hs, h.ln ≤ 1000) (hq : ∀ h ∈ hs, 0 ≤ h.peer ∧ h.peer < 16) (p0 : 0 ≤ p) (p1 : p < 16) :
    Calls Tryz.prog 121 #[.slice A n cp, .int .i64 p] w fun e w' => FoundH (getH hs p) w w' e := by
 have HR := Lib.hid hr
 have HP := Lib.hid hp
 have HL := Lib.hid hl
 have CP := Lib.hid (fun W (hb : Below w.heap.size w W) => hplace_any A n cp hs p W ((hr.below hb).more hb.size) hp hm hq p0 p1)
 clear hr hp hl hq
 go_enter Tryz.func121, Tryz.ntmps121
 go_wp2_with (fail)
 refine (CP.out _ Qb).mono ?_; rintro e w1 (⟨k, x, rfl, hx, hg, hb1⟩ | ⟨k, rfl, hg, hb1⟩)
 · skip
   have hk1 : KeptC w [(⟨w.heap.size, 0, none⟩, .int .i64 0), (⟨w.heap.size, 1, none⟩, .int .i64 0), (⟨w.heap.size, 2, none⟩, .int .i64 0), (⟨w.heap.size, 3, none⟩, .slice none 0 0), (⟨w.heap.size, 4, none⟩, .bool false), (⟨w.heap.size, 5, none⟩, .int .i64 0)] [⟨w.heap.size, 0, none⟩, ⟨w.heap.size, 1, none⟩, ⟨w.heap.size, 2, none⟩, ⟨w.heap.size, 3, none⟩, ⟨w.heap.size, 4, none⟩, ⟨w.heap.size, 5, none⟩] w1 := by
    refine KeptC.below ?_ hb1
    exact Qk
   simp only [KeptC, List.forall_mem_cons] at hk1; obtain ⟨kb1, ⟨kc1_0, kc1_1, kc1_2, kc1_3, kc1_4, kc1_5, _⟩, ⟨kz1_0, kg1_0⟩, ⟨kz1_1, kg1_1⟩, ⟨kz1_2, kg1_2⟩, ⟨kz1_3, kg1_3⟩, ⟨kz1_4, kg1_4⟩, ⟨kz1_5, kg1_5⟩, _⟩ := hk1
   have hz1 := hb1.size
   simp at hz1
   have q0 : w.heap.size < w1.heap.size := by omega
   have hbw : Below w.heap.size w w1 := (Qb1 hb1)
   have hkn : k < n := by have := HR.out.1.1; have := (List.getElem?_eq_some_iff.1 hx).1; omega
   obtain ⟨ad, x2, rfl, hab, hx2, h6, hln⟩ := Hfs_get HR.out hkn
   obtain rfl := Option.some.inj (hx.symm.trans hx2)
   obtain ⟨P, hP⟩ : ∃ P, ad.add (k * 6) = P := ⟨_, rfl⟩
   rw [hP] at h6 hab
   obtain ⟨c0, c1, c2, c3, c4, c5⟩ := h6.below hab hbw
   clear h6
   have hPw : P.block < w1.heap.size := by omega
   have C := Lib.hid (fun W (hb : Below w.heap.size w W) => one_any x W ((hln.below hb).more hb.size) (HL.out x (List.mem_of_getElem? hx)))
   have HG : Hid (getH hs p = some x) := Lib.hid (getH_hit' HP.out hx hg)
   clear hx hx2 hln hg
   go_wp2_with (fail)
   refine (C.out _ (Qb1 hbw)).mono ?_; rintro e w2 ⟨A2, c2, rfl, hl2, hb2⟩; obtain ⟨hcc2, hff2⟩ := bcell hb2
   have hz2 := hb2.size
   obtain ⟨B4, hB4, hl3⟩ : ∃ B4, w.heap.size < B4 ∧ OwnE encLn 4 92 w2 B4 (.slice A2 x.ln c2) x.lines := ⟨_, by omega, hl2⟩
   have HO := Lib.hid hl3
   clear hl2 hl3
   go_wp2
   refine bodyPost_ret (v := .tuple #[HfV { x with la := A2, lc := c2 }, .bool true]) (by simp [results, Tryz.results121, go_sem, *]) rfl ?_
   rw [HG.out]
   refine ⟨A2, c2, rfl, ?_, (Qb2 hb2 hb1)⟩
   refine OwnE.less (base := B4) ?_ (by omega)
   repeat refine OwnE.setc' ?_ (by first | (simp; done) | (simp; omega) | omega) _
   exact HO.out
 · have HG := Lib.hid hg
   have hk1 : KeptC w [(⟨w.heap.size, 0, none⟩, .int .i64 0), (⟨w.heap.size, 1, none⟩, .int .i64 0), (⟨w.heap.size, 2, none⟩, .int .i64 0), (⟨w.heap.size, 3, none⟩, .slice none 0 0), (⟨w.heap.size, 4, none⟩, .bool false), (⟨w.heap.size, 5, none⟩, .int .i64 0)] [⟨w.heap.size, 0, none⟩, ⟨w.heap.size, 1, none⟩, ⟨w.heap.size, 2, none⟩, ⟨w.heap.size, 3, none⟩, ⟨w.heap.size, 4, none⟩, ⟨w.heap.size, 5, none⟩] w1 := by
    refine KeptC.below ?_ hb1
    exact Qk
   simp only [KeptC, List.forall_mem_cons] at hk1; obtain ⟨kb1, ⟨kc1_0, kc1_1, kc1_2, kc1_3, kc1_4, kc1_5, _⟩, ⟨kz1_0, kg1_0⟩, ⟨kz1_1, kg1_1⟩, ⟨kz1_2, kg1_2⟩, ⟨kz1_3, kg1_3⟩, ⟨kz1_4, kg1_4⟩, ⟨kz1_5, kg1_5⟩, _⟩ := hk1
   have hz1 := hb1.size
   simp at hz1
   have q0 : w.heap.size < w1.heap.size := by omega
   clear hg
   go_wp2
   refine bodyPost_ret (v := .tuple #[HfV Hf0, .bool false]) (by simp [results, Tryz.results121, go_sem, *]) rfl ?_
   rw [HG.out]
   exact ⟨rfl, (Qb1 hb1)⟩
end Go.Proofs.YtkfodkbgmpbmfaaGreat
