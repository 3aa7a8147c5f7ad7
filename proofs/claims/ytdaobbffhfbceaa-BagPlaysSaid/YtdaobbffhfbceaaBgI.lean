/- The packets of a bag, handed out one by one; the search for a number. -/
import Derived.Test.YtdaobbffhfbceaaBgA
import Derived.Test.YtdaobbffhfbceaaRngS
import Derived.Test.YtdaobbffhfbceaaQuietI
namespace Go.Proofs.Ytdaobbffhfbceaa
open Go.RowKit Go.Shelf
set_option linter.unusedVariables false
set_option linter.unusedSimpArgs false
set_option maxRecDepth 100000
theorem Kp.cell {D Bo Bw : Nat} {A C : World} (h : Kp D Bo Bw A C) {p : Addr} {v : Value} (hp : p.block < D) (h1 : p.block ≠ Bo) (h2 : p.block ≠ Bw) (hc : A.cell? p = some v) : C.cell? p = some v := by
  cases ho : A.heap[p.block]? with
  | none => unfold World.cell? at hc; rw [ho] at hc; simp at hc
  | some o =>
    have hcl : o.isCells = true := by unfold World.cell? at hc; rw [ho] at hc; cases o <;> simp_all [Obj.isCells]
    have := h.2.2 p.block o h1 h2 (.inl hp) ho hcl
    exact (World.cell?_of_block (this.trans ho.symm)).trans hc
/-- Whatever cells lay below D lie on, but for two boxes. -/
def Lies (D Bo Bw : Nat) (W W' : World) : Prop := ∀ (p : Addr) (v : Value), p.block < D → p.block ≠ Bo → p.block ≠ Bw → W.cell? p = some v → W'.cell? p = some v
theorem Lies.below {D Bo Bw : Nat} {W A C : World} (h : Lies D Bo Bw W A) (hb : Below A.heap.size A C) : Lies D Bo Bw W C := fun p v h1 h2 h3 hc => by
  have h4 := h p v h1 h2 h3 hc
  exact (hb.cell (cell_lt h4)).trans h4
theorem Lies.of_below {D Bo Bw : Nat} {W A : World} (hb : Below W.heap.size W A) : Lies D Bo Bw W A := fun p v _ _ _ hc => (hb.cell (cell_lt hc)).trans hc
theorem Lies.kp {D Bo Bw : Nat} {W A C : World} (h : Lies D Bo Bw W A) (hk : Kp D Bo Bw A C) : Lies D Bo Bw W C := fun p v h1 h2 h3 hc => hk.cell h1 h2 h3 (h p v h1 h2 h3 hc)
def encsF (x : Nat × Dg) : Array Value := #[.int .i64 x.1, dAgg x.2]
def upto (ls : List Dg) (j : Nat) : List (Nat × Dg) := (List.range j).map (fun t => (t, (ls[t]?).getD Dg0))
theorem upto_succ (ls : List Dg) (j : Nat) : upto ls (j + 1) = upto ls j ++ [(j, (ls[j]?).getD Dg0)] := by unfold upto; rw [List.range_succ]; simp
theorem upto_len (ls : List Dg) (j : Nat) : (upto ls j).length = j := by unfold upto; simp
theorem upto_mem {ls : List Dg} {j : Nat} {x : Nat × Dg} (h : x ∈ upto ls j) : x.1 < j ∧ x.2 = (ls[x.1]?).getD Dg0 := by
  unfold upto at h
  obtain ⟨t, ht, rfl⟩ := List.mem_map.1 h
  exact ⟨List.mem_range.1 ht, rfl⟩
theorem mem_upto {ls : List Dg} {j i : Nat} (h : i < j) : (i, (ls[i]?).getD Dg0) ∈ upto ls j := List.mem_map.2 ⟨i, List.mem_range.2 h, rfl⟩
/-- What a bag's list needs to be read, whatever else turns. -/
structure BagR (w : World) (D Bo Bw Bb : Nat) (lv : Value) (ls : List Dg) : Prop where
  cells : ∃ A c, lv = .slice A ls.length c ∧ RowsE encD 4 w D A ls.length ls ∧ ∀ ad, A = some ad → 0 < ls.length → ad.block ≠ Bo ∧ ad.block ≠ Bw
  c0 : w.cell? ⟨Bb, 0, none⟩ = some (.bool true)
  c2 : w.cell? ⟨Bb, 2, none⟩ = some lv
  len : ls.length ≤ 65536
  ltB : Bb < D
  neB : Bb ≠ Bo ∧ Bb ≠ Bw
theorem BagAt.rows {w : World} {Bb bm : Nat} {lv : Value} {s : BS} (h : BagAt w Bb bm lv s) : ∃ A c, lv = .slice A s.ls.length c ∧ RowsE encD 4 w w.heap.size A s.ls.length s.ls := OwnE.at_ encD_len h.row
theorem BagAt.reads {w : World} {Bb bm : Nat} {lv : Value} {s : BS} (h : BagAt w Bb bm lv s) {Bo Bw : Nat} (hF : ∀ b ∈ foot Bb bm lv, b ≠ Bo ∧ b ≠ Bw) : BagR w w.heap.size Bo Bw Bb lv s.ls := by
  obtain ⟨A, c, rfl, hr⟩ := h.rows
  refine ⟨⟨A, c, rfl, hr, fun ad ea h0 => hF _ ?_⟩, h.c0, h.c2, h.ok.len, cell_lt h.c0, hF _ (by simp [foot])⟩
  subst ea
  simp [foot, Value.ownBlock]
theorem flying_any (p : Option Addr) (w : World) :
    Calls Try.prog 29 #[.pointer p] w fun e w' => e = .returned (.func (.func 44) #[] #[.pointer (some ⟨w.heap.size, 0, none⟩)]) ∧ w.alloc (Obj.cells #[.pointer p] 23) = w' := by
  go_enter Try.func29, Try.ntmps29
  go_wp2
  go_ret
  exact ⟨rfl, rfl⟩
set_option maxHeartbeats 8000000 in
theorem flying_seq (k : Nat) (hk : 1 ≤ k) (B1 Bo Bw Bb : Nat) (lv : Value) (ls : List Dg) (w : World) (hBo : Bo < w.heap.size) (hBw : Bw < w.heap.size)
    (h1 : w.cell? ⟨B1, 0, none⟩ = some (.pointer (some ⟨Bb, 0, none⟩))) (d1 : B1 ≠ Bo ∧ B1 ≠ Bw) (hr : BagR w w.heap.size Bo Bw Bb lv ls) :
    SeqS k Try.prog 44 #[.pointer (some ⟨B1, 0, none⟩)] encsF Bo Bw ls.length (fun ys => ys = upto ls ls.length) (fun pre => ∃ j, j < ls.length ∧ pre = upto ls (j + 1)) w := by
  intro l J Jx W hW hJr hJF hY h0
  have hB1 := cell_lt h1
  simp only [] at hB1
  have hws := hW.size
  have L0 : Lies w.heap.size Bo Bw w W := Lies.of_below hW
  obtain ⟨⟨A, c, rfl, hrow, hne⟩, c0, c2, hlen, hltB, hneB⟩ := hr
  have q1 := L0 _ _ hB1 d1.1 d1.2 h1
  have q2 := L0 ⟨Bb, 0, none⟩ _ hltB hneB.1 hneB.2 c0
  have q3 := L0 ⟨Bb, 2, none⟩ _ hltB hneB.1 hneB.2 c2
  have HR := Lib.hid hrow; have HN := Lib.hid hne
  obtain ⟨n, hn⟩ : ∃ n, ls.length = n := ⟨_, rfl⟩
  rw [hn] at HR HN hlen q3 hY ⊢
  refine callsIn_of_wp Try.func44 rfl trivial ?_ rfl
  simp only [Try.ntmps44, List.size_toArray, List.length_cons, List.length_nil, Nat.reduceAdd, Nat.reduceSub, Array.replicate_succ, Array.replicate_zero, List.push_toArray, List.append_toArray, List.nil_append, List.cons_append]
  have HY := Lib.hid hY; have HJR := Lib.hid hJr; have HJF := Lib.hid hJF; have H0 := Lib.hid h0
  have HNN := Lib.hid hn
  clear hY hJr hJF h0 h1 c0 c2 hrow hne hn
  gi_wp2_with (fail)
  refine ⟨trivial, ?_⟩
  refine (callsIn_wide.2 (there_any Bb W q2)).mono ?_; rintro e w1 ⟨rfl, rfl⟩
  gi_wp2
  gi_loopw [13] (fun i W' => ∃ (j : Nat) (pre : List (Nat × Dg)), i = .int .i64 j ∧ j ≤ n ∧ pre = upto ls j ∧ Hid (J pre W') ∧ Hid (Lies w.heap.size Bo Bw w W')) (fun i _ => n - (intOf i).toNat)
  case atStart => exact ⟨0, [], rfl, Nat.zero_le _, rfl, H0, Lib.hid L0⟩
  case round =>
    obtain ⟨j, pre, rfl, hj, hpre, HJ, HLi⟩ := hrel
    clear L0 H0 q1 q2 q3
    have hsz0 : w.heap.size ≤ wr.heap.size := (HJR.out _ _ HJ.out).1
    by_cases hlt : j < n
    rotate_left
    · obtain rfl : j = n := by omega
      gi_wp2
      go_end0
      exact ⟨⟨_, rfl⟩, .inl ⟨pre, hpre, HJ.out⟩⟩
    · obtain ⟨ad, x, rfl, hab, hx, h4⟩ := HR.out.get hlt
      obtain ⟨P, hP⟩ : ∃ P, ad.add (j * 4) = P := ⟨_, rfl⟩
      have hPb : P.block < w.heap.size := by rw [← hP, block_of_add]; exact hab
      have hPd : P.block ≠ Bo ∧ P.block ≠ Bw := by rw [← hP, block_of_add]; exact HN.out ad rfl (by omega)
      have hPw : P.block < wr.heap.size := by omega
      have c0 := HLi.out _ _ (by rw [block_of_add, block_of_add]; exact hab) (by rw [block_of_add, block_of_add, ← block_of_add ad (j * 4), hP]; exact hPd.1) (by rw [block_of_add, block_of_add, ← block_of_add ad (j * 4), hP]; exact hPd.2) (h4 0 _ rfl)
      have c1 := HLi.out _ _ (by rw [block_of_add, block_of_add]; exact hab) (by rw [block_of_add, block_of_add, ← block_of_add ad (j * 4), hP]; exact hPd.1) (by rw [block_of_add, block_of_add, ← block_of_add ad (j * 4), hP]; exact hPd.2) (h4 1 _ rfl)
      have c2 := HLi.out _ _ (by rw [block_of_add, block_of_add]; exact hab) (by rw [block_of_add, block_of_add, ← block_of_add ad (j * 4), hP]; exact hPd.1) (by rw [block_of_add, block_of_add, ← block_of_add ad (j * 4), hP]; exact hPd.2) (h4 2 _ rfl)
      have c3 := HLi.out _ _ (by rw [block_of_add, block_of_add]; exact hab) (by rw [block_of_add, block_of_add, ← block_of_add ad (j * 4), hP]; exact hPd.1) (by rw [block_of_add, block_of_add, ← block_of_add ad (j * 4), hP]; exact hPd.2) (h4 3 _ rfl)
      rw [hP] at c0 c1 c2 c3
      rw [add_z P] at c0
      rw [add_next P 0] at c1
      rw [add_next P 1] at c2
      rw [add_next P 2] at c3
      clear h4 hab
      obtain ⟨xn, xf, xt, xb⟩ := x
      have HX : Hid ((j, (ls[j]?).getD Dg0) = (j, (⟨xn, xf, xt, xb⟩ : Dg))) := Lib.hid (by rw [hx]; rfl)
      have hj9 := HJF.out _ _ (wr.alloc (Obj.cells #[.int .i64 xn, .int .i64 xf, .int .i64 xt, .string xb] 33)) HJ.out (Fr.alloc _)
      obtain ⟨fn', tm', as', bo', hy, hR'⟩ := HY.out pre (j, ⟨xn, xf, xt, xb⟩) _ hj9 (by rw [hpre, upto_len]; exact hlt)
      simp only [encsF, dAgg] at hy
      have HRR := Lib.hid hR'
      clear hj9 hR' hx
      gi_wp2
      refine HRR.out.mono ?_
      rintro e' W3 (⟨rfl, hJ3, hK3⟩ | ⟨rfl, hJx3⟩)
      · have HJ3 := Lib.hid hJ3
        have HL3 := Lib.hid ((HLi.out.below ((Below.refl _ _).alloc (Nat.le_refl _) (Obj.cells #[.int .i64 xn, .int .i64 xf, .int .i64 xt, .string xb] 33))).kp hK3)
        clear hJ3 hK3
        gi_wp2
        go_roundw
        case rel => exact ⟨j + 1, pre ++ [(j, ⟨xn, xf, xt, xb⟩)], by go_num, by omega, by rw [upto_succ, hpre, HX.out], HJ3, HL3⟩
        case measure => simp [intOf]; omega
      · have HJ3 := Lib.hid hJx3
        clear hJx3
        gi_wp2
        refine bodyPost_ret (results_none rfl _ _ _) rfl ?_
        exact ⟨⟨_, rfl⟩, .inr ⟨pre ++ [(j, ⟨xn, xf, xt, xb⟩)], ⟨j, hlt, by rw [upto_succ, hpre, HX.out]⟩, HJ3.out⟩⟩
end Go.Proofs.Ytdaobbffhfbceaa
