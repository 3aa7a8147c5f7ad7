/- book.entries: what its iterator hands out, for half-edges with one line each. -/
import Derived.Test.YtaakbpnaifpcbaaHlf
import Derived.Test.YtaakbpnaifpcbaaQuietJ
import Derived.Test.YtaakbpnaifpcbaaRngP
namespace Go.Proofs.Ytaakbpnaifpcbaa
open Go.RowKit Go.Shelf
set_option linter.unusedVariables false
set_option linter.unusedSimpArgs false
theorem Kp.cell {D Bo Bw : Nat} {A C : World} (h : Kp D Bo Bw A C) {p : Addr} {v : Value} (hp : p.block < D) (h1 : p.block ≠ Bo) (h2 : p.block ≠ Bw) (hc : A.cell? p = some v) : C.cell? p = some v := by
  cases ho : A.heap[p.block]? with
  | none => unfold World.cell? at hc; rw [ho] at hc; simp at hc
  | some o =>
    have hcl : o.isCells = true := by unfold World.cell? at hc; rw [ho] at hc; cases o <;> simp_all [Obj.isCells]
    have := h.2.2 p.block o h1 h2 (.inl hp) ho hcl
    exact (World.cell?_of_block (this.trans ho.symm)).trans hc
/-- Whatever cells lay below D lie on, but for two boxes. -/
def Lies (D Bo Bw : Nat) (W W' : World) : Prop := ∀ (p : Addr) (v : Value), p.block < D → p.block ≠ Bo → p.block ≠ Bw → W.cell? p = some v → W'.cell? p = some v
theorem Lies.below {D Bo Bw : Nat} {W A C : World} (h : Lies D Bo Bw W A) (hb : Below A.heap.size A C) : Lies D Bo Bw W C := fun p v h1 h2 h3 hc => by
  have h4 := h p v h1 h2 h3 hc
  exact (hb.cell (cell_lt h4)).trans h4
theorem Lies.of_below {D Bo Bw : Nat} {W A : World} (hb : Below W.heap.size W A) : Lies D Bo Bw W A := fun p v _ _ _ hc => (hb.cell (cell_lt hc)).trans hc
theorem Lies.kp {D Bo Bw : Nat} {W A C : World} (h : Lies D Bo Bw W A) (hk : Kp D Bo Bw A C) : Lies D Bo Bw W C := fun p v h1 h2 h3 hc => hk.cell h1 h2 h3 (h p v h1 h2 h3 hc)
theorem Lies.half {D Bo Bw : Nat} {W A : World} (h : Lies D Bo Bw W A) {p : Addr} {x : HL} (hh : half6 W p x) (h1 : p.block < D) (h2 : p.block ≠ Bo) (h3 : p.block ≠ Bw) : half6 A p x := by
  obtain ⟨c0, c1, c2, c3, c4, c5⟩ := hh
  exact ⟨h _ _ h1 h2 h3 c0, h ⟨_, _, none⟩ _ h1 h2 h3 c1, h ⟨_, _, none⟩ _ h1 h2 h3 c2, h ⟨_, _, none⟩ _ h1 h2 h3 c3, h ⟨_, _, none⟩ _ h1 h2 h3 c4, h ⟨_, _, none⟩ _ h1 h2 h3 c5⟩
theorem Lies.line {D Bo Bw : Nat} {W A : World} (h : Lies D Bo Bw W A) {p : Addr} {a b : Int} (hh : line4 W p a b) (h1 : p.block < D) (h2 : p.block ≠ Bo) (h3 : p.block ≠ Bw) : line4 A p a b := by
  obtain ⟨c0, c1, c2, c3⟩ := hh
  exact ⟨h _ _ h1 h2 h3 c0, h ⟨_, _, none⟩ _ h1 h2 h3 c1, h ⟨_, _, none⟩ _ h1 h2 h3 c2, h ⟨_, _, none⟩ _ h1 h2 h3 c3⟩
def encsN (x : Int × Int) : Array Value := #[.int .i64 x.1, .int .i64 x.2]
def PtN (x : Int × Int) (_ : World) : Prop := -2147483647 ≤ x.2 ∧ x.2 ≤ 2147483647
/-- What a half-edge takes from the node. -/
def outH (id : Int) (x : HL) : Int × Int := (x.peer, outR 1 x.wr x.fl id x.peer)
theorem outH_bd (id : Int) (x : HL) : -2147483647 ≤ (outH id x).2 ∧ (outH id x).2 ≤ 2147483647 := by
  unfold outH outR
  simp only []
  split
  · rename_i h
    obtain ⟨_, _, g3, g4⟩ := fitB_bd h
    split <;> omega
  · omega
theorem take_map {xs : List HL} {k : Nat} {x : HL} {f : HL → Int × Int} (h : xs[k]? = some x) : (xs.take (k + 1)).map f = (xs.take k).map f ++ [f x] := by
  rw [List.take_add_one, h]
  simp
set_option maxRecDepth 100000 in
set_option maxHeartbeats 8000000 in
theorem entries_seq (k : Nat) (hk : 1 ≤ k) (B4 B5 B3 Bo Bw : Nat) (A : Option Addr) (n cp : Nat) (xs : List HL) (id : Int) (w : World) (hBo : Bo < w.heap.size) (hBw : Bw < w.heap.size)
    (h4 : w.cell? ⟨B4, 0, none⟩ = some (.slice A n cp)) (h5 : w.cell? ⟨B5, 0, none⟩ = some (.string ⟨#[109]⟩)) (h3 : w.cell? ⟨B3, 0, none⟩ = some (.int .i64 id)) (hr : HsAt w w.heap.size A n xs) (hn : n ≤ 1000)
    (d4 : B4 ≠ Bo ∧ B4 ≠ Bw) (d5 : B5 ≠ Bo ∧ B5 ≠ Bw) (d3 : B3 ≠ Bo ∧ B3 ≠ Bw) (da : ∀ ad, A = some ad → 0 < n → ad.block ≠ Bo ∧ ad.block ≠ Bw) (dl : ∀ x ∈ xs, x.la.block ≠ Bo ∧ x.la.block ≠ Bw) :
    SeqP k Try.prog 23 #[.pointer (some ⟨B4, 0, none⟩), .pointer (some ⟨B5, 0, none⟩), .pointer (some ⟨B3, 0, none⟩)] encsN PtN Bo Bw n (fun ys => ys = xs.map (outH id)) w := by
  intro l J W hW hJr hJF hY h0
  have hB4 := cell_lt h4
  have hB5 := cell_lt h5
  have hB3 := cell_lt h3
  simp only [] at hB4 hB5 hB3
  have hws := hW.size
  have L0 : Lies w.heap.size Bo Bw w W := Lies.of_below hW
  have HR := Lib.hid hr
  have H4 := Lib.hid h4; have H5 := Lib.hid h5; have H3 := Lib.hid h3
  have g4 := L0 _ _ hB4 d4.1 d4.2 h4
  refine callsIn_of_wp Try.func23 rfl trivial ?_ rfl
  simp only [Try.ntmps23, List.size_toArray, List.length_cons, List.length_nil, Nat.reduceAdd, Nat.reduceSub, Array.replicate_succ, Array.replicate_zero, List.push_toArray, List.append_toArray, List.nil_append, List.cons_append]
  have HY := Lib.hid hY; have HJR := Lib.hid hJr; have HJF := Lib.hid hJF; have H0 := Lib.hid h0
  have HDA := Lib.hid da; have HDL := Lib.hid dl
  clear hY hJr hJF h0 h4 h5 h3 hr da dl
  gi_wp2
  gi_loopw [11] (fun i W' => ∃ (j : Nat) (pre : List (Int × Int)), i = .int .i64 j ∧ j ≤ n ∧ pre = (xs.take j).map (outH id) ∧ Hid (J pre W') ∧ Hid (Lies w.heap.size Bo Bw w W')) (fun i _ => n - (intOf i).toNat)
  case atStart => exact ⟨0, [], rfl, Nat.zero_le _, rfl, H0, Lib.hid L0⟩
  case round =>
    obtain ⟨j, pre, rfl, hj, hpre, HJ, HLi⟩ := hrel
    clear L0 g4 H0
    have hsz0 : w.heap.size ≤ wr.heap.size := (HJR.out _ _ HJ.out).1
    obtain ⟨w2, hw2⟩ : ∃ w2, w2 = wr := ⟨_, rfl⟩
    subst hw2
    by_cases hlt : j < n
    rotate_left
    · obtain rfl : j = n := by omega
      gi_wp2
      go_end0
      exact ⟨⟨_, rfl⟩, pre, by rw [hpre, List.take_of_length_le (Nat.le_of_eq HR.out.len)], HJ.out⟩
    · obtain ⟨ad, x, rfl, hab, hx, h6, hlb, hl4⟩ := HR.out.get hlt
      obtain ⟨P, hP⟩ : ∃ P, ad.add (j * 6) = P := ⟨_, rfl⟩
      have hPb : P.block < w.heap.size := by rw [← hP, block_of_add]; exact hab
      have hPd : P.block ≠ Bo ∧ P.block ≠ Bw := by rw [← hP, block_of_add]; exact HDA.out ad rfl (by omega)
      rw [hP] at h6
      have hPw : P.block < w2.heap.size := by omega
      obtain ⟨c0, c1, c2, c3, c4, c5⟩ := HLi.out.half h6 hPb hPd.1 hPd.2
      have HX := Lib.hid hx
      have hxd := HDL.out x (List.mem_of_getElem? hx)
      have HL4 := Lib.hid hl4
      clear h6 hx hl4
      have hlw : x.la.block < w2.heap.size := by omega
      obtain ⟨l0, l1, l2, l3⟩ := HLi.out.line HL4.out hlb hxd.1 hxd.2
      gi_wp2
      gi_loopw [18] (fun i W' => ∃ (m : Nat) (pr : List (Int × Int)), i = .int .i64 m ∧ m ≤ 1 ∧ pr = pre ++ (if m = 0 then [] else [outH id x]) ∧ Hid (J pr W') ∧ Hid (Lies w.heap.size Bo Bw w W') ∧ (m = 0 → Hid (W'.cell? ⟨w2.heap.size, 0, none⟩ = some (.int .i64 x.peer)))) (fun i _ => 1 - (intOf i).toNat)
      case atStart => exact ⟨0, pre, rfl, by omega, by simp, Lib.hid (HJF.out _ _ _ HJ.out (Fr.alloc _)), Lib.hid (HLi.out.below ((Below.refl _ _).alloc (Nat.le_refl _) _)), fun _ => Lib.hid (by go_simp)⟩
      case round =>
        clear c0 c1 c2 c3 c4 c5 l0 l1 l2 l3
        obtain ⟨m, pr, rfl, hm, hpr, HJ1, HL1, hbx⟩ := hrel
        have hsz1 : w.heap.size ≤ wr.heap.size := (HJR.out _ _ HJ1.out).1
        by_cases hm0 : m = 0
        rotate_left
        · obtain rfl : m = 1 := by omega
          rw [if_neg (by omega)] at hpr
          gi_wp2
          go_roundw
          case rel => exact ⟨j + 1, pr, by go_num, by omega, by rw [hpr, hpre, take_map HX.out], HJ1, HL1⟩
          case measure => simp [intOf]; omega
        · subst hm0
          simp only [if_true, List.append_nil] at hpr
          obtain ⟨l0, l1, l2, l3⟩ := HL1.out.line HL4.out hlb hxd.1 hxd.2
          have hb0 := (hbx rfl).out
          have hb6 := cell_lt hb0
          have hlw1 : x.la.block < wr.heap.size := by omega
          have g5 := HL1.out _ _ hB5 d5.1 d5.2 H5.out
          have g3 := HL1.out _ _ hB3 d3.1 d3.2 H3.out
          have hB5w : B5 < wr.heap.size := by omega
          have hB3w : B3 < wr.heap.size := by omega
          simp only [] at hb6
          gi_wp2_with (fail)
          refine wpIn_region_quietC_tail (KeptC wr [(⟨w2.heap.size, 0, none⟩, .int .i64 x.peer), (⟨wr.heap.size, 0, none⟩, .string ⟨#[109]⟩), (⟨wr.heap.size, 1, none⟩, .int .i64 1), (⟨wr.heap.size, 2, none⟩, .int .i64 x.wr), (⟨wr.heap.size, 3, none⟩, .int .i64 x.fl), (⟨B5, 0, none⟩, .string ⟨#[109]⟩), (⟨B3, 0, none⟩, .int .i64 id)] []) 14 (by kernel_rfl) (by kernel_rfl) (by kernel_rfl) ?_ ?_
          · refine KeptC.drewn ?_
            repeat' (first | refine KeptC.cons ?_ ?_ | refine KeptC.consF ?_ ?_ ?_ | refine KeptC.mk0 ?_)
            all_goals (first | with_reducible assumption | (go_simp; done) | (simp; omega) | exact (by repeat (first | with_reducible refine Below.setCell ?_ (by first | (simp; done) | (simp; omega) | omega) _ | with_reducible refine Below.alloc ?_ (by first | (simp; done) | (simp; omega) | omega) _ | with_reducible refine Below.drew ?_ | with_reducible refine below_drewN ?_ _ | with_reducible exact Below.refl _ _)))
          simp only [List.take_succ_cons, List.take_zero, List.drop_succ_cons, List.drop_zero]
          repeat (first
            | go_big_quiet_skip
            | (go_big_quiet_want; (apply quietC_run); (· intro w' hw'; (have hk' := hw'; simp only [KeptC, List.forall_mem_cons] at hk'; go_split_ands); go_simp; first | done | rfl); (simp only [Act.put, List.setIfInBounds_toArray, List.set_cons_zero, List.set_cons_succ]; go_big_quiet_on))
            | (go_big_quiet_want; (apply quietC_call); (· intro w' hw'; go_simp; first | done | exact ⟨rfl, rfl⟩ | rfl); (· intro w' hw'; first | ((with_reducible refine (out_any _ _ _ _ _ _).mono ?_); rintro e w2 ⟨rfl, hb⟩; exact ⟨rfl, hw'.below hb⟩)); (simp only [Act.put, List.setIfInBounds_toArray, List.set_cons_zero, List.set_cons_succ]; go_big_quiet_on)))
          refine wpQuiet_nil ?_
          intro w9 hk9
          (have hk' := hk9; simp only [KeptC, List.forall_mem_cons] at hk'; go_split_ands); have hkB9 := hk9.1
          have hj9 := HJF.out _ _ w9 HJ1.out (Fr.below hkB9)
          obtain ⟨fn', tm', as', bo', hy, hR'⟩ := HY.out pr (outH id x) w9 hj9 (outH_bd id x) (by rw [hpr, hpre, List.length_map, List.length_take]; omega)
          simp only [encsN, outH] at hy
          have HRR := Lib.hid hR'
          clear hj9 hR'
          gi_wp2
          refine HRR.out.mono ?_
          rintro e' W3 ⟨rfl, hJ3, hK3⟩
          have HJ3 := Lib.hid hJ3
          have HL3 := Lib.hid ((HL1.out.below hkB9).kp hK3)
          clear hJ3 hK3
          gi_wp2
          go_roundw
          case rel => exact ⟨1, pr ++ [outH id x], by go_num, by omega, by rw [hpr]; simp, HJ3, HL3, fun h => by cases h⟩
          case measure => simp [intOf]
end Go.Proofs.Ytaakbpnaifpcbaa
