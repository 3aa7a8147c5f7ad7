/- Chapter 22, parts on the way: VwN -/
import Derived.Test.YtkfodkbgmpbmfaaGreatB01
import Derived.Test.YtkfodkbgmpbmfaaGreatB06
import Derived.Test.YtkfodkbgmpbmfaaGreatB15
set_option linter.unusedVariables false
set_option linter.unusedSimpArgs false
namespace Go.Proofs.YtkfodkbgmpbmfaaGreat
open Go.RowKit Go.Shelf
set_option linter.unusedVariables false
set_option linter.unusedSimpArgs false
set_option maxRecDepth 100000
attribute [local go_sem] Oper.semAt_some
@[reducible] def Sn0 : Sn := ⟨0, 0, 0, 0⟩
@[reducible] def SgV (x : Sn) : Value := .agg #[.int .i64 x.boot, .int .i64 x.life, .int .i64 x.peer, .int .i64 x.mine]
def encsS (x : Nat × Sn) : Array Value := #[.int .i64 x.1, SgV x.2]
theorem ko_allocV {W W' : World} (h : KeepsOthers W W') (o : Obj) : KeepsOthers W (W'.alloc o) := h.trans (KeepsOthers.alloc _ _)
theorem ko_drewV {W W' : World} (h : KeepsOthers W W') : KeepsOthers W W'.drew := h.trans (KeepsOthers.drew _)
theorem of_any (x : Sn) (w : World) : Calls Tryz.prog 196 #[SnV x] w fun e w' => e = .returned (SgV x) ∧ Below w.heap.size w w' := by
 obtain ⟨p, b, l, m⟩ := x
 go_enter Tryz.func196, Tryz.ntmps196
 go_wp2
 refine bodyPost_ret (v := .agg #[.int .i64 b, .int .i64 l, .int .i64 p, .int .i64 m]) (by simp [results, Tryz.results196, go_sem, *]) rfl ⟨rfl, Qb⟩
theorem plain_any (x : Sn) (w : World) : Calls Tryz.prog 158 #[SgV x] w fun e w' => e = .returned (SnV x) ∧ Below w.heap.size w w' := by
 obtain ⟨p, b, l, m⟩ := x
 go_enter Tryz.func158, Tryz.ntmps158
 go_wp2
 refine bodyPost_ret (v := .agg #[.int .i64 p, .int .i64 b, .int .i64 l, .int .i64 m]) (by simp [results, Tryz.results158, go_sem, *]) rfl ⟨rfl, Qb⟩
theorem sights_any (A : Option Addr) (n c : Nat) (w : World) :
    Calls Tryz.prog 186 #[.slice A n c] w fun e w' => e = .returned (.func (.func 195) #[] #[.pointer (some ⟨w.heap.size, 0, none⟩)]) ∧ w.alloc (Obj.cells #[.slice A n c] 52) = w' := by
 have hmf : ∀ (fn : Fn) (first cap : Array Value) (w : World), (Instr.makeFunc fn first cap).run Tryz.prog w = .ok (.func fn first cap) w := fun _ _ _ _ => rfl
 go_enter Tryz.func186, Tryz.ntmps186
 go_wp2
 go_ret
 exact ⟨rfl, rfl⟩
theorem LiesV.sn {D Bo Bw : Nat} {W A : World} (h : LiesV D Bo Bw W A) {p : Addr} {x : Sn} (hh : sn4 W p x) (h1 : p.block < D) (h2 : p.block ≠ Bo) (h3 : p.block ≠ Bw) : sn4 A p x := by
 obtain ⟨q0, q1, q2, q3⟩ := hh
 exact ⟨h _ _ h1 h2 h3 q0, h ⟨p.block, _, none⟩ _ h1 h2 h3 q1, h ⟨p.block, _, none⟩ _ h1 h2 h3 q2, h ⟨p.block, _, none⟩ _ h1 h2 h3 q3⟩
set_option maxHeartbeats 8000000 in
theorem sights_seq (k : Nat) (hk : 1 ≤ k) (B1 Bo Bw : Nat) (A : Option Addr) (n c : Nat) (ls : List Sn) (w : World) (hBo : Bo < w.heap.size) (hBw : Bw < w.heap.size)
    (h1 : w.cell? ⟨B1, 0, none⟩ = some (.slice A n c)) (d1 : B1 ≠ Bo ∧ B1 ≠ Bw) (hr : RowsE encSn 4 w w.heap.size A n ls) (hne : ∀ ad, A = some ad → 0 < n → ad.block ≠ Bo ∧ ad.block ≠ Bw) (hm : n ≤ 1000) :
    Bg.SeqS k Tryz.prog 195 #[.pointer (some ⟨B1, 0, none⟩)] encsS Bo Bw n (fun ys => ys = uptoG Sn0 ls n) (fun pre => ∃ j, j < n ∧ pre = uptoG Sn0 ls (j + 1)) w := by
 intro l J Jx W hW hJr hJF hY h0
 have hB1 := cell_lt h1
 simp only [] at hB1
 have hws := hW.size
 have L0 : LiesV w.heap.size Bo Bw w W := LiesV.of_below hW
 have q1 := L0 _ _ hB1 d1.1 d1.2 h1
 have HR := Lib.hid hr; have HN := Lib.hid hne
 refine callsIn_of_wp Tryz.func195 rfl trivial ?_ rfl
 simp only [Tryz.ntmps195, List.size_toArray, List.length_cons, List.length_nil, Nat.reduceAdd, Nat.reduceSub, Array.replicate_succ, Array.replicate_zero, List.push_toArray, List.append_toArray, List.nil_append, List.cons_append]
 have HY := Lib.hid hY; have HJR := Lib.hid hJr; have HJF := Lib.hid hJF; have H0 := Lib.hid h0
 clear hY hJr hJF h0 h1 hr hne
 gi_wp2
 gi_loopw [7] (fun i W' => ∃ (j : Nat) (pre : List (Nat × Sn)), i = .int .i64 j ∧ j ≤ n ∧ pre = uptoG Sn0 ls j ∧ Hid (J pre W') ∧ Hid (LiesV w.heap.size Bo Bw w W')) (fun i _ => n - (intOf i).toNat)
 case atStart => exact ⟨0, [], rfl, Nat.zero_le _, rfl, H0, Lib.hid L0⟩
 case round =>
  obtain ⟨j, pre, rfl, hj, hpre, HJ, HLi⟩ := hrel
  clear L0 H0 q1
  have hsz0 : w.heap.size ≤ wr.heap.size := (HJR.out _ _ HJ.out).1
  by_cases hlt : j < n
  rotate_left
  · obtain rfl : j = n := by omega
    gi_wp2
    go_end0
    exact ⟨⟨_, rfl⟩, .inl ⟨pre, hpre, HJ.out⟩⟩
  · obtain ⟨ad, x, rfl, hab, hx, h4⟩ := HR.out.at hlt
    obtain ⟨P, hP⟩ : ∃ P, ad.add (j * 4) = P := ⟨_, rfl⟩
    have hPd : P.block ≠ Bo ∧ P.block ≠ Bw := by rw [← hP, block_of_add]; exact HN.out ad rfl (by omega)
    rw [hP] at h4 hab
    have hPw : P.block < wr.heap.size := by omega
    obtain ⟨c0, c1, c2, c3⟩ := HLi.out.sn (sn4_of h4) hab hPd.1 hPd.2
    clear h4 hab
    obtain ⟨xp, xb, xl, xm⟩ := x
    simp only [] at c0 c1 c2 c3
    have HX : Hid ((j, (ls[j]?).getD Sn0) = (j, (⟨xp, xb, xl, xm⟩ : Sn))) := Lib.hid (by rw [hx]; rfl)
    clear hx
    gi_wp2_with (fail)
    refine ⟨trivial, ?_⟩
    refine (callsIn_wide.2 (of_any ⟨xp, xb, xl, xm⟩ _)).mono ?_; rintro e w1 ⟨rfl, hb1⟩
    have hbr : Below wr.heap.size wr w1 := ((Below.refl _ _).alloc (Nat.le_refl _) (Obj.cells #[.int .i64 xp, .int .i64 xb, .int .i64 xl, .int .i64 xm] 90)).trans (hb1.mono (by simp))
    have HL1 := Lib.hid (HLi.out.below hbr)
    have hj9 := HJF.out _ _ w1 HJ.out (Fr.below hbr)
    obtain ⟨fn', tm', as', bo', hy, hR'⟩ := HY.out pre (j, ⟨xp, xb, xl, xm⟩) _ hj9 (by rw [hpre, uptoG_len]; exact hlt)
    simp only [encsS, SgV] at hy
    have HRR := Lib.hid hR'
    clear hj9 hR' hb1 hbr
    gi_wp2
    refine HRR.out.mono ?_
    rintro e' W3 (⟨rfl, hJ3, hK3⟩ | ⟨rfl, hJx3⟩)
    · have HJ3 := Lib.hid hJ3
      have HL3 := Lib.hid (HL1.out.kp hK3)
      clear hJ3 hK3
      gi_wp2
      go_roundw
      case rel => exact ⟨j + 1, pre ++ [(j, ⟨xp, xb, xl, xm⟩)], by go_num, by omega, by rw [uptoG_succ, hpre, HX.out], HJ3, HL3⟩
      case measure => simp [intOf]; omega
    · have HJ3 := Lib.hid hJx3
      clear hJx3
      gi_wp2
      refine bodyPost_ret (results_none rfl _ _ _) rfl ?_
      exact ⟨⟨_, rfl⟩, .inr ⟨pre ++ [(j, ⟨xp, xb, xl, xm⟩)], ⟨j, hlt, by rw [uptoG_succ, hpre, HX.out]⟩, HJ3.out⟩⟩
def SfPost (s : Sn) (w : World) (e : Ending) (w' : World) : Prop := Below w.heap.size w w' ∧ ∃ (k : Nat) (b : Bool), e = .returned (.tuple #[.int .i64 k, SgV s, .bool b])
def SnI (W0 : World) (p : Int) (pre : List (Nat × Sn)) (W : World) : Prop := Below W0.heap.size W0 W ∧ ∀ x ∈ pre, x.2.peer < p
def SnX (w : World) (p : Int) (D : Nat) (pre : List (Nat × Sn)) (W : World) : Prop :=
 Below w.heap.size w W ∧ D ≤ W.heap.size ∧ ∃ (q : List (Nat × Sn)) (x : Nat × Sn), pre = q ++ [x] ∧ (∀ y ∈ q, y.2.peer < p) ∧ W.cell? ⟨w.heap.size + 1, 0, none⟩ = some (.int .i64 x.1) ∧ W.cell? ⟨w.heap.size + 2, 0, none⟩ = some (.int .i64 (if x.2.peer = p then x.2.boot else 0)) ∧ W.cell? ⟨w.heap.size + 2, 1, none⟩ = some (.int .i64 (if x.2.peer = p then x.2.life else 0)) ∧ W.cell? ⟨w.heap.size + 2, 2, none⟩ = some (.int .i64 p) ∧ W.cell? ⟨w.heap.size + 2, 3, none⟩ = some (.int .i64 (if x.2.peer = p then x.2.mine else 0)) ∧ W.cell? ⟨w.heap.size + 3, 0, none⟩ = some (.bool (decide (x.2.peer = p))) ∧ p ≤ x.2.peer
theorem SnX.put {w A : World} {p : Int} {D : Nat} {pre : List (Nat × Sn)} {l : Nat} {o o' : Obj} (h : SnX w p D pre A) (hw : w.heap.size ≤ D) (hl : D ≤ l) (ho : A.heap[l]? = some o) (hc : o.isCells = false) : SnX w p D pre (A.putObj l o') := by
 obtain ⟨h1, h2, q, x, h3, h4, q1, q2, q3, q4, q5, q6, h5⟩ := h
 exact ⟨h1.trans (below_putObjV _ _ (by omega)), by rw [World.putObj_size]; exact h2, q, x, h3, h4, cell_putObjV ho hc q1, cell_putObjV ho hc q2, cell_putObjV ho hc q3, cell_putObjV ho hc q4, cell_putObjV ho hc q5, cell_putObjV ho hc q6, h5⟩
theorem postS_retV {α : Type} {B D Bo Bw : Nat} {I Ix : List α → World → Prop} {xs : List α} {W W' : World} {a : Act} (h1 : KeepsFrom B W W') (h2 : Ix xs W') : Bg.postS B D Bo Bw I Ix xs W .ret a W' := ⟨h1, h2⟩
theorem find_leaveV (w X : World) (D : Nat) (tm : Array Value) (k : Nat) (s : Sn) (b : Bool) (hD : w.heap.size ≤ D) (hX : X.heap[D]? = some (.deferred (some []))) (hb : Below w.heap.size w X)
    (t4 : tm[4]?.getD undef = .pointer (some ⟨w.heap.size + 1, 0, none⟩)) (t5 : tm[5]?.getD undef = .pointer (some ⟨w.heap.size + 2, 0, none⟩)) (t6 : tm[6]?.getD undef = .pointer (some ⟨w.heap.size + 3, 0, none⟩))
    (c1 : X.cell? ⟨w.heap.size + 1, 0, none⟩ = some (.int .i64 k)) (c20 : X.cell? ⟨w.heap.size + 2, 0, none⟩ = some (.int .i64 s.boot)) (c21 : X.cell? ⟨w.heap.size + 2, 1, none⟩ = some (.int .i64 s.life)) (c22 : X.cell? ⟨w.heap.size + 2, 2, none⟩ = some (.int .i64 s.peer)) (c23 : X.cell? ⟨w.heap.size + 2, 3, none⟩ = some (.int .i64 s.mine)) (c3 : X.cell? ⟨w.heap.size + 3, 0, none⟩ = some (.bool b)) :
    LeavesInM Fence.wide 6 Tryz.prog Tryz.f157 tm (SfPost s w) [] FrameMode.returning (X.putObj D (.deferred none)) := by
 have e1 := cell_putObjV (o' := .deferred none) hX rfl c1
 have e20 := cell_putObjV (o' := .deferred none) hX rfl c20
 have e21 := cell_putObjV (o' := .deferred none) hX rfl c21
 have e22 := cell_putObjV (o' := .deferred none) hX rfl c22
 have e23 := cell_putObjV (o' := .deferred none) hX rfl c23
 have e3 := cell_putObjV (o' := .deferred none) hX rfl c3
 refine ⟨.tuple #[.int .i64 k, SgV s, .bool b], by simp [results, Tryz.results157, go_sem, *], hb.trans (below_putObjV _ _ hD), k, b, rfl⟩
set_option maxHeartbeats 16000000 in
theorem sfindk_any (A : Option Addr) (n c : Nat) (ls : List Sn) (p : Int) (w : World) (hr : RowsE encSn 4 w w.heap.size A n ls) (hp : ls.Pairwise (fun a b => a.peer < b.peer)) (hm : n ≤ 1000) :
    Calls Tryz.prog 157 #[.slice A n c, .int .i64 p] w (SfPost (getSn ls p) w) := by
 have HR := Lib.hid hr
 have HP := Lib.hid hp
 clear hr hp
 have hmx : Tryz.prog.follows .mixedOrders = true := by kernel_rfl
 refine (callsIn_wide (n := 6)).1 ?_
 refine callsIn_of_wp_marks Tryz.func157 rfl trivial ?_ rfl
 simp only [Tryz.ntmps157, List.size_toArray, List.length_cons, List.length_nil, Nat.reduceAdd, Nat.reduceSub, Array.replicate_succ, Array.replicate_zero, List.push_toArray, List.append_toArray, List.nil_append, List.cons_append]
 refine wpIn_wide.2 ?_
 go_wp2_with (fail)
 refine (sights_any _ _ _ _).mono ?_; rintro e w1 ⟨rfl, rfl⟩
 go_wp2
 refine lay (fun W => W.heap.size = w.heap.size + 5 ∧ KeptC w [(⟨w.heap.size, 0, none⟩, .int .i64 p), (⟨w.heap.size + 1, 0, none⟩, .int .i64 0), (⟨w.heap.size + 2, 0, none⟩, .int .i64 0), (⟨w.heap.size + 2, 1, none⟩, .int .i64 0), (⟨w.heap.size + 2, 2, none⟩, .int .i64 0), (⟨w.heap.size + 2, 3, none⟩, .int .i64 0), (⟨w.heap.size + 3, 0, none⟩, .bool false), (⟨w.heap.size + 4, 0, none⟩, .slice A n c)] [⟨w.heap.size + 1, 0, none⟩, ⟨w.heap.size + 2, 0, none⟩, ⟨w.heap.size + 2, 1, none⟩, ⟨w.heap.size + 2, 2, none⟩, ⟨w.heap.size + 2, 3, none⟩, ⟨w.heap.size + 3, 0, none⟩] W) ⟨by simp, Qk⟩ ?_
 rintro W0 ⟨hz, hK⟩
 simp only [KeptC, List.forall_mem_cons] at hK; obtain ⟨kb0, ⟨kc0_0, kc0_1, kc0_2, kc0_3, kc0_4, kc0_5, kc0_6, kc0_7, _⟩, ⟨kz0_0, kg0_0⟩, ⟨kz0_1, kg0_1⟩, ⟨kz0_2, kg0_2⟩, ⟨kz0_3, kg0_3⟩, ⟨kz0_4, kg0_4⟩, ⟨kz0_5, kg0_5⟩, _⟩ := hK
 have hr0 := (HR.out.below kb0).more kb0.size
 have HR0 := Lib.hid hr0
 have hda : ∀ ad, A = some ad → 0 < n → ad.block ≠ w.heap.size ∧ ad.block ≠ w.heap.size := fun ad ea hn0 => by
  obtain ⟨ad2, e2, hb2, _⟩ := HR.out.2 hn0
  obtain rfl : ad = ad2 := by rw [ea] at e2; exact Option.some.inj e2
  exact ⟨by omega, by omega⟩
 have HDA := Lib.hid hda
 clear hr0 hda
 have hrb : ∀ A, W0.heap.size ≤ A.heap.size → Below W0.heap.size W0 A → rowB w.heap.size A = none := fun A _ hA => by
  unfold rowB
  rw [(hA.cell (p := ⟨w.heap.size, 0, none⟩) (by show w.heap.size < _; omega)).trans kc0_0]
  rfl
 refine (wpIn_wide (n := 6)).1 ?_
 refine Bg.wpIn_range_s (by omega) (gf := 195) (lb := #[.pointer (some ⟨w.heap.size + 4, 0, none⟩)]) rfl (enters_of Tryz.func195 (by kernel_rfl) rfl)
  (encs := encsS) (Bo := w.heap.size) (Bw := w.heap.size) (by omega) (sights_seq 5 (by omega) (w.heap.size + 4) w.heap.size w.heap.size A n c ls W0 (by omega) (by omega) kc0_7 ⟨by omega, by omega⟩ (by have := HR0.out; exact this.more (by omega)) HDA.out hm) (fun _ => rfl)
  (SnI W0 p) (SnX w p W0.heap.size) (fun _ A h => ⟨h.1.size, fun r hr => by rw [hrb A h.1.size h.1] at hr; cases hr⟩) (fun _ A C h hf => ⟨h.1.trans ⟨hf.2.2.1, hf.2.2.2.1, hf.2.2.2.2, hf.1, fun b hb => hf.2.1 b (Nat.lt_of_lt_of_le hb h.1.size) (.inl hb)⟩, h.2⟩)
  (fun _ _ _ _ _ h hl ho hc => h.put (by omega) hl ho hc) ⟨Below.refl _ _, fun x hx => by cases hx⟩
  (fun x a' W => ∃ Bx, W0.heap.size ≤ Bx ∧ W.cell? ⟨Bx, 0, none⟩ = some (.int .i64 x.2.boot) ∧ W.cell? ⟨Bx, 1, none⟩ = some (.int .i64 x.2.life) ∧ W.cell? ⟨Bx, 2, none⟩ = some (.int .i64 x.2.peer) ∧ W.cell? ⟨Bx, 3, none⟩ = some (.int .i64 x.2.mine) ∧
   a' = { tmps := #[.slice A n c, .int .i64 p, undef, .pointer (some ⟨w.heap.size, 0, none⟩), .pointer (some ⟨w.heap.size + 1, 0, none⟩), .pointer (some ⟨w.heap.size + 1 + 1, 0, none⟩), .pointer (some ⟨w.heap.size + 1 + 1 + 1, 0, none⟩), .int .i64 x.1, .pointer (some ⟨Bx, 0, none⟩), .slice A n c, .func (.func 195) #[] #[.pointer (some ⟨w.heap.size + 1 + 1 + 1 + 1, 0, none⟩)], .int .i64 x.1, SgV x.2, undef, undef, undef, undef, undef, undef, undef, undef, undef, undef, undef, undef, undef, undef, undef, undef, undef], defers := [] })
  (fun x a' A l o o' hx ho hc => by
   obtain ⟨Bx, h1, h2, h3, h4, h5, h6⟩ := hx
   exact ⟨Bx, h1, cell_putObjV ho hc h2, cell_putObjV ho hc h3, cell_putObjV ho hc h4, cell_putObjV ho hc h5, h6⟩) ?assign ?body ?done ?stop
 all_goals clear hrb
 case assign =>
  intro l pre x W K hl hI hK
  unfold encsS
  obtain ⟨xi, xp, xb, xl, xm⟩ := x
  have hIs := hI.1.size
  gi_wp2
  refine hK _ _ ((KeepsOthers.alloc _ _).from _) (Kp.below ((Below.refl _ _).alloc (Nat.le_refl _) _) (by omega)) ⟨hI.1.alloc hIs _, hI.2⟩ ⟨W.heap.size, hIs, by go_simp, by go_simp, by go_simp, by go_simp, rfl⟩
 case body =>
  intro l pre x a' W hl hlen hI hx
  obtain ⟨Bx, hx0, x0, x1, x2, x3, rfl⟩ := hx
  obtain ⟨hIb, hIp⟩ := hI
  have hIs := hIb.size
  have hI0 : Below w.heap.size w W := kb0.trans (hIb.mono (by omega))
  have g0 := (hIb.cell (p := ⟨w.heap.size, 0, none⟩) (by show w.heap.size < _; omega)).trans kc0_0
  obtain ⟨xi, xp, xb, xl, xm⟩ := x
  simp only [] at x0 x1 x2 x3
  have hbl := cell_lt x0
  simp only [] at hbl
  have HIP := Lib.hid hIp
  by_cases hge : xp < p
  · have hd : decide (p ≤ xp) = false := decide_eq_false (by omega)
    have HGE := Lib.hid hge
    clear hge
    gi_wp2
    exact ⟨(KeepsOthers.refl _).from _, Kp.refl _ _ _ _, hIb, fun y hy => (List.mem_append.1 hy).elim (HIP.out y) (fun h => by rw [List.mem_singleton] at h; subst h; exact HGE.out)⟩
  · have hd : decide (p ≤ xp) = true := decide_eq_true (by omega)
    have HQ : Hid (p ≤ xp) := Lib.hid (by omega)
    clear hge
    have e1 := (hIb.cell (p := ⟨w.heap.size + 1, 0, none⟩) (by show w.heap.size + 1 < _; omega)).trans kc0_1
    have g1 := (hIb.frozen (p := ⟨w.heap.size + 1, 0, none⟩) (by show w.heap.size + 1 < _; omega)).trans kg0_0
    have e2 := (hIb.cell (p := ⟨w.heap.size + 2, 0, none⟩) (by show w.heap.size + 2 < _; omega)).trans kc0_2
    have g2 := (hIb.frozen (p := ⟨w.heap.size + 2, 0, none⟩) (by show w.heap.size + 2 < _; omega)).trans kg0_1
    have e3 := (hIb.cell (p := ⟨w.heap.size + 2, 1, none⟩) (by show w.heap.size + 2 < _; omega)).trans kc0_3
    have g3 := (hIb.frozen (p := ⟨w.heap.size + 2, 1, none⟩) (by show w.heap.size + 2 < _; omega)).trans kg0_2
    have e4 := (hIb.cell (p := ⟨w.heap.size + 2, 2, none⟩) (by show w.heap.size + 2 < _; omega)).trans kc0_4
    have g4 := (hIb.frozen (p := ⟨w.heap.size + 2, 2, none⟩) (by show w.heap.size + 2 < _; omega)).trans kg0_3
    have e5 := (hIb.cell (p := ⟨w.heap.size + 2, 3, none⟩) (by show w.heap.size + 2 < _; omega)).trans kc0_5
    have g5 := (hIb.frozen (p := ⟨w.heap.size + 2, 3, none⟩) (by show w.heap.size + 2 < _; omega)).trans kg0_4
    have e6 := (hIb.cell (p := ⟨w.heap.size + 3, 0, none⟩) (by show w.heap.size + 3 < _; omega)).trans kc0_6
    have g6 := (hIb.frozen (p := ⟨w.heap.size + 3, 0, none⟩) (by show w.heap.size + 3 < _; omega)).trans kg0_5
    by_cases hk : xp = p
    · subst hk
      have HKT : xp = xp := rfl
      clear HKT
      gi_wp2
      refine wpIn_region_any hmx ?_
      change wpAnyIn _ _ _ _ _ _ _ _ _ (World.drew _)
      refine wpAnyIn_ready (rs := [0, 1]) (by kernel_rfl) (by simp) ?_
      refine AllReadyIn.cons rfl (fun K hK => ?_) ?_
      · go_simp; refine hK _ _ ?_; clear hK K
        refine wpAnyIn_ready (rs := [1, 2]) (by kernel_rfl) (by simp) ?_
        refine AllReadyIn.cons rfl (fun K hK => ?_) ?_
        · go_simp; refine hK _ _ ?_; clear hK K
          refine wpAnyIn_ready (rs := [2]) (by kernel_rfl) (by simp) ?_
          refine AllReadyIn.cons rfl (fun K hK => ?_) ?_
          · go_simp; refine hK _ _ ?_; clear hK K
            refine wpAnyIn_ready (rs := [3]) (by kernel_rfl) (by simp) ?_
            refine AllReadyIn.cons rfl (fun K hK => ?_) ?_
            · go_simp; refine hK _ _ ?_; clear hK K
              refine wpAnyIn_ready (rs := [4]) (by kernel_rfl) (by simp) ?_
              refine AllReadyIn.cons rfl (fun K hK => ?_) ?_
              · go_simp; refine hK _ _ ?_; clear hK K
                refine wpAnyIn_done (by kernel_rfl) ?_ _
                gi_wp2
                refine postS_retV (KeepsOthers.from ?_ _) ⟨(Qb1 hI0), by simp; omega, pre, (xi, ⟨xp, xb, xl, xm⟩), rfl, HIP.out, by go_simp, by go_simp, by go_simp, by go_simp, by go_simp, by go_simp, HQ.out⟩
                repeat (first | with_reducible refine ko_setV ?_ _ _ | with_reducible refine ko_drewV ?_ | with_reducible refine ko_allocV ?_ _ | with_reducible exact KeepsOthers.refl _)
              exact AllReadyIn.nil
            exact AllReadyIn.nil
          exact AllReadyIn.nil
        refine AllReadyIn.cons rfl (fun K hK => ?_) ?_
        · go_simp; refine hK _ _ ?_; clear hK K
          refine wpAnyIn_ready (rs := [1]) (by kernel_rfl) (by simp) ?_
          refine AllReadyIn.cons rfl (fun K hK => ?_) ?_
          · go_simp; refine hK _ _ ?_; clear hK K
            refine wpAnyIn_ready (rs := [3]) (by kernel_rfl) (by simp) ?_
            refine AllReadyIn.cons rfl (fun K hK => ?_) ?_
            · go_simp; refine hK _ _ ?_; clear hK K
              refine wpAnyIn_ready (rs := [4]) (by kernel_rfl) (by simp) ?_
              refine AllReadyIn.cons rfl (fun K hK => ?_) ?_
              · go_simp; refine hK _ _ ?_; clear hK K
                refine wpAnyIn_done (by kernel_rfl) ?_ _
                gi_wp2
                refine postS_retV (KeepsOthers.from ?_ _) ⟨(Qb1 hI0), by simp; omega, pre, (xi, ⟨xp, xb, xl, xm⟩), rfl, HIP.out, by go_simp, by go_simp, by go_simp, by go_simp, by go_simp, by go_simp, HQ.out⟩
                repeat (first | with_reducible refine ko_setV ?_ _ _ | with_reducible refine ko_drewV ?_ | with_reducible refine ko_allocV ?_ _ | with_reducible exact KeepsOthers.refl _)
              exact AllReadyIn.nil
            exact AllReadyIn.nil
          exact AllReadyIn.nil
        exact AllReadyIn.nil
      refine AllReadyIn.cons rfl (fun K hK => ?_) ?_
      · go_simp; refine hK _ _ ?_; clear hK K
        refine wpAnyIn_ready (rs := [0]) (by kernel_rfl) (by simp) ?_
        refine AllReadyIn.cons rfl (fun K hK => ?_) ?_
        · go_simp; refine hK _ _ ?_; clear hK K
          refine wpAnyIn_ready (rs := [2]) (by kernel_rfl) (by simp) ?_
          refine AllReadyIn.cons rfl (fun K hK => ?_) ?_
          · go_simp; refine hK _ _ ?_; clear hK K
            refine wpAnyIn_ready (rs := [3]) (by kernel_rfl) (by simp) ?_
            refine AllReadyIn.cons rfl (fun K hK => ?_) ?_
            · go_simp; refine hK _ _ ?_; clear hK K
              refine wpAnyIn_ready (rs := [4]) (by kernel_rfl) (by simp) ?_
              refine AllReadyIn.cons rfl (fun K hK => ?_) ?_
              · go_simp; refine hK _ _ ?_; clear hK K
                refine wpAnyIn_done (by kernel_rfl) ?_ _
                gi_wp2
                refine postS_retV (KeepsOthers.from ?_ _) ⟨(Qb1 hI0), by simp; omega, pre, (xi, ⟨xp, xb, xl, xm⟩), rfl, HIP.out, by go_simp, by go_simp, by go_simp, by go_simp, by go_simp, by go_simp, HQ.out⟩
                repeat (first | with_reducible refine ko_setV ?_ _ _ | with_reducible refine ko_drewV ?_ | with_reducible refine ko_allocV ?_ _ | with_reducible exact KeepsOthers.refl _)
              exact AllReadyIn.nil
            exact AllReadyIn.nil
          exact AllReadyIn.nil
        exact AllReadyIn.nil
      exact AllReadyIn.nil
    · have hkb : (xp == p) = false := by simpa using hk
      gi_wp2
      refine wpIn_region_any hmx ?_
      change wpAnyIn _ _ _ _ _ _ _ _ _ (World.drew _)
      refine wpAnyIn_ready (rs := [0, 1]) (by kernel_rfl) (by simp) ?_
      refine AllReadyIn.cons rfl (fun K hK => ?_) ?_
      · go_simp; refine hK _ _ ?_; clear hK K
        refine wpAnyIn_ready (rs := [1, 3]) (by kernel_rfl) (by simp) ?_
        refine AllReadyIn.cons rfl (fun K hK => ?_) ?_
        · go_simp; refine hK _ _ ?_; clear hK K
          refine wpAnyIn_ready (rs := [2, 3]) (by kernel_rfl) (by simp) ?_
          refine AllReadyIn.cons rfl (fun K hK => ?_) ?_
          · go_simp; refine hK _ _ ?_; clear hK K
            refine wpAnyIn_ready (rs := [3]) (by kernel_rfl) (by simp) ?_
            refine AllReadyIn.cons rfl (fun K hK => ?_) ?_
            · go_simp; refine hK _ _ ?_; clear hK K
              refine wpAnyIn_ready (rs := [4]) (by kernel_rfl) (by simp) ?_
              refine AllReadyIn.cons rfl (fun K hK => ?_) ?_
              · go_simp; refine hK _ _ ?_; clear hK K
                refine wpAnyIn_ready (rs := [5]) (by kernel_rfl) (by simp) ?_
                refine AllReadyIn.cons rfl (fun K hK => ?_) ?_
                · go_simp; refine hK _ _ ?_; clear hK K
                  refine wpAnyIn_done (by kernel_rfl) ?_ _
                  gi_wp2
                  refine postS_retV (KeepsOthers.from ?_ _) ⟨(Qb1 hI0), by simp; omega, pre, (xi, ⟨xp, xb, xl, xm⟩), rfl, HIP.out, by go_simp, by go_simp, by go_simp, by go_simp, by go_simp, by go_simp, HQ.out⟩
                  repeat (first | with_reducible refine ko_setV ?_ _ _ | with_reducible refine ko_drewV ?_ | with_reducible refine ko_allocV ?_ _ | with_reducible exact KeepsOthers.refl _)
                exact AllReadyIn.nil
              exact AllReadyIn.nil
            exact AllReadyIn.nil
          refine AllReadyIn.cons rfl (fun K hK => ?_) ?_
          · go_simp; refine hK _ _ ?_; clear hK K
            refine wpAnyIn_ready (rs := [2]) (by kernel_rfl) (by simp) ?_
            refine AllReadyIn.cons rfl (fun K hK => ?_) ?_
            · go_simp; refine hK _ _ ?_; clear hK K
              refine wpAnyIn_ready (rs := [4]) (by kernel_rfl) (by simp) ?_
              refine AllReadyIn.cons rfl (fun K hK => ?_) ?_
              · go_simp; refine hK _ _ ?_; clear hK K
                refine wpAnyIn_ready (rs := [5]) (by kernel_rfl) (by simp) ?_
                refine AllReadyIn.cons rfl (fun K hK => ?_) ?_
                · go_simp; refine hK _ _ ?_; clear hK K
                  refine wpAnyIn_done (by kernel_rfl) ?_ _
                  gi_wp2
                  refine postS_retV (KeepsOthers.from ?_ _) ⟨(Qb1 hI0), by simp; omega, pre, (xi, ⟨xp, xb, xl, xm⟩), rfl, HIP.out, by go_simp, by go_simp, by go_simp, by go_simp, by go_simp, by go_simp, HQ.out⟩
                  repeat (first | with_reducible refine ko_setV ?_ _ _ | with_reducible refine ko_drewV ?_ | with_reducible refine ko_allocV ?_ _ | with_reducible exact KeepsOthers.refl _)
                exact AllReadyIn.nil
              exact AllReadyIn.nil
            exact AllReadyIn.nil
          exact AllReadyIn.nil
        refine AllReadyIn.cons rfl (fun K hK => ?_) ?_
        · go_simp; refine hK _ _ ?_; clear hK K
          refine wpAnyIn_ready (rs := [1]) (by kernel_rfl) (by simp) ?_
          refine AllReadyIn.cons rfl (fun K hK => ?_) ?_
          · go_simp; refine hK _ _ ?_; clear hK K
            refine wpAnyIn_ready (rs := [2]) (by kernel_rfl) (by simp) ?_
            refine AllReadyIn.cons rfl (fun K hK => ?_) ?_
            · go_simp; refine hK _ _ ?_; clear hK K
              refine wpAnyIn_ready (rs := [4]) (by kernel_rfl) (by simp) ?_
              refine AllReadyIn.cons rfl (fun K hK => ?_) ?_
              · go_simp; refine hK _ _ ?_; clear hK K
                refine wpAnyIn_ready (rs := [5]) (by kernel_rfl) (by simp) ?_
                refine AllReadyIn.cons rfl (fun K hK => ?_) ?_
                · go_simp; refine hK _ _ ?_; clear hK K
                  refine wpAnyIn_done (by kernel_rfl) ?_ _
                  gi_wp2
                  refine postS_retV (KeepsOthers.from ?_ _) ⟨(Qb1 hI0), by simp; omega, pre, (xi, ⟨xp, xb, xl, xm⟩), rfl, HIP.out, by go_simp, by go_simp, by go_simp, by go_simp, by go_simp, by go_simp, HQ.out⟩
                  repeat (first | with_reducible refine ko_setV ?_ _ _ | with_reducible refine ko_drewV ?_ | with_reducible refine ko_allocV ?_ _ | with_reducible exact KeepsOthers.refl _)
                exact AllReadyIn.nil
              exact AllReadyIn.nil
            exact AllReadyIn.nil
          exact AllReadyIn.nil
        exact AllReadyIn.nil
      refine AllReadyIn.cons rfl (fun K hK => ?_) ?_
      · go_simp; refine hK _ _ ?_; clear hK K
        refine wpAnyIn_ready (rs := [0, 2]) (by kernel_rfl) (by simp) ?_
        refine AllReadyIn.cons rfl (fun K hK => ?_) ?_
        · go_simp; refine hK _ _ ?_; clear hK K
          refine wpAnyIn_ready (rs := [2, 3]) (by kernel_rfl) (by simp) ?_
          refine AllReadyIn.cons rfl (fun K hK => ?_) ?_
          · go_simp; refine hK _ _ ?_; clear hK K
            refine wpAnyIn_ready (rs := [3]) (by kernel_rfl) (by simp) ?_
            refine AllReadyIn.cons rfl (fun K hK => ?_) ?_
            · go_simp; refine hK _ _ ?_; clear hK K
              refine wpAnyIn_ready (rs := [4]) (by kernel_rfl) (by simp) ?_
              refine AllReadyIn.cons rfl (fun K hK => ?_) ?_
              · go_simp; refine hK _ _ ?_; clear hK K
                refine wpAnyIn_ready (rs := [5]) (by kernel_rfl) (by simp) ?_
                refine AllReadyIn.cons rfl (fun K hK => ?_) ?_
                · go_simp; refine hK _ _ ?_; clear hK K
                  refine wpAnyIn_done (by kernel_rfl) ?_ _
                  gi_wp2
                  refine postS_retV (KeepsOthers.from ?_ _) ⟨(Qb1 hI0), by simp; omega, pre, (xi, ⟨xp, xb, xl, xm⟩), rfl, HIP.out, by go_simp, by go_simp, by go_simp, by go_simp, by go_simp, by go_simp, HQ.out⟩
                  repeat (first | with_reducible refine ko_setV ?_ _ _ | with_reducible refine ko_drewV ?_ | with_reducible refine ko_allocV ?_ _ | with_reducible exact KeepsOthers.refl _)
                exact AllReadyIn.nil
              exact AllReadyIn.nil
            exact AllReadyIn.nil
          refine AllReadyIn.cons rfl (fun K hK => ?_) ?_
          · go_simp; refine hK _ _ ?_; clear hK K
            refine wpAnyIn_ready (rs := [2]) (by kernel_rfl) (by simp) ?_
            refine AllReadyIn.cons rfl (fun K hK => ?_) ?_
            · go_simp; refine hK _ _ ?_; clear hK K
              refine wpAnyIn_ready (rs := [4]) (by kernel_rfl) (by simp) ?_
              refine AllReadyIn.cons rfl (fun K hK => ?_) ?_
              · go_simp; refine hK _ _ ?_; clear hK K
                refine wpAnyIn_ready (rs := [5]) (by kernel_rfl) (by simp) ?_
                refine AllReadyIn.cons rfl (fun K hK => ?_) ?_
                · go_simp; refine hK _ _ ?_; clear hK K
                  refine wpAnyIn_done (by kernel_rfl) ?_ _
                  gi_wp2
                  refine postS_retV (KeepsOthers.from ?_ _) ⟨(Qb1 hI0), by simp; omega, pre, (xi, ⟨xp, xb, xl, xm⟩), rfl, HIP.out, by go_simp, by go_simp, by go_simp, by go_simp, by go_simp, by go_simp, HQ.out⟩
                  repeat (first | with_reducible refine ko_setV ?_ _ _ | with_reducible refine ko_drewV ?_ | with_reducible refine ko_allocV ?_ _ | with_reducible exact KeepsOthers.refl _)
                exact AllReadyIn.nil
              exact AllReadyIn.nil
            exact AllReadyIn.nil
          exact AllReadyIn.nil
        refine AllReadyIn.cons rfl (fun K hK => ?_) ?_
        · go_simp; refine hK _ _ ?_; clear hK K
          refine wpAnyIn_ready (rs := [0]) (by kernel_rfl) (by simp) ?_
          refine AllReadyIn.cons rfl (fun K hK => ?_) ?_
          · go_simp; refine hK _ _ ?_; clear hK K
            refine wpAnyIn_ready (rs := [3]) (by kernel_rfl) (by simp) ?_
            refine AllReadyIn.cons rfl (fun K hK => ?_) ?_
            · go_simp; refine hK _ _ ?_; clear hK K
              refine wpAnyIn_ready (rs := [4]) (by kernel_rfl) (by simp) ?_
              refine AllReadyIn.cons rfl (fun K hK => ?_) ?_
              · go_simp; refine hK _ _ ?_; clear hK K
                refine wpAnyIn_ready (rs := [5]) (by kernel_rfl) (by simp) ?_
                refine AllReadyIn.cons rfl (fun K hK => ?_) ?_
                · go_simp; refine hK _ _ ?_; clear hK K
                  refine wpAnyIn_done (by kernel_rfl) ?_ _
                  gi_wp2
                  refine postS_retV (KeepsOthers.from ?_ _) ⟨(Qb1 hI0), by simp; omega, pre, (xi, ⟨xp, xb, xl, xm⟩), rfl, HIP.out, by go_simp, by go_simp, by go_simp, by go_simp, by go_simp, by go_simp, HQ.out⟩
                  repeat (first | with_reducible refine ko_setV ?_ _ _ | with_reducible refine ko_drewV ?_ | with_reducible refine ko_allocV ?_ _ | with_reducible exact KeepsOthers.refl _)
                exact AllReadyIn.nil
              exact AllReadyIn.nil
            exact AllReadyIn.nil
          exact AllReadyIn.nil
        exact AllReadyIn.nil
      exact AllReadyIn.nil
 case done =>
  intro D ys W hDw hS hI hDd
  subst hS
  obtain ⟨hIb, hIp⟩ := hI
  have hIs := hIb.size
  have hI0 : Below w.heap.size w W := kb0.trans (hIb.mono (by omega))
  have e0 := (hIb.cell (p := ⟨w.heap.size, 0, none⟩) (by show w.heap.size < _; omega)).trans kc0_0
  have e1 := (hIb.cell (p := ⟨w.heap.size + 1, 0, none⟩) (by show w.heap.size + 1 < _; omega)).trans kc0_1
  have g1 := (hIb.frozen (p := ⟨w.heap.size + 1, 0, none⟩) (by show w.heap.size + 1 < _; omega)).trans kg0_0
  have e2 := (hIb.cell (p := ⟨w.heap.size + 2, 0, none⟩) (by show w.heap.size + 2 < _; omega)).trans kc0_2
  have g2 := (hIb.frozen (p := ⟨w.heap.size + 2, 0, none⟩) (by show w.heap.size + 2 < _; omega)).trans kg0_1
  have e3 := (hIb.cell (p := ⟨w.heap.size + 2, 1, none⟩) (by show w.heap.size + 2 < _; omega)).trans kc0_3
  have g3 := (hIb.frozen (p := ⟨w.heap.size + 2, 1, none⟩) (by show w.heap.size + 2 < _; omega)).trans kg0_2
  have e4 := (hIb.cell (p := ⟨w.heap.size + 2, 2, none⟩) (by show w.heap.size + 2 < _; omega)).trans kc0_4
  have g4 := (hIb.frozen (p := ⟨w.heap.size + 2, 2, none⟩) (by show w.heap.size + 2 < _; omega)).trans kg0_3
  have e5 := (hIb.cell (p := ⟨w.heap.size + 2, 3, none⟩) (by show w.heap.size + 2 < _; omega)).trans kc0_5
  have g5 := (hIb.frozen (p := ⟨w.heap.size + 2, 3, none⟩) (by show w.heap.size + 2 < _; omega)).trans kg0_4
  have e6 := (hIb.cell (p := ⟨w.heap.size + 3, 0, none⟩) (by show w.heap.size + 3 < _; omega)).trans kc0_6
  have g6 := (hIb.frozen (p := ⟨w.heap.size + 3, 0, none⟩) (by show w.heap.size + 3 < _; omega)).trans kg0_5
  have HN : Hid (getSn ls p = ⟨p, 0, 0, 0⟩) := Lib.hid (getSn_miss (fun t y hy => by
   have ht := (List.getElem?_eq_some_iff.1 hy).1
   have := hIp (t, y) (by have h2 := mem_uptoG (d := Sn0) (ls := ls) (i := t) (j := n) (by have := HR.out.1; omega); rwa [hy] at h2)
   simp only [] at this
   omega))
  clear hIp
  have hD2 : ∀ W', KeepsOthers W W' → W'.heap[D]? = some (.deferred (some [])) := fun W' h => h.same D _ hDd rfl
  simp only [Exit.inBlock, Exit.then]
  go_wp2_with (fail)
  refine wp_region_any hmx ?_
  change wpAny _ _ _ _ _ _ _ (World.drew _)
  refine wpAny_ready (rs := [0, 2]) (by kernel_rfl) (by simp) ?_
  refine AllReady.cons rfl (fun K hK => ?_) ?_
  · go_simp; refine hK _ _ ?_; clear hK K
    refine wpAny_ready (rs := [1, 2]) (by kernel_rfl) (by simp) ?_
    refine AllReady.cons rfl (fun K hK => ?_) ?_
    · go_simp; refine hK _ _ ?_; clear hK K
      refine wpAny_ready (rs := [2, 4]) (by kernel_rfl) (by simp) ?_
      refine AllReady.cons rfl (fun K hK => ?_) ?_
      · go_simp; refine hK _ _ ?_; clear hK K
        refine wpAny_ready (rs := [3, 4]) (by kernel_rfl) (by simp) ?_
        refine AllReady.cons rfl (fun K hK => ?_) ?_
        · go_simp; refine hK _ _ ?_; clear hK K
          refine wpAny_ready (rs := [4]) (by kernel_rfl) (by simp) ?_
          refine AllReady.cons rfl (fun K hK => ?_) ?_
          · go_simp; refine hK _ _ ?_; clear hK K
            refine wpAny_ready (rs := [5]) (by kernel_rfl) (by simp) ?_
            refine AllReady.cons rfl (fun K hK => ?_) ?_
            · go_simp; refine hK _ _ ?_; clear hK K
              refine wpAny_ready (rs := [6]) (by kernel_rfl) (by simp) ?_
              refine AllReady.cons rfl (fun K hK => ?_) ?_
              · go_simp; refine hK _ _ ?_; clear hK K
                refine wpAny_done (by kernel_rfl) ?_ _
                go_wp2
                refine ⟨by simp, .inl ⟨_, _, rfl, run_takeDeferred (hD2 _ (by repeat (first | with_reducible refine ko_setV ?_ _ _ | with_reducible refine ko_drewV ?_ | with_reducible refine ko_allocV ?_ _ | with_reducible exact KeepsOthers.refl _))), ?_⟩⟩
                rw [HN.out]
                refine find_leaveV w _ D _ n ⟨p, 0, 0, 0⟩ false (by omega) ?_ ?_ rfl rfl rfl ?_ ?_ ?_ ?_ ?_ ?_
                · exact hD2 _ (by repeat (first | with_reducible refine ko_setV ?_ _ _ | with_reducible refine ko_drewV ?_ | with_reducible refine ko_allocV ?_ _ | with_reducible exact KeepsOthers.refl _))
                · exact (Qb1 hI0)
                all_goals go_simp
              exact AllReady.nil
            exact AllReady.nil
          exact AllReady.nil
        refine AllReady.cons rfl (fun K hK => ?_) ?_
        · go_simp; refine hK _ _ ?_; clear hK K
          refine wpAny_ready (rs := [3]) (by kernel_rfl) (by simp) ?_
          refine AllReady.cons rfl (fun K hK => ?_) ?_
          · go_simp; refine hK _ _ ?_; clear hK K
            refine wpAny_ready (rs := [5]) (by kernel_rfl) (by simp) ?_
            refine AllReady.cons rfl (fun K hK => ?_) ?_
            · go_simp; refine hK _ _ ?_; clear hK K
              refine wpAny_ready (rs := [6]) (by kernel_rfl) (by simp) ?_
              refine AllReady.cons rfl (fun K hK => ?_) ?_
              · go_simp; refine hK _ _ ?_; clear hK K
                refine wpAny_done (by kernel_rfl) ?_ _
                go_wp2
                refine ⟨by simp, .inl ⟨_, _, rfl, run_takeDeferred (hD2 _ (by repeat (first | with_reducible refine ko_setV ?_ _ _ | with_reducible refine ko_drewV ?_ | with_reducible refine ko_allocV ?_ _ | with_reducible exact KeepsOthers.refl _))), ?_⟩⟩
                rw [HN.out]
                refine find_leaveV w _ D _ n ⟨p, 0, 0, 0⟩ false (by omega) ?_ ?_ rfl rfl rfl ?_ ?_ ?_ ?_ ?_ ?_
                · exact hD2 _ (by repeat (first | with_reducible refine ko_setV ?_ _ _ | with_reducible refine ko_drewV ?_ | with_reducible refine ko_allocV ?_ _ | with_reducible exact KeepsOthers.refl _))
                · exact (Qb1 hI0)
                all_goals go_simp
              exact AllReady.nil
            exact AllReady.nil
          exact AllReady.nil
        exact AllReady.nil
      refine AllReady.cons rfl (fun K hK => ?_) ?_
      · go_simp; refine hK _ _ ?_; clear hK K
        refine wpAny_ready (rs := [2]) (by kernel_rfl) (by simp) ?_
        refine AllReady.cons rfl (fun K hK => ?_) ?_
        · go_simp; refine hK _ _ ?_; clear hK K
          refine wpAny_ready (rs := [3]) (by kernel_rfl) (by simp) ?_
          refine AllReady.cons rfl (fun K hK => ?_) ?_
          · go_simp; refine hK _ _ ?_; clear hK K
            refine wpAny_ready (rs := [5]) (by kernel_rfl) (by simp) ?_
            refine AllReady.cons rfl (fun K hK => ?_) ?_
            · go_simp; refine hK _ _ ?_; clear hK K
              refine wpAny_ready (rs := [6]) (by kernel_rfl) (by simp) ?_
              refine AllReady.cons rfl (fun K hK => ?_) ?_
              · go_simp; refine hK _ _ ?_; clear hK K
                refine wpAny_done (by kernel_rfl) ?_ _
                go_wp2
                refine ⟨by simp, .inl ⟨_, _, rfl, run_takeDeferred (hD2 _ (by repeat (first | with_reducible refine ko_setV ?_ _ _ | with_reducible refine ko_drewV ?_ | with_reducible refine ko_allocV ?_ _ | with_reducible exact KeepsOthers.refl _))), ?_⟩⟩
                rw [HN.out]
                refine find_leaveV w _ D _ n ⟨p, 0, 0, 0⟩ false (by omega) ?_ ?_ rfl rfl rfl ?_ ?_ ?_ ?_ ?_ ?_
                · exact hD2 _ (by repeat (first | with_reducible refine ko_setV ?_ _ _ | with_reducible refine ko_drewV ?_ | with_reducible refine ko_allocV ?_ _ | with_reducible exact KeepsOthers.refl _))
                · exact (Qb1 hI0)
                all_goals go_simp
              exact AllReady.nil
            exact AllReady.nil
          exact AllReady.nil
        exact AllReady.nil
      exact AllReady.nil
    refine AllReady.cons rfl (fun K hK => ?_) ?_
    · go_simp; refine hK _ _ ?_; clear hK K
      refine wpAny_ready (rs := [1, 3]) (by kernel_rfl) (by simp) ?_
      refine AllReady.cons rfl (fun K hK => ?_) ?_
      · go_simp; refine hK _ _ ?_; clear hK K
        refine wpAny_ready (rs := [3, 4]) (by kernel_rfl) (by simp) ?_
        refine AllReady.cons rfl (fun K hK => ?_) ?_
        · go_simp; refine hK _ _ ?_; clear hK K
          refine wpAny_ready (rs := [4]) (by kernel_rfl) (by simp) ?_
          refine AllReady.cons rfl (fun K hK => ?_) ?_
          · go_simp; refine hK _ _ ?_; clear hK K
            refine wpAny_ready (rs := [5]) (by kernel_rfl) (by simp) ?_
            refine AllReady.cons rfl (fun K hK => ?_) ?_
            · go_simp; refine hK _ _ ?_; clear hK K
              refine wpAny_ready (rs := [6]) (by kernel_rfl) (by simp) ?_
              refine AllReady.cons rfl (fun K hK => ?_) ?_
              · go_simp; refine hK _ _ ?_; clear hK K
                refine wpAny_done (by kernel_rfl) ?_ _
                go_wp2
                refine ⟨by simp, .inl ⟨_, _, rfl, run_takeDeferred (hD2 _ (by repeat (first | with_reducible refine ko_setV ?_ _ _ | with_reducible refine ko_drewV ?_ | with_reducible refine ko_allocV ?_ _ | with_reducible exact KeepsOthers.refl _))), ?_⟩⟩
                rw [HN.out]
                refine find_leaveV w _ D _ n ⟨p, 0, 0, 0⟩ false (by omega) ?_ ?_ rfl rfl rfl ?_ ?_ ?_ ?_ ?_ ?_
                · exact hD2 _ (by repeat (first | with_reducible refine ko_setV ?_ _ _ | with_reducible refine ko_drewV ?_ | with_reducible refine ko_allocV ?_ _ | with_reducible exact KeepsOthers.refl _))
                · exact (Qb1 hI0)
                all_goals go_simp
              exact AllReady.nil
            exact AllReady.nil
          exact AllReady.nil
        refine AllReady.cons rfl (fun K hK => ?_) ?_
        · go_simp; refine hK _ _ ?_; clear hK K
          refine wpAny_ready (rs := [3]) (by kernel_rfl) (by simp) ?_
          refine AllReady.cons rfl (fun K hK => ?_) ?_
          · go_simp; refine hK _ _ ?_; clear hK K
            refine wpAny_ready (rs := [5]) (by kernel_rfl) (by simp) ?_
            refine AllReady.cons rfl (fun K hK => ?_) ?_
            · go_simp; refine hK _ _ ?_; clear hK K
              refine wpAny_ready (rs := [6]) (by kernel_rfl) (by simp) ?_
              refine AllReady.cons rfl (fun K hK => ?_) ?_
              · go_simp; refine hK _ _ ?_; clear hK K
                refine wpAny_done (by kernel_rfl) ?_ _
                go_wp2
                refine ⟨by simp, .inl ⟨_, _, rfl, run_takeDeferred (hD2 _ (by repeat (first | with_reducible refine ko_setV ?_ _ _ | with_reducible refine ko_drewV ?_ | with_reducible refine ko_allocV ?_ _ | with_reducible exact KeepsOthers.refl _))), ?_⟩⟩
                rw [HN.out]
                refine find_leaveV w _ D _ n ⟨p, 0, 0, 0⟩ false (by omega) ?_ ?_ rfl rfl rfl ?_ ?_ ?_ ?_ ?_ ?_
                · exact hD2 _ (by repeat (first | with_reducible refine ko_setV ?_ _ _ | with_reducible refine ko_drewV ?_ | with_reducible refine ko_allocV ?_ _ | with_reducible exact KeepsOthers.refl _))
                · exact (Qb1 hI0)
                all_goals go_simp
              exact AllReady.nil
            exact AllReady.nil
          exact AllReady.nil
        exact AllReady.nil
      refine AllReady.cons rfl (fun K hK => ?_) ?_
      · go_simp; refine hK _ _ ?_; clear hK K
        refine wpAny_ready (rs := [1]) (by kernel_rfl) (by simp) ?_
        refine AllReady.cons rfl (fun K hK => ?_) ?_
        · go_simp; refine hK _ _ ?_; clear hK K
          refine wpAny_ready (rs := [4]) (by kernel_rfl) (by simp) ?_
          refine AllReady.cons rfl (fun K hK => ?_) ?_
          · go_simp; refine hK _ _ ?_; clear hK K
            refine wpAny_ready (rs := [5]) (by kernel_rfl) (by simp) ?_
            refine AllReady.cons rfl (fun K hK => ?_) ?_
            · go_simp; refine hK _ _ ?_; clear hK K
              refine wpAny_ready (rs := [6]) (by kernel_rfl) (by simp) ?_
              refine AllReady.cons rfl (fun K hK => ?_) ?_
              · go_simp; refine hK _ _ ?_; clear hK K
                refine wpAny_done (by kernel_rfl) ?_ _
                go_wp2
                refine ⟨by simp, .inl ⟨_, _, rfl, run_takeDeferred (hD2 _ (by repeat (first | with_reducible refine ko_setV ?_ _ _ | with_reducible refine ko_drewV ?_ | with_reducible refine ko_allocV ?_ _ | with_reducible exact KeepsOthers.refl _))), ?_⟩⟩
                rw [HN.out]
                refine find_leaveV w _ D _ n ⟨p, 0, 0, 0⟩ false (by omega) ?_ ?_ rfl rfl rfl ?_ ?_ ?_ ?_ ?_ ?_
                · exact hD2 _ (by repeat (first | with_reducible refine ko_setV ?_ _ _ | with_reducible refine ko_drewV ?_ | with_reducible refine ko_allocV ?_ _ | with_reducible exact KeepsOthers.refl _))
                · exact (Qb1 hI0)
                all_goals go_simp
              exact AllReady.nil
            exact AllReady.nil
          exact AllReady.nil
        exact AllReady.nil
      exact AllReady.nil
    exact AllReady.nil
  refine AllReady.cons rfl (fun K hK => ?_) ?_
  · go_simp; refine hK _ _ ?_; clear hK K
    refine wpAny_ready (rs := [0, 3]) (by kernel_rfl) (by simp) ?_
    refine AllReady.cons rfl (fun K hK => ?_) ?_
    · go_simp; refine hK _ _ ?_; clear hK K
      refine wpAny_ready (rs := [1, 3]) (by kernel_rfl) (by simp) ?_
      refine AllReady.cons rfl (fun K hK => ?_) ?_
      · go_simp; refine hK _ _ ?_; clear hK K
        refine wpAny_ready (rs := [3, 4]) (by kernel_rfl) (by simp) ?_
        refine AllReady.cons rfl (fun K hK => ?_) ?_
        · go_simp; refine hK _ _ ?_; clear hK K
          refine wpAny_ready (rs := [4]) (by kernel_rfl) (by simp) ?_
          refine AllReady.cons rfl (fun K hK => ?_) ?_
          · go_simp; refine hK _ _ ?_; clear hK K
            refine wpAny_ready (rs := [5]) (by kernel_rfl) (by simp) ?_
            refine AllReady.cons rfl (fun K hK => ?_) ?_
            · go_simp; refine hK _ _ ?_; clear hK K
              refine wpAny_ready (rs := [6]) (by kernel_rfl) (by simp) ?_
              refine AllReady.cons rfl (fun K hK => ?_) ?_
              · go_simp; refine hK _ _ ?_; clear hK K
                refine wpAny_done (by kernel_rfl) ?_ _
                go_wp2
                refine ⟨by simp, .inl ⟨_, _, rfl, run_takeDeferred (hD2 _ (by repeat (first | with_reducible refine ko_setV ?_ _ _ | with_reducible refine ko_drewV ?_ | with_reducible refine ko_allocV ?_ _ | with_reducible exact KeepsOthers.refl _))), ?_⟩⟩
                rw [HN.out]
                refine find_leaveV w _ D _ n ⟨p, 0, 0, 0⟩ false (by omega) ?_ ?_ rfl rfl rfl ?_ ?_ ?_ ?_ ?_ ?_
                · exact hD2 _ (by repeat (first | with_reducible refine ko_setV ?_ _ _ | with_reducible refine ko_drewV ?_ | with_reducible refine ko_allocV ?_ _ | with_reducible exact KeepsOthers.refl _))
                · exact (Qb1 hI0)
                all_goals go_simp
              exact AllReady.nil
            exact AllReady.nil
          exact AllReady.nil
        refine AllReady.cons rfl (fun K hK => ?_) ?_
        · go_simp; refine hK _ _ ?_; clear hK K
          refine wpAny_ready (rs := [3]) (by kernel_rfl) (by simp) ?_
          refine AllReady.cons rfl (fun K hK => ?_) ?_
          · go_simp; refine hK _ _ ?_; clear hK K
            refine wpAny_ready (rs := [5]) (by kernel_rfl) (by simp) ?_
            refine AllReady.cons rfl (fun K hK => ?_) ?_
            · go_simp; refine hK _ _ ?_; clear hK K
              refine wpAny_ready (rs := [6]) (by kernel_rfl) (by simp) ?_
              refine AllReady.cons rfl (fun K hK => ?_) ?_
              · go_simp; refine hK _ _ ?_; clear hK K
                refine wpAny_done (by kernel_rfl) ?_ _
                go_wp2
                refine ⟨by simp, .inl ⟨_, _, rfl, run_takeDeferred (hD2 _ (by repeat (first | with_reducible refine ko_setV ?_ _ _ | with_reducible refine ko_drewV ?_ | with_reducible refine ko_allocV ?_ _ | with_reducible exact KeepsOthers.refl _))), ?_⟩⟩
                rw [HN.out]
                refine find_leaveV w _ D _ n ⟨p, 0, 0, 0⟩ false (by omega) ?_ ?_ rfl rfl rfl ?_ ?_ ?_ ?_ ?_ ?_
                · exact hD2 _ (by repeat (first | with_reducible refine ko_setV ?_ _ _ | with_reducible refine ko_drewV ?_ | with_reducible refine ko_allocV ?_ _ | with_reducible exact KeepsOthers.refl _))
                · exact (Qb1 hI0)
                all_goals go_simp
              exact AllReady.nil
            exact AllReady.nil
          exact AllReady.nil
        exact AllReady.nil
      refine AllReady.cons rfl (fun K hK => ?_) ?_
      · go_simp; refine hK _ _ ?_; clear hK K
        refine wpAny_ready (rs := [1]) (by kernel_rfl) (by simp) ?_
        refine AllReady.cons rfl (fun K hK => ?_) ?_
        · go_simp; refine hK _ _ ?_; clear hK K
          refine wpAny_ready (rs := [4]) (by kernel_rfl) (by simp) ?_
          refine AllReady.cons rfl (fun K hK => ?_) ?_
          · go_simp; refine hK _ _ ?_; clear hK K
            refine wpAny_ready (rs := [5]) (by kernel_rfl) (by simp) ?_
            refine AllReady.cons rfl (fun K hK => ?_) ?_
            · go_simp; refine hK _ _ ?_; clear hK K
              refine wpAny_ready (rs := [6]) (by kernel_rfl) (by simp) ?_
              refine AllReady.cons rfl (fun K hK => ?_) ?_
              · go_simp; refine hK _ _ ?_; clear hK K
                refine wpAny_done (by kernel_rfl) ?_ _
                go_wp2
                refine ⟨by simp, .inl ⟨_, _, rfl, run_takeDeferred (hD2 _ (by repeat (first | with_reducible refine ko_setV ?_ _ _ | with_reducible refine ko_drewV ?_ | with_reducible refine ko_allocV ?_ _ | with_reducible exact KeepsOthers.refl _))), ?_⟩⟩
                rw [HN.out]
                refine find_leaveV w _ D _ n ⟨p, 0, 0, 0⟩ false (by omega) ?_ ?_ rfl rfl rfl ?_ ?_ ?_ ?_ ?_ ?_
                · exact hD2 _ (by repeat (first | with_reducible refine ko_setV ?_ _ _ | with_reducible refine ko_drewV ?_ | with_reducible refine ko_allocV ?_ _ | with_reducible exact KeepsOthers.refl _))
                · exact (Qb1 hI0)
                all_goals go_simp
              exact AllReady.nil
            exact AllReady.nil
          exact AllReady.nil
        exact AllReady.nil
      exact AllReady.nil
    refine AllReady.cons rfl (fun K hK => ?_) ?_
    · go_simp; refine hK _ _ ?_; clear hK K
      refine wpAny_ready (rs := [0]) (by kernel_rfl) (by simp) ?_
      refine AllReady.cons rfl (fun K hK => ?_) ?_
      · go_simp; refine hK _ _ ?_; clear hK K
        refine wpAny_ready (rs := [1]) (by kernel_rfl) (by simp) ?_
        refine AllReady.cons rfl (fun K hK => ?_) ?_
        · go_simp; refine hK _ _ ?_; clear hK K
          refine wpAny_ready (rs := [4]) (by kernel_rfl) (by simp) ?_
          refine AllReady.cons rfl (fun K hK => ?_) ?_
          · go_simp; refine hK _ _ ?_; clear hK K
            refine wpAny_ready (rs := [5]) (by kernel_rfl) (by simp) ?_
            refine AllReady.cons rfl (fun K hK => ?_) ?_
            · go_simp; refine hK _ _ ?_; clear hK K
              refine wpAny_ready (rs := [6]) (by kernel_rfl) (by simp) ?_
              refine AllReady.cons rfl (fun K hK => ?_) ?_
              · go_simp; refine hK _ _ ?_; clear hK K
                refine wpAny_done (by kernel_rfl) ?_ _
                go_wp2
                refine ⟨by simp, .inl ⟨_, _, rfl, run_takeDeferred (hD2 _ (by repeat (first | with_reducible refine ko_setV ?_ _ _ | with_reducible refine ko_drewV ?_ | with_reducible refine ko_allocV ?_ _ | with_reducible exact KeepsOthers.refl _))), ?_⟩⟩
                rw [HN.out]
                refine find_leaveV w _ D _ n ⟨p, 0, 0, 0⟩ false (by omega) ?_ ?_ rfl rfl rfl ?_ ?_ ?_ ?_ ?_ ?_
                · exact hD2 _ (by repeat (first | with_reducible refine ko_setV ?_ _ _ | with_reducible refine ko_drewV ?_ | with_reducible refine ko_allocV ?_ _ | with_reducible exact KeepsOthers.refl _))
                · exact (Qb1 hI0)
                all_goals go_simp
              exact AllReady.nil
            exact AllReady.nil
          exact AllReady.nil
        exact AllReady.nil
      exact AllReady.nil
    exact AllReady.nil
  exact AllReady.nil
 case stop =>
  intro D pre W hDw hS hI hDd
  obtain ⟨hI0, hI1, q, ⟨k, x⟩, hpx, hpn, q1, q2, q3, q4, q5, q6, hge⟩ := hI
  obtain ⟨j, hj, hpre⟩ := hS
  have hlen := HR.out.1
  obtain ⟨hpj, hxj, rfl⟩ := uptoG_next (d := Sn0) (ls := ls) (j := j) (by omega) (hpx.symm.trans hpre)
  simp only [] at hxj q1 q2 q3 q4 q5 q6 hpj hge
  have hbf : ∀ (t : Nat) y, t < k → ls[t]? = some y → y.peer < p := fun t y ht hy => by
   have h2 := mem_uptoG (d := Sn0) (ls := ls) ht
   rw [hy, ← hpj] at h2
   exact hpn _ h2
  have h4 : getSn ls p = ⟨p, if x.peer = p then x.boot else 0, if x.peer = p then x.life else 0, if x.peer = p then x.mine else 0⟩ := by
   by_cases he : x.peer = p
   · rw [getSn_hit hxj he (fun t y ht hy => by have := hbf t y ht hy; omega)]
     obtain ⟨xp, xb, xl, xm⟩ := x
     simp only [] at he
     simp [he]
   · simp only [he, if_false]
     exact getSn_miss (fun t y hy => by
      rcases Nat.lt_or_ge t k with h1 | h1
      · have := hbf t y h1 hy; omega
      · rcases Nat.lt_or_eq_of_le h1 with h1 | h1
        · have : x.peer < y.peer := pw_lt HP.out hxj hy h1
          omega
        · subst h1
          rw [hxj] at hy
          obtain rfl := Option.some.inj hy
          exact he)
  rw [h4]
  generalize (if x.peer = p then x.boot else 0) = sb at q2 ⊢
  generalize (if x.peer = p then x.life else 0) = sl at q3 ⊢
  generalize (if x.peer = p then x.mine else 0) = sm at q5 ⊢
  clear hbf hpn hpx hpj hxj hpre hlen h4 hge
  simp only [Exit.inBlock, Exit.then]
  gi_wp2
  refine ⟨by simp, .inl ⟨_, _, rfl, run_takeDeferred hDd, ?_⟩⟩
  exact find_leaveV w W D _ k ⟨p, sb, sl, sm⟩ _ (by omega) hDd hI0 rfl rfl rfl q1 q2 q3 q4 q5 q6
set_option maxHeartbeats 4000000 in
theorem sget_any (A : Option Addr) (n c : Nat) (ls : List Sn) (p : Int) (w : World) (hr : RowsE encSn 4 w w.heap.size A n ls) (hp : ls.Pairwise (fun a b => a.peer < b.peer)) (hm : n ≤ 1000) :
    Calls Tryz.prog 122 #[.slice A n c, .int .i64 p] w fun e w' => e = .returned (SnV (getSn ls p)) ∧ Below w.heap.size w w' := by
 have C := Lib.hid (fun W (hb : Below w.heap.size w W) => sfindk_any A n c ls p W ((hr.below hb).more hb.size) hp hm)
 clear hr hp
 generalize getSn ls p = s at C ⊢
 go_enter Tryz.func122, Tryz.ntmps122
 go_wp2_with (fail)
 refine (C.out _ Qb).mono ?_; rintro e w1 ⟨hb1, k, b, rfl⟩
 have hk1 : KeptC w [(⟨w.heap.size, 0, none⟩, .int .i64 0), (⟨w.heap.size, 1, none⟩, .int .i64 0), (⟨w.heap.size, 2, none⟩, .int .i64 0), (⟨w.heap.size, 3, none⟩, .int .i64 0)] [⟨w.heap.size, 0, none⟩, ⟨w.heap.size, 1, none⟩, ⟨w.heap.size, 2, none⟩, ⟨w.heap.size, 3, none⟩] w1 := by
  refine KeptC.below ?_ hb1
  exact Qk
 simp only [KeptC, List.forall_mem_cons] at hk1; obtain ⟨kb1, ⟨kc1_0, kc1_1, kc1_2, kc1_3, _⟩, ⟨kz1_0, kg1_0⟩, ⟨kz1_1, kg1_1⟩, ⟨kz1_2, kg1_2⟩, ⟨kz1_3, kg1_3⟩, _⟩ := hk1
 have hz0 : w.heap.size < w1.heap.size := cell_lt kc1_0
 obtain ⟨sp, sb, sl, sm⟩ := s
 simp only []
 go_wp2_with (fail)
 refine (plain_any ⟨sp, sb, sl, sm⟩ _).mono ?_; rintro e w2 ⟨rfl, hb2⟩
 have hk2 : KeptC w [(⟨w.heap.size, 0, none⟩, .int .i64 0), (⟨w.heap.size, 1, none⟩, .int .i64 0), (⟨w.heap.size, 2, none⟩, .int .i64 0), (⟨w.heap.size, 3, none⟩, .int .i64 0)] [⟨w.heap.size, 0, none⟩, ⟨w.heap.size, 1, none⟩, ⟨w.heap.size, 2, none⟩, ⟨w.heap.size, 3, none⟩] w2 := by
  refine KeptC.below ?_ hb2
  exact Qk1 kb1
 simp only [KeptC, List.forall_mem_cons] at hk2; obtain ⟨kb2, ⟨kc2_0, kc2_1, kc2_2, kc2_3, _⟩, ⟨kz2_0, kg2_0⟩, ⟨kz2_1, kg2_1⟩, ⟨kz2_2, kg2_2⟩, ⟨kz2_3, kg2_3⟩, _⟩ := hk2
 have hz2 : w.heap.size < w2.heap.size := cell_lt kc2_0
 go_wp2
 refine bodyPost_ret (v := SnV ⟨sp, sb, sl, sm⟩) (by simp [results, Tryz.results122, go_sem, *]) rfl ⟨rfl, (Qb1 kb2)⟩
end Go.Proofs.YtkfodkbgmpbmfaaGreat
