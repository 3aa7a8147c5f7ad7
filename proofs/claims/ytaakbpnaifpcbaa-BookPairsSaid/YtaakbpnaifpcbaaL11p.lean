/- Whatever the arguments: eddylaw11's BookPairs returns true. No conditions. -/
import Derived.Test.YtaakbpnaifpcbaaBkL
import Derived.Test.YtaakbpnaifpcbaaB11
import Derived.Test.YtaakbpnaifpcbaaLaw
import Derived.ChangeMaps5
import Derived.Deep.CutRange
import Derived.Deep.Cut
import Derived.Laws.OwnMore
namespace Go.Proofs.Ytaakbpnaifpcbaa
open Go.ChangeShapes Go.WideShapes Go.ChangeAt Go.RowKit Go.Joins Go.ChangeMaps
set_option linter.unusedVariables false
set_option linter.unusedSimpArgs false
set_option maxRecDepth 100000
theorem add_z (p : Addr) : p.add 0 = p := by unfold Addr.add; split <;> simp_all
theorem mod_node (a : Int) (N : Nat) (h : 0 < N) (h16 : N ≤ 16) : ∃ k : Nat, k < N ∧ wrap64 ((IntKind.u64.wrap a).tmod N) = (k : Int) := by
  have h0 : 0 ≤ IntKind.u64.wrap a := by rw [IntKind.wrap_u64]; omega
  rw [Int.tmod_eq_emod_of_nonneg h0]
  have h1 := Int.emod_nonneg (IntKind.u64.wrap a) (show (N : Int) ≠ 0 by omega)
  have h2 := Int.emod_lt_of_pos (IntKind.u64.wrap a) (show (0 : Int) < N by omega)
  refine ⟨(IntKind.u64.wrap a % N).toNat, by omega, ?_⟩
  unfold wrap64
  omega
theorem tmod_bd (f : Int) : -1048576 < f.tmod 1048576 ∧ f.tmod 1048576 < 1048576 := by
  rcases Int.le_total 0 f with h | h
  · rw [Int.tmod_eq_emod_of_nonneg h]; omega
  · have e : f = -(-f) := by omega
    rw [e, Int.neg_tmod, Int.tmod_eq_emod_of_nonneg (by omega)]; omega
theorem tmod_bd2 (f : Int) : -16777216 < f.tmod 16777216 ∧ f.tmod 16777216 < 16777216 := by
  rcases Int.le_total 0 f with h | h
  · rw [Int.tmod_eq_emod_of_nonneg h]; omega
  · have e : f = -(-f) := by omega
    rw [e, Int.neg_tmod, Int.tmod_eq_emod_of_nonneg (by omega)]; omega
theorem Good.sumN_bd {n : Nat} {T : Nat → List Tr} (h : Good n T) (hn : n ≤ 16) : ∀ k : Nat, k ≤ n → -((k : Int) * 16777216) ≤ sumN k (fun i => sumO i (T i)) ∧ sumN k (fun i => sumO i (T i)) ≤ (k : Int) * 16777216
  | 0, _ => by simp [sumN]
  | k + 1, hk => by
    have h1 := Good.sumN_bd h hn k (by omega)
    have h2 := h.sum (i := k) (by omega) hn
    rw [sumN_succ]
    omega
structure Pr where
  a : Int
  b : Int
  f : Int
def encP (p : Pr) : List Value := [.int .i64 p.a, .int .i64 p.b, .int .i64 p.f]
theorem encP_len (p : Pr) : (encP p).length = 3 := rfl
theorem sl_inf : (Try.prog.info? 36).map (fun i => (i.zero, i.size, i.bytes)) = some (some (.slice none 0 0), 1, 24) := by kernel_rfl
/-- The slices of half-edges, as the law's loops have them: the block B of the slices, each list and where it lies. -/
structure BkI (w : World) (B n : Nat) (G : Nat → List HL) (V : Nat → Option Addr × Nat) (W : World) : Prop where
  low : Below w.heap.size w W
  new : w.heap.size ≤ B
  lt : B < W.heap.size
  cell : ∀ i, i < n → W.cell? ⟨B, i, none⟩ = some (.slice (V i).1 (G i).length (V i).2)
  free : ∀ i, i < n → W.frozen? ⟨B, i, none⟩ = false
  at_ : ∀ i, i < n → HsAt W W.heap.size (V i).1 (G i).length (G i)
  ne : ∀ i, i < n → (0 < (G i).length → ∀ ad, (V i).1 = some ad → ad.block ≠ B) ∧ ∀ x ∈ G i, x.la.block ≠ B
theorem BkI.below {w W W' : World} {B n : Nat} {G : Nat → List HL} {V : Nat → Option Addr × Nat} (h : BkI w B n G V W) (hb : Below W.heap.size W W') : BkI w B n G V W' :=
  ⟨h.low.trans (hb.mono h.low.size), h.new, Nat.lt_of_lt_of_le h.lt hb.size, fun i hi => (hb.cell (p := ⟨B, i, none⟩) h.lt).trans (h.cell i hi), fun i hi => (hb.frozen (p := ⟨B, i, none⟩) h.lt).trans (h.free i hi), fun i hi => ((h.at_ i hi).below hb).more hb.size, h.ne⟩
theorem HsAt.setCell {W : World} {B0 n B i : Nat} {A : Option Addr} {xs : List HL} {v : Value} (h : HsAt W B0 A n xs) (h1 : 0 < n → ∀ ad, A = some ad → ad.block ≠ B) (h2 : ∀ x ∈ xs, x.la.block ≠ B) : HsAt (W.setCell ⟨B, i, none⟩ v) B0 A n xs := by
  refine ⟨⟨h.1.1, fun hn => ?_⟩, fun x hx => ⟨(h.2 x hx).1, (h.2 x hx).2.setCell (h2 x hx)⟩⟩
  obtain ⟨ad, e, hB, hc⟩ := h.1.2 hn
  refine ⟨ad, e, hB, fun j x hx t u hu => ?_⟩
  rw [World.cell?_setCell_far _ _ _ _ (by rw [block_of_add, block_of_add]; exact (h1 hn ad e).symm)]
  exact hc j x hx t u hu
theorem own_free {w : World} {base g : Nat} {e : TypeId} {k n c : Nat} {xs : List Value} (h : w.ownsRow base e k (.slice (some ⟨g, 0, none⟩) n c) n xs) (i : Nat) : w.frozen? ⟨g, i, none⟩ = false := by
  rcases h.2 with ⟨h1, _⟩ | ⟨g', cap, cur, h1, _, hcur, _⟩
  · cases h1
  · obtain ⟨h2, _, _⟩ := Value.slice.inj h1
    cases h2
    unfold World.frozen?
    rw [hcur]
    simp
theorem bki_new {w w1 : World} {N : Nat} (hN : 0 < N) (hown : w1.ownsRow w.heap.size 36 1 (.slice (some ⟨w.heap.size, 0, none⟩) N N) N (madeCells (Value.slice none 0 0).cells (N * 1)).toList) (hb : Below w.heap.size w w1) (hlt : w.heap.size < w1.heap.size) : BkI w w.heap.size N (fun _ => []) (fun _ => (none, 0)) w1 := by
  refine ⟨hb, Nat.le_refl _, hlt, fun i hi => ?_, fun i _ => own_free hown i, fun i _ => hs_nil _ _ _, fun i _ => ⟨fun h => by simp at h, fun x hx => by cases hx⟩⟩
  have hR := Reads.of_own hown
  obtain ⟨ad, e, _, hc⟩ := hR.2 hN
  cases e
  have := hc i (.slice none 0 0) (by rw [show (Value.slice none 0 0).cells = #[.slice none 0 0] from rfl, toList_madeCells_one, Nat.mul_one, List.getElem?_replicate, if_pos hi])
  rw [Addr.add_lit, Nat.zero_add] at this
  exact this
theorem KeptC.low {w0 w' : World} {l : List (Addr × Value)} {F : List Addr} (h : KeptC w0 l F w') : Below w0.heap.size w0 w' := h.1
theorem own_done {w : World} {base B : Nat} {v : Value} {xs : List HL} (h : OwnH w base v xs) (hB : B < base) : ∃ A c, v = .slice A xs.length c ∧ HsAt w w.heap.size A xs.length xs ∧ (0 < xs.length → ∀ ad, A = some ad → ad.block ≠ B) ∧ ∀ x ∈ xs, x.la.block ≠ B := by
  obtain ⟨A, c, rfl, hx⟩ := h.at_
  refine ⟨A, c, rfl, hx, fun _ ad e => ?_, fun x hx => by have := h.2.2 x hx; omega⟩
  have := own_ge h.1 ad.block (by subst e; rfl)
  omega
def updG (G : Nat → List HL) (k : Nat) (xs : List HL) (i : Nat) : List HL := if i = k then xs else G i
def updV (V : Nat → Option Addr × Nat) (k : Nat) (v : Option Addr × Nat) (i : Nat) : Option Addr × Nat := if i = k then v else V i
theorem updG_ne {G : Nat → List HL} {k i : Nat} {xs : List HL} (h : i ≠ k) : updG G k xs i = G i := if_neg h
theorem upd_eq {G : Nat → List HL} {a b : Nat} {fl : Int} {X Y : List HL} (hab : a ≠ b) (h1 : X.map hd = putT ((b : Int), (a : Int), fl) ((G a).map hd)) (h2 : Y.map hd = putT ((a : Int), (a : Int), fl) ((updG G a X b).map hd)) : (fun i => (updG (updG G a X) b Y i).map hd) = updT (fun i => (G i).map hd) a b a fl := by
  funext i
  unfold updT
  by_cases e1 : i = a
  · subst e1
    rw [if_pos rfl, updG_ne hab, ← h1]
    unfold updG
    rw [if_pos rfl]
  · rw [if_neg e1]
    by_cases e2 : i = b
    · subst e2
      rw [updG_ne e1] at h2
      rw [if_pos rfl, ← h2]
      unfold updG
      rw [if_pos rfl]
    · rw [if_neg e2, updG_ne e2, updG_ne e1]
/-- One list put anew. -/
theorem BkI.put {w W : World} {B n k c : Nat} {G : Nat → List HL} {V : Nat → Option Addr × Nat} {A : Option Addr} {xs : List HL} (h : BkI w B n G V W) (hk : k < n) (hx : HsAt W W.heap.size A xs.length xs) (h1 : 0 < xs.length → ∀ ad, A = some ad → ad.block ≠ B) (h2 : ∀ x ∈ xs, x.la.block ≠ B) :
    BkI w B n (updG G k xs) (updV V k (A, c)) (W.setCell ⟨B, k, none⟩ (.slice A xs.length c)) := by
  refine ⟨h.low.setCell h.new _, h.new, by simp; exact h.lt, fun i hi => ?_, fun i hi => by rw [World.frozen?_setCell]; exact h.free i hi, fun i hi => ?_, fun i hi => ?_⟩
  · unfold updG updV
    by_cases e : i = k
    · subst e
      rw [if_pos rfl, if_pos rfl]
      exact World.cell?_setCell_same _ _ _ (h.cell i hi)
    · rw [if_neg e, if_neg e, World.cell?_setCell_other _ _ _ _ (fun e2 => e (by have := congrArg Addr.off e2; simpa using this.symm))]
      exact h.cell i hi
  · unfold updG updV
    have hsz : (W.setCell ⟨B, k, none⟩ (.slice A xs.length c)).heap.size = W.heap.size := by simp
    rw [hsz]
    by_cases e : i = k
    · subst e
      rw [if_pos rfl, if_pos rfl]
      exact hx.setCell h1 h2
    · rw [if_neg e, if_neg e]
      exact (h.at_ i hi).setCell (h.ne i hi).1 (h.ne i hi).2
  · unfold updG updV
    by_cases e : i = k
    · subst e
      rw [if_pos rfl, if_pos rfl]
      exact ⟨h1, h2⟩
    · rw [if_neg e, if_neg e]
      exact h.ne i hi
set_option maxRecDepth 100000 in
set_option maxHeartbeats 8000000 in
theorem bookPairs_any (A0 : Option Addr) (n0 cp0 : Nat) (ins : List Int) (A1 : Option Addr) (m cp1 : Nat) (ps : List Pr) (w : World) (hin : Reads w w.heap.size 1 A0 n0 (ins.map (Value.int .i64))) (hii : ∀ x ∈ ins, -9223372036854775808 ≤ x ∧ x < 9223372036854775808) (hm0 : n0 ≤ maxLen) (hp : RowsE encP 3 w w.heap.size A1 m ps) (hm : m * 24 ≤ 140737488351232) :
    Calls Try.prog 3 #[.slice A0 n0 cp0, .slice A1 m cp1] w fun e w' => e = .returned (.bool true) ∧ Below w.heap.size w w' := by
  have HIN := Lib.hid hin
  have HP := Lib.hid hp
  have HII := Lib.hid hii
  clear hin hp hii
  obtain ⟨i0, hi0, hj0, hj1, hj2⟩ := info_parts sl_inf
  unfold maxLen at hm0
  obtain ⟨N, hN⟩ : ∃ N, min n0 16 = N := ⟨_, rfl⟩
  have hN16 : N ≤ 16 := by omega
  have hNn : N ≤ n0 := by omega
  go_enter Try.func3, Try.ntmps3
  go_upto_region 1 with (fail)
  go_cut [5] from 25 to 27 (fun s5 w' => s5 = .int .i64 N ∧ w' = w)
  case first =>
    by_cases h16 : n0 ≤ 16
    · obtain rfl : n0 = N := by omega
      have h16' : (n0 : Int) ≤ 16 := by omega
      go_wp2_with (fail)
      all_goals first | (go_meet; exact ⟨by first | rfl | (simp; omega), rfl⟩) | (exfalso; omega)
    · obtain rfl : 16 = N := by omega
      have h16' : ¬ (n0 : Int) ≤ 16 := by omega
      go_wp2_with (fail)
      all_goals first | (go_meet; exact ⟨by first | rfl | (simp; omega), rfl⟩) | (exfalso; omega)
  case rest =>
  obtain ⟨rfl, hwc⟩ := hcut
  subst hwc
  obtain ⟨w0, hw0⟩ : ∃ w0, w0 = wc := ⟨_, rfl⟩
  subst hw0
  clear hN
  by_cases hn2 : N < 2
  · have hn2' : (N : Int) < 2 := by omega
    go_wp2_with (fail)
    refine (awake_any _).mono ?_; rintro e w1 ⟨rfl, hb1⟩
    go_wp2
    go_ret
    exact ⟨rfl, (by repeat (first | with_reducible refine Below.setCell ?_ (by first | (simp; done) | (simp; omega) | omega) _ | with_reducible refine Below.alloc ?_ (by first | (simp; done) | (simp; omega) | omega) _ | with_reducible refine Below.drew ?_ | with_reducible refine below_drewN ?_ _ | with_reducible exact Below.refl _ _ | with_reducible refine Below.trans ?_ (Below.mono hb1 (by first | (simp; done) | (simp; omega) | omega))))⟩
  have hN2 : 2 ≤ N := by omega
  have hn2' : ¬ (N : Int) < 2 := by omega
  go_wp2_with (at_make; refine wpList_make_full _ rfl _ _ 25 rfl w0.heap.size 36 i0 (.slice none 0 0) 1 Try.underlying25 hi0 hj0 hj1 .i64 .i64 _ _ N rfl rfl rfl rfl (by rw [hj2]; omega) (by unfold maxLen; omega) (Nat.le_refl _) ?_; intro w1 hown1 hgrow1)
  have hgb := (Below.refl w0.heap.size _).grown hgrow1 (Nat.le_refl _) (by simp)
  have kb1 : Below w0.heap.size w0 w1 := (by repeat (first | with_reducible refine Below.setCell ?_ (by first | (simp; done) | (simp; omega) | omega) _ | with_reducible refine Below.alloc ?_ (by first | (simp; done) | (simp; omega) | omega) _ | with_reducible refine Below.drew ?_ | with_reducible refine below_drewN ?_ _ | with_reducible exact Below.refl _ _ | with_reducible refine Below.trans ?_ (Below.mono hgb (by first | (simp; done) | (simp; omega) | omega))))
  have hlt1 : w0.heap.size < w1.heap.size := by have := own_lt hown1 w0.heap.size rfl; exact this
  have HB1 := Lib.hid (bki_new (by omega) hown1 kb1 hlt1)
  clear hown1 hgrow1 hgb kb1 hlt1
  go_loopg [35] m (fun gk i w' => ∃ (j : Nat) (G : Nat → List HL) (V : Nat → Option Addr × Nat), gk + j = m ∧ i = .int .i64 j ∧ Hid (BkI w0 w0.heap.size N G V w') ∧ Hid (Good N (fun i => (G i).map hd)))
  case atStart => exact ⟨0, _, _, by omega, rfl, HB1, Lib.hid (good_nil N)⟩
  case round =>
    obtain ⟨j, G, V, hj, rfl, HB, HG⟩ := hrel
    clear HB1
    have kb0 := HB.out.low
    have hs0 := kb0.size
    by_cases hlt : j < m
    · skip
      obtain ⟨ad, pr, rfl, hab, hx, hc3⟩ := HP.out.get hlt
      obtain ⟨P, hPq⟩ : ∃ P, ad.add (j * 3) = P := ⟨_, rfl⟩
      have hPb : P.block < w0.heap.size := by rw [← hPq, block_of_add]; exact hab
      rw [hPq] at hc3
      have hPw : P.block < wr.heap.size := by omega
      have c0 : wr.cell? P = some (.int .i64 pr.a) := (kb0.cell hPb).trans (by have := hc3 0 _ rfl; rwa [add_z P] at this)
      have c1 : wr.cell? ⟨P.block, P.off + 1, none⟩ = some (.int .i64 pr.b) := (kb0.cell (p := ⟨_, _, none⟩) hPb).trans (by have := hc3 1 _ rfl; rwa [add_next P 0] at this)
      have c2 : wr.cell? ⟨P.block, P.off + 2, none⟩ = some (.int .i64 pr.f) := (kb0.cell (p := ⟨_, _, none⟩) hPb).trans (by have := hc3 2 _ rfl; rwa [add_next P 1] at this)
      clear hx hc3
      go_wp2_with (fail)
      go_quiet (fail)
      go_upto_region 9 with (fail)
      obtain ⟨a, ha, hae⟩ := mod_node pr.a N (by omega) hN16
      obtain ⟨b, hb, hbe⟩ := mod_node pr.b N (by omega) hN16
      rw [hae, hbe]
      clear hae hbe
      obtain ⟨fl, hfl⟩ : ∃ fl, pr.f.tmod 1048576 = fl := ⟨_, rfl⟩
      obtain ⟨hf1, hf2⟩ := tmod_bd pr.f
      rw [hfl] at hf1 hf2
      refine lay0 (fun W => Below wr.heap.size wr W ∧ W.cell? ⟨wr.heap.size, 2, none⟩ = some (.int .i64 pr.f)) ⟨(by repeat (first | with_reducible refine Below.setCell ?_ (by first | (simp; done) | (simp; omega) | omega) _ | with_reducible refine Below.alloc ?_ (by first | (simp; done) | (simp; omega) | omega) _ | with_reducible refine Below.drew ?_ | with_reducible refine below_drewN ?_ _ | with_reducible exact Below.refl _ _)), by go_simp⟩ ?_
      rintro w2 ⟨k2, f2⟩
      have HB2 := Lib.hid (HB.out.below k2)
      have hs2 := k2.size
      have hl2 := cell_lt f2
      simp only [] at hl2
      have hca := HB2.out.cell a ha
      have hBlt := HB2.out.lt
      clear c0 c1 c2 HB kb0 hs0 hPw
      go_wp2_with (fail)
      refine (rfind_any (V a).1 (G a).length (V a).2 (G a) b _ (((HB2.out.at_ a ha).below (by repeat (first | with_reducible refine Below.setCell ?_ (by first | (simp; done) | (simp; omega) | omega) _ | with_reducible refine Below.alloc ?_ (by first | (simp; done) | (simp; omega) | omega) _ | with_reducible refine Below.drew ?_ | with_reducible refine below_drewN ?_ _ | with_reducible exact Below.refl _ _))).more (by simp)) (by have := HG.out.len ha; rw [List.length_map] at this; omega)).mono ?_
      rintro e w3 ⟨q1, q2, q3, q4, q5, q6, q7, q8, rfl, hb3⟩
      have g0 : w3.cell? ⟨w2.heap.size, 0, none⟩ = some (.int .i64 1) := (hb3.cell (p := ⟨w2.heap.size, 0, none⟩) (by first | (simp; done) | (simp; omega) | omega)).trans (by go_simp)
      have g1 : w3.cell? ⟨w2.heap.size, 1, none⟩ = some (.int .i64 a) := (hb3.cell (p := ⟨w2.heap.size, 1, none⟩) (by first | (simp; done) | (simp; omega) | omega)).trans (by go_simp)
      have g2 : w3.cell? ⟨w2.heap.size, 2, none⟩ = some (.int .i64 fl) := (hb3.cell (p := ⟨w2.heap.size, 2, none⟩) (by first | (simp; done) | (simp; omega) | omega)).trans (by go_simp)
      have k3 : Below w2.heap.size w2 w3 := (by repeat (first | with_reducible refine Below.setCell ?_ (by first | (simp; done) | (simp; omega) | omega) _ | with_reducible refine Below.alloc ?_ (by first | (simp; done) | (simp; omega) | omega) _ | with_reducible refine Below.drew ?_ | with_reducible refine below_drewN ?_ _ | with_reducible exact Below.refl _ _ | with_reducible refine Below.trans ?_ (Below.mono hb3 (by first | (simp; done) | (simp; omega) | omega))))
      have hs3 : w2.heap.size < w3.heap.size := cell_lt g0
      clear hb3 hca
      have CONT : Hid (∀ W, Below w3.heap.size w3 W → BkI w0 w0.heap.size N G V W) := Lib.hid (fun W h => (HB2.out.below k3).below h)
      have hjm : gk ≠ 0 := by omega
      by_cases hab : a = b
      · have hab' : ((a : Int) == (b : Int)) = true := by rw [beq_iff_eq]; omega
        go_wp2
        go_roundg (gk - 1)
        case measure => omega
        case rel => exact ⟨j + 1, G, V, by omega, by go_num, Lib.hid (CONT.out _ (by repeat (first | with_reducible refine Below.setCell ?_ (by first | (simp; done) | (simp; omega) | omega) _ | with_reducible refine Below.alloc ?_ (by first | (simp; done) | (simp; omega) | omega) _ | with_reducible refine Below.drew ?_ | with_reducible refine below_drewN ?_ _ | with_reducible exact Below.refl _ _))), HG⟩
      have hab' : ((a : Int) == (b : Int)) = false := by rw [beq_eq_false_iff_ne]; omega
      cases hth : hasT b ((G a).map hd) with
      | true =>
        go_wp2
        go_roundg (gk - 1)
        case measure => omega
        case rel => exact ⟨j + 1, G, V, by omega, by go_num, Lib.hid (CONT.out _ (by repeat (first | with_reducible refine Below.setCell ?_ (by first | (simp; done) | (simp; omega) | omega) _ | with_reducible refine Below.alloc ?_ (by first | (simp; done) | (simp; omega) | omega) _ | with_reducible refine Below.drew ?_ | with_reducible refine below_drewN ?_ _ | with_reducible exact Below.refl _ _))), HG⟩
      | false =>
      go_upto_region 12 with (fail)
      refine lay0 (fun W => Below w2.heap.size w2 W ∧ W.cell? ⟨w2.heap.size, 0, none⟩ = some (.int .i64 1) ∧ W.cell? ⟨w2.heap.size, 1, none⟩ = some (.int .i64 a) ∧ W.cell? ⟨w2.heap.size, 2, none⟩ = some (.int .i64 fl)) ⟨(by repeat (first | with_reducible refine Below.setCell ?_ (by first | (simp; done) | (simp; omega) | omega) _ | with_reducible refine Below.alloc ?_ (by first | (simp; done) | (simp; omega) | omega) _ | with_reducible refine Below.drew ?_ | with_reducible refine below_drewN ?_ _ | with_reducible exact Below.refl _ _ | with_reducible refine Below.trans ?_ (Below.mono k3 (by first | (simp; done) | (simp; omega) | omega)))), by go_simp, by go_simp, by go_simp⟩ ?_
      clear g0 g1 g2 k3 hs3 CONT
      rintro w4 ⟨k4, g0, g1, g2⟩
      have HB4 := Lib.hid (HB2.out.below k4)
      have hln : (G a).length ≤ 1000 := by have h0 := HG.out.len ha; rw [List.length_map] at h0; omega
      have K4 : KeptC w4 [(⟨w0.heap.size, a, none⟩, .slice (V a).1 (G a).length (V a).2), (⟨w2.heap.size, 0, none⟩, .int .i64 1), (⟨w2.heap.size, 1, none⟩, .int .i64 a), (⟨w2.heap.size, 2, none⟩, .int .i64 fl)] [⟨w0.heap.size, a, none⟩] w4 := KeptC.cons (HB4.out.cell a ha) (KeptC.cons g0 (KeptC.cons g1 (KeptC.cons g2 (KeptC.consF HB4.out.lt (HB4.out.free a ha) (KeptC.mk0 (Below.refl _ _))))))
      have cput := fun (W : World) (la : Addr) (lc : Nat) (hbW : Below w4.heap.size w4 W) (h1 : la.block < W.heap.size) (h2 : line4 W la a fl) => rput_any (V a).1 (G a).length (V a).2 (G a) ⟨b, a, fl, la, lc⟩ W (((HB4.out.at_ a ha).below hbW).more hbW.size) hln h1 h2
      have CPUT := Lib.hid cput
      clear cput
      have hBlt := HB4.out.lt
      have hB2 : w0.heap.size < w2.heap.size := HB2.out.lt
      have cfin := fun (W : World) (A3 : Option Addr) (c3 : Nat) (OL : List HL) (hk : Below w4.heap.size w4 W) (hx : HsAt W W.heap.size A3 OL.length OL) (h1 : 0 < OL.length → ∀ ad, A3 = some ad → ad.block ≠ w0.heap.size) (h2 : ∀ x ∈ OL, x.la.block ≠ w0.heap.size) => (HB4.out.below hk).put ha (c := c3) hx h1 h2
      have CFIN := Lib.hid cfin
      clear cfin
      have kc9_0 := HB4.out.cell a ha
      have kg9_0 := HB4.out.free a ha
      go_upto_region 12 with (fail)
      go_cut [] from 73 to 84 (fun w' => ∃ (A3 : Option Addr) (c3 : Nat) (OL : List HL), Hid (BkI w0 w0.heap.size N (updG G a OL) (updV V a (A3, c3)) w') ∧ Hid (OL.map hd = putT ((b : Int), a, fl) ((G a).map hd)) ∧ w2.heap.size < w'.heap.size ∧ w'.cell? ⟨w2.heap.size, 0, none⟩ = some (.int .i64 1) ∧ w'.cell? ⟨w2.heap.size, 1, none⟩ = some (.int .i64 a) ∧ w'.cell? ⟨w2.heap.size, 2, none⟩ = some (.int .i64 fl))
      case first =>
        skip
        go_region_with (first | ((with_reducible refine (rbegin_any _ _ _ _).mono ?_); rintro e w9 ⟨rfl, hb9⟩; (first | have hk9 := KeptC.below (by with_reducible assumption) hb9 | have hk9 := KeptC.below (KeptC.drewn (by with_reducible assumption)) hb9); clear hb9; have hL9 := KeptC.low hk9; have hz9 := hL9.size; have hk9' := hk9; simp only [KeptC, List.forall_mem_cons] at hk9'; obtain ⟨kb9, ⟨kc9_0, kc9_1, kc9_2, kc9_3, _⟩, ⟨kz9_0, kg9_0⟩, _⟩ := hk9') | ((with_reducible refine (rwrite_any _ _ _ _).mono ?_); rintro e w9 ⟨la, lc, rfl, hla, hl4, hb9⟩; (first | have hk9 := KeptC.below (by with_reducible assumption) hb9 | have hk9 := KeptC.below (KeptC.drewn (by with_reducible assumption)) hb9); clear hb9; have hL9 := KeptC.low hk9; have hz9 := hL9.size; have hk9' := hk9; simp only [KeptC, List.forall_mem_cons] at hk9'; obtain ⟨kb9, ⟨kc9_0, kc9_1, kc9_2, kc9_3, _⟩, ⟨kz9_0, kg9_0⟩, _⟩ := hk9') | ((with_reducible refine (CPUT.out _ la lc ?_ ?_ ?_).mono ?_); (first | exact KeptC.low (by with_reducible assumption) | exact KeptC.low (KeptC.drewn (by with_reducible assumption))); (first | with_reducible assumption | exact hla); (first | with_reducible assumption | exact hl4 | exact hl4.same rfl); rintro e w9 ⟨lv, OL, rfl, hO, hOh, hOn, hb9⟩; obtain ⟨A3, c3, rfl, hX, h1, h2⟩ := own_done (B := w0.heap.size) hO (by first | omega | (simp; omega)); clear hO; (first | have hk9 := KeptC.below (by with_reducible assumption) hb9 | have hk9 := KeptC.below (KeptC.drewn (by with_reducible assumption)) hb9); clear hb9; have hL9 := KeptC.low hk9; have hz9 := hL9.size; have hk9' := hk9; simp only [KeptC, List.forall_mem_cons] at hk9'; obtain ⟨kb9, ⟨kc9_0, kc9_1, kc9_2, kc9_3, _⟩, ⟨kz9_0, kg9_0⟩, _⟩ := hk9'))
        all_goals
          go_wp2_with (fail)
          go_meet
          have q9 := cell_lt kc9_1
          exact ⟨A3, c3, OL, Lib.hid (CFIN.out w9 A3 c3 OL hL9 hX h1 h2), Lib.hid hOh, by simpa using q9, (World.cell?_setCell_far _ _ _ _ (by simp only []; omega)).trans kc9_1, (World.cell?_setCell_far _ _ _ _ (by simp only []; omega)).trans kc9_2, (World.cell?_setCell_far _ _ _ _ (by simp only []; omega)).trans kc9_3⟩
      case rest =>
      obtain ⟨A3_5, c3_5, OL_5, HB_5, HO_5, hl_5, g50, g51, g52⟩ := hcut
      obtain ⟨w5, hw5⟩ : ∃ w5, w5 = wc := ⟨_, rfl⟩
      subst hw5
      clear kc9_0 kg9_0 CFIN CPUT K4 hBlt hB2 hln
      clear g0 g1 g2 k4 HB4
      have hln : (updG G a OL_5 b).length ≤ 1000 := by have h0 := HG.out.len hb; rw [List.length_map] at h0; rw [updG_ne (Ne.symm hab)]; omega
      have K4 : KeptC w5 [(⟨w0.heap.size, b, none⟩, .slice ((updV V a (A3_5, c3_5)) b).1 ((updG G a OL_5) b).length ((updV V a (A3_5, c3_5)) b).2), (⟨w2.heap.size, 0, none⟩, .int .i64 1), (⟨w2.heap.size, 1, none⟩, .int .i64 a), (⟨w2.heap.size, 2, none⟩, .int .i64 fl)] [⟨w0.heap.size, b, none⟩] w5 := KeptC.cons (HB_5.out.cell b hb) (KeptC.cons g50 (KeptC.cons g51 (KeptC.cons g52 (KeptC.consF HB_5.out.lt (HB_5.out.free b hb) (KeptC.mk0 (Below.refl _ _))))))
      have cput := fun (W : World) (la : Addr) (lc : Nat) (hbW : Below w5.heap.size w5 W) (h1 : la.block < W.heap.size) (h2 : line4 W la a fl) => rput_any ((updV V a (A3_5, c3_5)) b).1 ((updG G a OL_5) b).length ((updV V a (A3_5, c3_5)) b).2 ((updG G a OL_5) b) ⟨a, a, fl, la, lc⟩ W (((HB_5.out.at_ b hb).below hbW).more hbW.size) hln h1 h2
      have CPUT := Lib.hid cput
      clear cput
      have hBlt := HB_5.out.lt
      have hB2 : w0.heap.size < w2.heap.size := HB2.out.lt
      have cfin := fun (W : World) (A3 : Option Addr) (c3 : Nat) (OL : List HL) (hk : Below w5.heap.size w5 W) (hx : HsAt W W.heap.size A3 OL.length OL) (h1 : 0 < OL.length → ∀ ad, A3 = some ad → ad.block ≠ w0.heap.size) (h2 : ∀ x ∈ OL, x.la.block ≠ w0.heap.size) => (HB_5.out.below hk).put hb (c := c3) hx h1 h2
      have CFIN := Lib.hid cfin
      clear cfin
      have kc9_0 := HB_5.out.cell b hb
      have kg9_0 := HB_5.out.free b hb
      go_upto_region 13 with (fail)
      go_cut [] from 85 to 96 (fun w' => ∃ (A3 : Option Addr) (c3 : Nat) (OL : List HL), Hid (BkI w0 w0.heap.size N (updG (updG G a OL_5) b OL) (updV (updV V a (A3_5, c3_5)) b (A3, c3)) w') ∧ Hid (OL.map hd = putT ((a : Int), a, fl) (((updG G a OL_5) b).map hd)) ∧ w2.heap.size < w'.heap.size ∧ w'.cell? ⟨w2.heap.size, 0, none⟩ = some (.int .i64 1) ∧ w'.cell? ⟨w2.heap.size, 1, none⟩ = some (.int .i64 a) ∧ w'.cell? ⟨w2.heap.size, 2, none⟩ = some (.int .i64 fl))
      case first =>
        skip
        go_region_with (first | ((with_reducible refine (rbegin_any _ _ _ _).mono ?_); rintro e w9 ⟨rfl, hb9⟩; (first | have hk9 := KeptC.below (by with_reducible assumption) hb9 | have hk9 := KeptC.below (KeptC.drewn (by with_reducible assumption)) hb9); clear hb9; have hL9 := KeptC.low hk9; have hz9 := hL9.size; have hk9' := hk9; simp only [KeptC, List.forall_mem_cons] at hk9'; obtain ⟨kb9, ⟨kc9_0, kc9_1, kc9_2, kc9_3, _⟩, ⟨kz9_0, kg9_0⟩, _⟩ := hk9') | ((with_reducible refine (rwrite_any _ _ _ _).mono ?_); rintro e w9 ⟨la, lc, rfl, hla, hl4, hb9⟩; (first | have hk9 := KeptC.below (by with_reducible assumption) hb9 | have hk9 := KeptC.below (KeptC.drewn (by with_reducible assumption)) hb9); clear hb9; have hL9 := KeptC.low hk9; have hz9 := hL9.size; have hk9' := hk9; simp only [KeptC, List.forall_mem_cons] at hk9'; obtain ⟨kb9, ⟨kc9_0, kc9_1, kc9_2, kc9_3, _⟩, ⟨kz9_0, kg9_0⟩, _⟩ := hk9') | ((with_reducible refine (CPUT.out _ la lc ?_ ?_ ?_).mono ?_); (first | exact KeptC.low (by with_reducible assumption) | exact KeptC.low (KeptC.drewn (by with_reducible assumption))); (first | with_reducible assumption | exact hla); (first | with_reducible assumption | exact hl4 | exact hl4.same rfl); rintro e w9 ⟨lv, OL, rfl, hO, hOh, hOn, hb9⟩; obtain ⟨A3, c3, rfl, hX, h1, h2⟩ := own_done (B := w0.heap.size) hO (by first | omega | (simp; omega)); clear hO; (first | have hk9 := KeptC.below (by with_reducible assumption) hb9 | have hk9 := KeptC.below (KeptC.drewn (by with_reducible assumption)) hb9); clear hb9; have hL9 := KeptC.low hk9; have hz9 := hL9.size; have hk9' := hk9; simp only [KeptC, List.forall_mem_cons] at hk9'; obtain ⟨kb9, ⟨kc9_0, kc9_1, kc9_2, kc9_3, _⟩, ⟨kz9_0, kg9_0⟩, _⟩ := hk9'))
        all_goals
          go_wp2_with (fail)
          go_meet
          have q9 := cell_lt kc9_1
          exact ⟨A3, c3, OL, Lib.hid (CFIN.out w9 A3 c3 OL hL9 hX h1 h2), Lib.hid hOh, by simpa using q9, (World.cell?_setCell_far _ _ _ _ (by simp only []; omega)).trans kc9_1, (World.cell?_setCell_far _ _ _ _ (by simp only []; omega)).trans kc9_2, (World.cell?_setCell_far _ _ _ _ (by simp only []; omega)).trans kc9_3⟩
      case rest =>
      obtain ⟨A3_6, c3_6, OL_6, HB_6, HO_6, hl_6, g60, g61, g62⟩ := hcut
      obtain ⟨w6, hw6⟩ : ∃ w6, w6 = wc := ⟨_, rfl⟩
      subst hw6
      clear kc9_0 kg9_0 CFIN CPUT K4 hBlt hB2 hln
      clear g50 g51 g52 HB_5
      have HG6 := Lib.hid (good_step HG.out ha hb hab hth hf1 hf2 (wr := (a : Int)))
      rw [← upd_eq hab HO_5.out HO_6.out] at HG6
      obtain ⟨x, hx⟩ : ∃ x, outR 1 a fl a b = x := ⟨_, rfl⟩
      have hx2 : outR 1 a fl b a = -x := by rw [← hx]; exact outR_anti (by omega)
      have hx3 := outR_small (v := 1) (wr := (a : Int)) (f := fl) (a := (a : Int)) (b := (b : Int)) (c := 1048576) (by omega) (by omega) (by omega)
      rw [hx] at hx3
      obtain ⟨hx4, hx5⟩ := hx3
      have ca := rout_any 1 a fl a b
      rw [hx] at ca
      have CA := Lib.hid ca
      clear ca
      have cb := rout_any 1 a fl b a
      rw [hx2] at cb
      have CB := Lib.hid cb
      clear cb hx hx2
      have hng : IntKind.i64.wrap (- -x) = x := by rw [Int.neg_neg]; exact IntWalk.i64_in _ (by omega)
      have hng2 : IntKind.i64.wrap x = x := IntWalk.i64_in _ (by omega)
      have HBf := HB_6
      clear hl_5 hl_6 HO_5 HO_6 HB_6 HB2 hs2 hl2 hBlt
      have K6 : KeptC w6 [(⟨w2.heap.size, 0, none⟩, .int .i64 1), (⟨w2.heap.size, 1, none⟩, .int .i64 a), (⟨w2.heap.size, 2, none⟩, .int .i64 fl)] [] w6 := KeptC.cons g60 (KeptC.cons g61 (KeptC.cons g62 (KeptC.mk0 (Below.refl _ _))))
      go_upto_region 14 with (fail)
      go_region_with (first | ((with_reducible refine (CA.out _).mono ?_); rintro e w9 ⟨rfl, hb9⟩; (first | have hk9 := KeptC.below (by with_reducible assumption) hb9 | have hk9 := KeptC.below (KeptC.drewn (by with_reducible assumption)) hb9); clear hb9; have hL9 := KeptC.low hk9; have hz9 := hL9.size; have hk9' := hk9; simp only [KeptC, List.forall_mem_cons] at hk9'; obtain ⟨kb9, ⟨kc9_0, kc9_1, kc9_2, _⟩, _⟩ := hk9') | ((with_reducible refine (CB.out _).mono ?_); rintro e w9 ⟨rfl, hb9⟩; (first | have hk9 := KeptC.below (by with_reducible assumption) hb9 | have hk9 := KeptC.below (KeptC.drewn (by with_reducible assumption)) hb9); clear hb9; have hL9 := KeptC.low hk9; have hz9 := hL9.size; have hk9' := hk9; simp only [KeptC, List.forall_mem_cons] at hk9'; obtain ⟨kb9, ⟨kc9_0, kc9_1, kc9_2, _⟩, _⟩ := hk9'))
      all_goals
        go_wp2_with (fail)
        go_roundg (gk - 1)
        case measure => omega
        case rel => exact ⟨j + 1, _, _, by omega, by go_num, Lib.hid (HBf.out.below (by repeat (first | with_reducible refine Below.setCell ?_ (by first | (simp; done) | (simp; omega) | omega) _ | with_reducible refine Below.alloc ?_ (by first | (simp; done) | (simp; omega) | omega) _ | with_reducible refine Below.drew ?_ | with_reducible refine below_drewN ?_ _ | with_reducible exact Below.refl _ _ | with_reducible refine Below.trans ?_ (Below.mono hL9 (by first | (simp; done) | (simp; omega) | omega))))), HG6⟩
    · obtain rfl : j = m := by omega
      have kbr := HB.out.low
      have hsr := kbr.size
      go_wp2_with (fail)
      go_loopg [14, 15, 109] N (fun gk s14 s15 s109 w' => ∃ (k : Nat) (si so : Int), gk + k = N ∧ s109 = .int .i64 k ∧ s14 = .int .i64 si ∧ s15 = .int .i64 so ∧ Hid (so = si - sumN k (fun i => sumO i ((G i).map hd)) ∧ -((k : Int) * 16777216) ≤ si ∧ si ≤ (k : Int) * 16777216) ∧ Hid (BkI w0 w0.heap.size N G V w'))
      case atStart => exact ⟨0, 0, 0, by omega, rfl, rfl, rfl, Lib.hid ⟨rfl, by omega, by omega⟩, HB⟩
      case round =>
        obtain ⟨k, si, so, hk, rfl, rfl, rfl, HS, HB7⟩ := hrel
        clear HB
        obtain ⟨go, hgo⟩ : ∃ go, go = gk := ⟨_, rfl⟩
        subst hgo
        obtain ⟨wo, hwo⟩ : ∃ wo, wo = wr := ⟨_, rfl⟩
        subst hwo
        by_cases hlt7 : k < N
        · obtain ⟨ad, u, rfl, hab, hx, hc⟩ := HIN.out.at_ (show k < n0 by omega)
          rw [List.getElem?_map] at hx
          obtain ⟨x0, hx0, rfl⟩ := Option.map_eq_some_iff.1 hx
          have hc7 := (HB7.out.low.cell (p := ad.add k) (by rw [block_of_add]; exact hab)).trans hc
          have hcs := HB7.out.cell k hlt7
          obtain ⟨hS0, hS1, hS2⟩ := HS.out
          have hsb := HG.out.sumN_bd hN16 k (by omega)
          obtain ⟨sn, hsn⟩ : ∃ sn, sumN k (fun i => sumO i ((G i).map hd)) = sn := ⟨_, rfl⟩
          rw [hsn] at hsb hS0
          have hs7 : -16777216 ≤ sumO k ((G k).map hd) ∧ sumO k ((G k).map hd) ≤ 16777216 := HG.out.sum hlt7 hN16
          obtain ⟨sk, hsk⟩ : ∃ sk, sumO (k : Int) ((G k).map hd) = sk := ⟨_, rfl⟩
          rw [hsk] at hs7
          have hsi1 : -268435456 ≤ si ∧ si ≤ 268435456 := by omega
          have hso1 : -536870912 ≤ so ∧ so ≤ 536870912 := by omega
          obtain ⟨hsi1, hsi2⟩ := hsi1
          obtain ⟨hso1, hso2⟩ := hso1
          obtain ⟨hs71, hs72⟩ := hs7
          go_upto_region 22 with (fail)
          obtain ⟨x, hx⟩ : ∃ x, x0.tmod 16777216 = x := ⟨_, rfl⟩
          have hxb : -16777216 < x ∧ x < 16777216 := by rw [← hx]; exact tmod_bd2 x0
          obtain ⟨hx1, hx2⟩ := hxb
          rw [hx]
          have htell : tellT (x + (-1) * sumT (fun _ => true) ((G k).map (outH k))) = (x - sk, 0) := by
            rw [sumT_outH, hsk]
            unfold tellT
            rw [if_pos (by unfold flowsB; simp; omega)]
            simp
            omega
          have ce := fun (W : World) (hb : Below wo.heap.size wo W) => estimate_any k x (V k).1 (G k).length (V k).2 (G k) W (((HB7.out.at_ k hlt7).below hb).more hb.size) (by have h0 := HG.out.len hlt7; rw [List.length_map] at h0; omega) (by omega) (by omega)
          simp only [htell] at ce
          have CE := Lib.hid ce
          clear ce htell
          have e1 : IntKind.i64.wrap (si + x) = si + x := IntWalk.i64_in _ (by omega)
          have e2 : IntKind.i64.wrap (so + (x - sk)) = so + (x - sk) := IntWalk.i64_in _ (by omega)
          go_wp2_with (fail)
          refine (CE.out _ (by repeat (first | with_reducible refine Below.setCell ?_ (by first | (simp; done) | (simp; omega) | omega) _ | with_reducible refine Below.alloc ?_ (by first | (simp; done) | (simp; omega) | omega) _ | with_reducible refine Below.drew ?_ | with_reducible refine below_drewN ?_ _ | with_reducible exact Below.refl _ _))).mono ?_; rintro e w8 ⟨rfl, hb8⟩
          have k8 : Below wo.heap.size wo w8 := (by repeat (first | with_reducible refine Below.setCell ?_ (by first | (simp; done) | (simp; omega) | omega) _ | with_reducible refine Below.alloc ?_ (by first | (simp; done) | (simp; omega) | omega) _ | with_reducible refine Below.drew ?_ | with_reducible refine below_drewN ?_ _ | with_reducible exact Below.refl _ _ | with_reducible refine Below.trans ?_ (Below.mono hb8 (by first | (simp; done) | (simp; omega) | omega))))
          have HB8 := Lib.hid (HB7.out.below k8)
          have hcs8 := HB8.out.cell k hlt7
          have hl8 := HB8.out.lt
          clear hcs hc7 hc CE hb8
          go_wp2_with (fail)
          refine (page_any k (V k).1 (G k).length (V k).2 (G k) _ (((HB8.out.at_ k hlt7).below (by repeat (first | with_reducible refine Below.setCell ?_ (by first | (simp; done) | (simp; omega) | omega) _ | with_reducible refine Below.alloc ?_ (by first | (simp; done) | (simp; omega) | omega) _ | with_reducible refine Below.drew ?_ | with_reducible refine below_drewN ?_ _ | with_reducible exact Below.refl _ _))).more (by first | exact Nat.le_refl _ | simp)) (by have h0 := HG.out.len hlt7; rw [List.length_map] at h0; omega)).mono ?_; rintro e w9 ⟨lv, rfl, hown9, hb9⟩
          obtain ⟨A9, c9, rfl, hE9⟩ := OwnE.at_ encE_len hown9
          have HE9 := Lib.hid hE9
          have k9 : Below w8.heap.size w8 w9 := (by repeat (first | with_reducible refine Below.setCell ?_ (by first | (simp; done) | (simp; omega) | omega) _ | with_reducible refine Below.alloc ?_ (by first | (simp; done) | (simp; omega) | omega) _ | with_reducible refine Below.drew ?_ | with_reducible refine below_drewN ?_ _ | with_reducible exact Below.refl _ _ | with_reducible refine Below.trans ?_ (Below.mono hb9 (by first | (simp; done) | (simp; omega) | omega))))
          have HB9 := Lib.hid (HB8.out.below k9)
          have hl9 := HB9.out.lt
          have hq9 : ((G k).map (outH k)).length ≤ 16 := by have h0 := HG.out.len hlt7; rw [List.length_map] at h0 ⊢; omega
          clear hown9 hE9 hb9 hcs8 hl8 HB7 HB8
          go_wp2_with (fail)
          go_loopg [142] (G k).length (fun gk3 s142 w' => ∃ q : Nat, gk3 + q = (G k).length ∧ s142 = .int .i64 q ∧ Below w9.heap.size w9 w')
          case atStart => exact ⟨0, by omega, rfl, Below.refl _ _⟩
          case round =>
            obtain ⟨q, hq, rfl, k10⟩ := hrel
            have hs10 := k10.size
            by_cases hlt10 : q < (G k).length
            · obtain ⟨ad9, y, rfl, hab9, hy, hcE⟩ := HE9.out.get (show q < ((G k).map (outH k)).length by rw [List.length_map]; exact hlt10)
              obtain ⟨P9, hP9⟩ : ∃ P9, ad9.add (q * 2) = P9 := ⟨_, rfl⟩
              have hPb9 : P9.block < w9.heap.size := by rw [← hP9, block_of_add]; exact hab9
              rw [hP9] at hcE
              have hPw9 : P9.block < wr.heap.size := by omega
              have c0 : wr.cell? P9 = some (.int .i64 y.1) := (k10.cell hPb9).trans (by have := hcE 0 _ rfl; rwa [add_z P9] at this)
              have c1 : wr.cell? ⟨P9.block, P9.off + 1, none⟩ = some (.int .i64 y.2) := (k10.cell (p := ⟨_, _, none⟩) hPb9).trans (by have := hcE 1 _ rfl; rwa [add_next P9 0] at this)
              obtain ⟨hh, hhm, hhy⟩ := List.mem_map.1 (List.mem_of_getElem? hy)
              have hbd := HG.out.bd k hlt7 (hd hh) (List.mem_map_of_mem hhm)
              have hans := HG.out.answer hlt7 (t := hd hh) (List.mem_map_of_mem hhm)
              have HANS := Lib.hid hans
              have hy1 : y.1 = hh.peer := by rw [← hhy]; rfl
              obtain ⟨p, hp⟩ : ∃ p : Nat, y.1 = (p : Int) := ⟨y.1.toNat, by have := hbd.1; rw [hy1]; have e : (hd hh).1 = hh.peer := rfl; omega⟩
              have hpN : p < N := by have h2 := hbd.2.1; have e : (hd hh).1 = hh.peer := rfl; omega
              rw [hp] at c0
              clear hcE hans hbd
              have HB10 := Lib.hid (HB9.out.below k10)
              have hcs10 := HB10.out.cell p hpN
              have hl10 := HB10.out.lt
              have cp := fun (W : World) (hb : Below wr.heap.size wr W) => page_any p (V p).1 (G p).length (V p).2 (G p) W (((HB10.out.at_ p hpN).below hb).more hb.size) (by have h0 := HG.out.len hpN; rw [List.length_map] at h0; omega)
              have CP := Lib.hid cp
              clear cp
              have hall : ((G p).map (outH (p : Int))).any (fun z => z.1 == (k : Int) && z.2 == -y.2) = true := by
                have h := HANS.out
                have e1 : (hd hh).1 = (p : Int) := by have e : (hd hh).1 = hh.peer := rfl; rw [e, ← hy1, hp]
                rw [e1] at h
                simp only [Int.toNat_natCast, List.map_map] at h
                rw [← hhy]
                exact h
              have hyb : -2147483647 ≤ y.2 ∧ y.2 ≤ 2147483647 := by rw [← hhy]; exact outH_bd _ _
              obtain ⟨hyb1, hyb2⟩ := hyb
              obtain ⟨g3, hg3⟩ : ∃ g3, g3 = gk := ⟨_, rfl⟩
              subst hg3
              obtain ⟨wi, hwi⟩ : ∃ wi, wi = wr := ⟨_, rfl⟩
              subst hwi
              obtain ⟨LP, hLP⟩ : ∃ LP, (G p).map (outH (p : Int)) = LP := ⟨_, rfl⟩
              rw [hLP] at CP hall
              have HALL := Lib.hid hall
              have hlp : LP.length ≤ 16 := by have h0 := HG.out.len hpN; rw [List.length_map] at h0; rw [← hLP, List.length_map]; omega
              clear hall hLP HANS hhm hhy hy1 hy
              obtain ⟨y1, y2⟩ := y
              simp only [] at hp c0 c1 hyb1 hyb2 HALL
              subst hp
              go_upto_region 31 with (fail)
              go_cut [153, 154, 155] from 146 to 155 (fun s153 s154 s155 w' => ∃ (A12 : Option Addr) (c12 : Nat), s153 = .slice A12 LP.length c12 ∧ s154 = .int .i64 LP.length ∧ s155 = .int .i64 0 ∧ Hid (RowsE encE 2 w' w'.heap.size A12 LP.length LP) ∧ KeptC wi [(⟨wi.heap.size, 0, none⟩, .int .i64 p), (⟨wi.heap.size, 1, none⟩, .int .i64 y2)] [] w')
              case first =>
                go_region_with ((with_reducible refine (CP.out _ ?_).mono ?_); (exact (by repeat (first | with_reducible refine Below.setCell ?_ (by first | (simp; done) | (simp; omega) | omega) _ | with_reducible refine Below.alloc ?_ (by first | (simp; done) | (simp; omega) | omega) _ | with_reducible refine Below.drew ?_ | with_reducible refine below_drewN ?_ _ | with_reducible exact Below.refl _ _))); rintro e w12 ⟨lv, rfl, hown12, hb12⟩; obtain ⟨A12, c12, rfl, hE12⟩ := OwnE.at_ encE_len hown12; have hk12 : KeptC wi [(⟨wi.heap.size, 0, none⟩, .int .i64 p), (⟨wi.heap.size, 1, none⟩, .int .i64 y2)] [] w12 := KeptC.below (by (repeat' (first | refine KeptC.cons ?_ ?_ | refine KeptC.consF ?_ ?_ ?_ | refine KeptC.mk0 ?_)); all_goals (first | with_reducible assumption | (go_simp; done) | (simp; omega) | exact (by repeat (first | with_reducible refine Below.setCell ?_ (by first | (simp; done) | (simp; omega) | omega) _ | with_reducible refine Below.alloc ?_ (by first | (simp; done) | (simp; omega) | omega) _ | with_reducible refine Below.drew ?_ | with_reducible refine below_drewN ?_ _ | with_reducible exact Below.refl _ _)))) hb12; clear hb12 hown12)
                all_goals
                  go_wp2_with (fail)
                  go_meet
                  exact ⟨A12, c12, rfl, rfl, rfl, Lib.hid hE12, hk12⟩
              case rest =>
              obtain ⟨A12, c12, rfl, rfl, rfl, HE12, hK12⟩ := hcut
              obtain ⟨w12, hw12⟩ : ∃ w12, w12 = wc := ⟨_, rfl⟩
              subst hw12
              simp only [KeptC, List.forall_mem_cons] at hK12; obtain ⟨kb12, ⟨kc12_0, kc12_1, _⟩, _⟩ := hK12
              have hl12 : wi.heap.size < w12.heap.size := cell_lt kc12_0
              clear c0 c1 hcs10 hl10 CP HB10
              go_wp2_with (fail)
              go_loopg [22, 155] LP.length (fun gk4 s22 s155 w' => ∃ (r : Nat) (b : Bool), gk4 + r = LP.length ∧ s155 = .int .i64 r ∧ s22 = .bool b ∧ Hid ((LP.take r).any (fun z => z.1 == (k : Int) && z.2 == -y2) = b) ∧ Below w12.heap.size w12 w')
              case atStart => exact ⟨0, false, by omega, rfl, rfl, Lib.hid (by simp), Below.refl _ _⟩
              case round =>
                obtain ⟨r, b, hr, rfl, rfl, HBB, k13⟩ := hrel
                have hs13 := k13.size
                have q0 : wr.cell? ⟨wi.heap.size, 0, none⟩ = some (.int .i64 p) := (k13.cell (p := ⟨_, _, none⟩) hl12).trans kc12_0
                have q1 : wr.cell? ⟨wi.heap.size, 1, none⟩ = some (.int .i64 y2) := (k13.cell (p := ⟨_, _, none⟩) hl12).trans kc12_1
                have hl13 : wi.heap.size < wr.heap.size := by omega
                by_cases hlt13 : r < LP.length
                · obtain ⟨ad13, z, rfl, hab13, hz, hcZ⟩ := HE12.out.get hlt13
                  obtain ⟨P13, hP13⟩ : ∃ P13, ad13.add (r * 2) = P13 := ⟨_, rfl⟩
                  have hPb13 : P13.block < w12.heap.size := by rw [← hP13, block_of_add]; exact hab13
                  rw [hP13] at hcZ
                  have hPw13 : P13.block < wr.heap.size := by omega
                  have z0 : wr.cell? P13 = some (.int .i64 z.1) := (k13.cell hPb13).trans (by have := hcZ 0 _ rfl; rwa [add_z P13] at this)
                  have z1 : wr.cell? ⟨P13.block, P13.off + 1, none⟩ = some (.int .i64 z.2) := (k13.cell (p := ⟨_, _, none⟩) hPb13).trans (by have := hcZ 1 _ rfl; rwa [add_next P13 0] at this)
                  have HN : Hid ((LP.take (r + 1)).any (fun z => z.1 == (k : Int) && z.2 == -y2) = (b || (z.1 == (k : Int) && z.2 == -y2))) := Lib.hid (by rw [List.take_add_one, hz, List.any_append, HBB.out]; simp)
                  clear hcZ hz kc12_0 kc12_1
                  obtain ⟨za, zb⟩ := z
                  simp only [] at z0 z1 HN
                  cases b with
                  | true =>
                    go_wp2_with (fail)
                    go_roundg (gk - 1)
                    case measure => omega
                    case rel => exact ⟨r + 1, true, by omega, by go_num, rfl, Lib.hid (by rw [HN.out]; rfl), (by repeat (first | with_reducible refine Below.setCell ?_ (by first | (simp; done) | (simp; omega) | omega) _ | with_reducible refine Below.alloc ?_ (by first | (simp; done) | (simp; omega) | omega) _ | with_reducible refine Below.drew ?_ | with_reducible refine below_drewN ?_ _ | with_reducible exact Below.refl _ _ | with_reducible refine Below.trans ?_ (Below.mono k13 (by first | (simp; done) | (simp; omega) | omega))))⟩
                  | false =>
                    cases e1 : (za == (k : Int)) with
                    | false =>
                      go_wp2_with (fail)
                      go_roundg (gk - 1)
                      case measure => omega
                      case rel => exact ⟨r + 1, false, by omega, by go_num, rfl, Lib.hid (by rw [HN.out, e1]; rfl), (by repeat (first | with_reducible refine Below.setCell ?_ (by first | (simp; done) | (simp; omega) | omega) _ | with_reducible refine Below.alloc ?_ (by first | (simp; done) | (simp; omega) | omega) _ | with_reducible refine Below.drew ?_ | with_reducible refine below_drewN ?_ _ | with_reducible exact Below.refl _ _ | with_reducible refine Below.trans ?_ (Below.mono k13 (by first | (simp; done) | (simp; omega) | omega))))⟩
                    | true =>
                      cases e2 : (zb == -y2) with
                      | false =>
                        go_wp2_with (fail)
                        go_roundg (gk - 1)
                        case measure => omega
                        case rel => exact ⟨r + 1, false, by omega, by go_num, rfl, Lib.hid (by rw [HN.out, e1, e2]; rfl), (by repeat (first | with_reducible refine Below.setCell ?_ (by first | (simp; done) | (simp; omega) | omega) _ | with_reducible refine Below.alloc ?_ (by first | (simp; done) | (simp; omega) | omega) _ | with_reducible refine Below.drew ?_ | with_reducible refine below_drewN ?_ _ | with_reducible exact Below.refl _ _ | with_reducible refine Below.trans ?_ (Below.mono k13 (by first | (simp; done) | (simp; omega) | omega))))⟩
                      | true =>
                        go_wp2_with (fail)
                        go_roundg (gk - 1)
                        case measure => omega
                        case rel => exact ⟨r + 1, true, by omega, by go_num, rfl, Lib.hid (by rw [HN.out, e1, e2]; rfl), (by repeat (first | with_reducible refine Below.setCell ?_ (by first | (simp; done) | (simp; omega) | omega) _ | with_reducible refine Below.alloc ?_ (by first | (simp; done) | (simp; omega) | omega) _ | with_reducible refine Below.drew ?_ | with_reducible refine below_drewN ?_ _ | with_reducible exact Below.refl _ _ | with_reducible refine Below.trans ?_ (Below.mono k13 (by first | (simp; done) | (simp; omega) | omega))))⟩
                · obtain rfl : r = LP.length := by omega
                  have hbt := HBB.out
                  rw [List.take_length, HALL.out] at hbt
                  subst hbt
                  have k14 : Below w9.heap.size w9 wr := by
                    refine (k10.trans (kb12.mono hs10)).trans (k13.mono ?_)
                    have := kb12.size
                    omega
                  have hq16 : q < 16 := by have h0 := HG.out.len hlt7; rw [List.length_map] at h0; omega
                  go_wp2_with (fail)
                  go_roundg (g3 - 1)
                  case measure => omega
                  case rel => exact ⟨q + 1, by omega, by go_num, (by repeat (first | with_reducible refine Below.setCell ?_ (by first | (simp; done) | (simp; omega) | omega) _ | with_reducible refine Below.alloc ?_ (by first | (simp; done) | (simp; omega) | omega) _ | with_reducible refine Below.drew ?_ | with_reducible refine below_drewN ?_ _ | with_reducible exact Below.refl _ _ | with_reducible refine Below.trans ?_ (Below.mono k14 (by first | (simp; done) | (simp; omega) | omega))))⟩
            · obtain rfl : q = (G k).length := by omega
              go_wp2_with (fail)
              go_roundg (go - 1)
              case measure => omega
              case rel => exact ⟨k + 1, si + x, si - sn + (x - sk), by omega, by go_num, rfl, rfl, Lib.hid ⟨by rw [sumN_succ, hsn, hsk]; omega, by omega, by omega⟩, Lib.hid (HB9.out.below (by repeat (first | with_reducible refine Below.setCell ?_ (by first | (simp; done) | (simp; omega) | omega) _ | with_reducible refine Below.alloc ?_ (by first | (simp; done) | (simp; omega) | omega) _ | with_reducible refine Below.drew ?_ | with_reducible refine below_drewN ?_ _ | with_reducible exact Below.refl _ _ | with_reducible refine Below.trans ?_ (Below.mono k10 (by first | (simp; done) | (simp; omega) | omega)))))⟩
        · obtain rfl : k = N := by omega
          have hz := HG.out.zero
          obtain ⟨hS0, _, _⟩ := HS.out
          obtain rfl : so = si := by rw [hS0]; have e : sumN k (fun i => sumO (i : Int) ((G i).map hd)) = 0 := hz; omega
          have k7 := HB7.out.low
          clear hz hS0
          have hseq : (so == so) = true := by simp
          go_wp2_with (fail)
          refine (awake_any _).mono ?_; rintro e w11 ⟨rfl, hb11⟩
          have k11 : Below w0.heap.size w0 w11 := k7.trans (hb11.mono k7.size)
          go_wp2
          go_ret
          exact ⟨rfl, k11⟩
end Go.Proofs.Ytaakbpnaifpcbaa
