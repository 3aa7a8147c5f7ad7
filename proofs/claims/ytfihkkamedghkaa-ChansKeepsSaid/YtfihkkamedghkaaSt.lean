/- Lists of channels' states: their cells; Records, place and Find of chans and of its reference: what each call computes, for every list. -/
import Derived.Test.YtfihkkamedghkaaDirW
import Derived.Test.YtfihkkamedghkaaExtB
import Derived.Test.YtfihkkamedghkaaRow
namespace Go.Proofs.Ytfihkkamedghkaa
open Go.RowKit
set_option linter.unusedVariables false
structure St where
  ch : Ch
  has : Bool
  inp : Int
  mn : E
  mx : E
@[reducible] def St0 : St := ⟨Ch0, false, 0, E0, E0⟩
def stV (x : St) : List Value := [.string x.ch.name, .int .i64 x.ch.ep, .int .i64 x.ch.who, .bool x.ch.al, .int .i64 x.ch.kd, .int .i64 x.ch.sc, .bool x.has, .int .i64 x.inp, .bool x.mn.has, .int .i64 x.mn.val, .int .i64 x.mn.org, .int .i64 x.mn.age, .bool x.mx.has, .int .i64 x.mx.val, .int .i64 x.mx.org, .int .i64 x.mx.age]
theorem stV_len (x : St) : (stV x).length = 16 := rfl
theorem stV_one (x : St) : ∀ u ∈ stV x, u.oneCell' = true := by
  intro u hu
  simp only [stV, List.mem_cons, List.not_mem_nil, or_false] at hu
  rcases hu with rfl | rfl | rfl | rfl | rfl | rfl | rfl | rfl | rfl | rfl | rfl | rfl | rfl | rfl | rfl | rfl <;> rfl
theorem state_inf : (Try.prog.info? 43).map (fun i => (i.zero, i.size, i.bytes)) = some (some (.agg #[.string ⟨#[]⟩, .int .i64 0, .int .i64 0, .bool false, .int .i64 0, .int .i64 0, .bool false, .int .i64 0, .bool false, .int .i64 0, .int .i64 0, .int .i64 0, .bool false, .int .i64 0, .int .i64 0, .int .i64 0]), 16, 136) := by kernel_rfl
def st16 (w : World) (p : Addr) (x : St) : Prop := w.cell? p = some (.string x.ch.name) ∧ w.cell? ⟨p.block, p.off + 1, none⟩ = some (.int .i64 x.ch.ep) ∧ w.cell? ⟨p.block, p.off + 2, none⟩ = some (.int .i64 x.ch.who) ∧ w.cell? ⟨p.block, p.off + 3, none⟩ = some (.bool x.ch.al) ∧ w.cell? ⟨p.block, p.off + 4, none⟩ = some (.int .i64 x.ch.kd) ∧ w.cell? ⟨p.block, p.off + 5, none⟩ = some (.int .i64 x.ch.sc) ∧ w.cell? ⟨p.block, p.off + 6, none⟩ = some (.bool x.has) ∧ w.cell? ⟨p.block, p.off + 7, none⟩ = some (.int .i64 x.inp) ∧ w.cell? ⟨p.block, p.off + 8, none⟩ = some (.bool x.mn.has) ∧ w.cell? ⟨p.block, p.off + 9, none⟩ = some (.int .i64 x.mn.val) ∧ w.cell? ⟨p.block, p.off + 10, none⟩ = some (.int .i64 x.mn.org) ∧ w.cell? ⟨p.block, p.off + 11, none⟩ = some (.int .i64 x.mn.age) ∧ w.cell? ⟨p.block, p.off + 12, none⟩ = some (.bool x.mx.has) ∧ w.cell? ⟨p.block, p.off + 13, none⟩ = some (.int .i64 x.mx.val) ∧ w.cell? ⟨p.block, p.off + 14, none⟩ = some (.int .i64 x.mx.org) ∧ w.cell? ⟨p.block, p.off + 15, none⟩ = some (.int .i64 x.mx.age)
theorem st16_of {w : World} {p : Addr} {x : St} (h : CellsE stV w p x) : st16 w p x := by
  have h0 := h 0 _ rfl
  have e : ∀ i, p.add (i + 1) = ⟨p.block, p.off + (i + 1), none⟩ := add_next p
  have hs : ∀ i u, (stV x)[i + 1]? = some u → w.cell? ⟨p.block, p.off + (i + 1), none⟩ = some u := fun i u hu => by rw [← e]; exact h (i + 1) u hu
  exact ⟨h0, hs 0 _ rfl, hs 1 _ rfl, hs 2 _ rfl, hs 3 _ rfl, hs 4 _ rfl, hs 5 _ rfl, hs 6 _ rfl, hs 7 _ rfl, hs 8 _ rfl, hs 9 _ rfl, hs 10 _ rfl, hs 11 _ rfl, hs 12 _ rfl, hs 13 _ rfl, hs 14 _ rfl⟩
theorem st16.below {w w' : World} {B : Nat} {p : Addr} {x : St} (h : st16 w p x) (hp : p.block < B) (hb : Below B w w') : st16 w' p x := by
  obtain ⟨h0, h1, h2, h3, h4, h5, h6, h7, h8, h9, h10, h11, h12, h13, h14, h15⟩ := h
  exact ⟨(hb.cell hp).trans h0, (hb.cell (p := ⟨_, _, none⟩) hp).trans h1, (hb.cell (p := ⟨_, _, none⟩) hp).trans h2, (hb.cell (p := ⟨_, _, none⟩) hp).trans h3, (hb.cell (p := ⟨_, _, none⟩) hp).trans h4, (hb.cell (p := ⟨_, _, none⟩) hp).trans h5, (hb.cell (p := ⟨_, _, none⟩) hp).trans h6, (hb.cell (p := ⟨_, _, none⟩) hp).trans h7, (hb.cell (p := ⟨_, _, none⟩) hp).trans h8, (hb.cell (p := ⟨_, _, none⟩) hp).trans h9, (hb.cell (p := ⟨_, _, none⟩) hp).trans h10, (hb.cell (p := ⟨_, _, none⟩) hp).trans h11, (hb.cell (p := ⟨_, _, none⟩) hp).trans h12, (hb.cell (p := ⟨_, _, none⟩) hp).trans h13, (hb.cell (p := ⟨_, _, none⟩) hp).trans h14, (hb.cell (p := ⟨_, _, none⟩) hp).trans h15⟩
/-- The cells of a slice of states. -/
def StsAt (w : World) (B : Nat) (A : Option Addr) (n : Nat) (rs : List St) : Prop := RowsE stV 16 w B A n rs ∧ ∀ x ∈ rs, x.ch.name.size ≤ maxLen
theorem StsAt.below {w w' : World} {B n : Nat} {A : Option Addr} {rs : List St} (h : StsAt w B A n rs) (hb : Below B w w') : StsAt w' B A n rs := ⟨h.1.below hb, h.2⟩
theorem StsAt.more {w : World} {B B' n : Nat} {A : Option Addr} {rs : List St} (h : StsAt w B A n rs) (hB : B ≤ B') : StsAt w B' A n rs := ⟨h.1.more hB, h.2⟩
theorem StsAt.get {w : World} {B n : Nat} {A : Option Addr} {rs : List St} (h : StsAt w B A n rs) {k : Nat} (hk : k < n) : ∃ ad x, A = some ad ∧ ad.block < B ∧ rs[k]? = some x ∧ x.ch.name.size ≤ maxLen ∧ st16 w (ad.add (k * 16)) x := by
  obtain ⟨ad, x, e, hb, hx, hc⟩ := h.1.get hk
  exact ⟨ad, x, e, hb, hx, h.2 x (List.mem_of_getElem? hx), st16_of hc⟩
theorem StsAt.len {w : World} {B n : Nat} {A : Option Addr} {rs : List St} (h : StsAt w B A n rs) : rs.length = n := h.1.1
theorem sts_nil (w : World) (B : Nat) (A : Option Addr) : StsAt w B A 0 [] := ⟨rowsE_nil w B A, by simp⟩
def OwnS (w : World) (base : Nat) (v : Value) (rs : List St) : Prop := OwnE stV 16 43 w base v rs
theorem OwnS.at_ {w : World} {base : Nat} {v : Value} {rs : List St} (h : OwnS w base v rs) (hs : ∀ x ∈ rs, x.ch.name.size ≤ maxLen) : ∃ A c, v = .slice A rs.length c ∧ StsAt w w.heap.size A rs.length rs := by
  obtain ⟨A, c, e, h1⟩ := OwnE.at_ stV_len h
  exact ⟨A, c, e, h1, hs⟩
theorem OwnS.below {w w' : World} {base : Nat} {v : Value} {rs : List St} (h : OwnS w base v rs) (hb : Below w.heap.size w w') : OwnS w' base v rs := OwnE.below h hb
theorem OwnS.less {w : World} {base base' : Nat} {v : Value} {rs : List St} (h : OwnS w base v rs) (hb : base' ≤ base) : OwnS w base' v rs := OwnE.less h hb
theorem OwnS.nil (w : World) (base : Nat) : OwnS w base (.slice none 0 0) [] := OwnE.nil _ w base
theorem cells_new' (W : World) (g : Nat) (hg : W.heap.size = g) (c : Ch) : ∀ (j : Nat) (u : Value), (chV c)[j]? = some u → (W.alloc (Obj.cells #[.string c.name, .int .i64 c.ep, .int .i64 c.who, .bool c.al, .int .i64 c.kd, .int .i64 c.sc] 38)).cell? ((⟨g, 0, none⟩ : Addr).add j) = some u := by
  subst hg
  exact cells_new W c
theorem recs_next {rs : List St} {k : Nat} {x : St} (h : rs[k]? = some x) : (rs.take (k + 1)).map St.ch = (rs.take k).map St.ch ++ [x.ch] := by
  rw [List.take_add_one, h]
  simp
set_option maxRecDepth 100000 in
set_option maxHeartbeats 8000000 in
theorem records_any (A : Option Addr) (n cp : Nat) (rs : List St) (w : World) (hr : StsAt w w.heap.size A n rs) (hm : n * 136 ≤ 140737488351232) :
    Calls Try.prog 22 #[.slice A n cp] w fun x w' => ∃ lv, x = .returned lv ∧ OwnC w' w.heap.size lv (rs.map St.ch) ∧ Below w.heap.size w w' := by
  have HR := Lib.hid hr
  clear hr
  go_enter Try.func22, Try.ntmps22
  go_wp2
  go_loopw [3, 8] (fun v i w' => ∃ (k : Nat) (A2 : Option Addr) (cp2 : Nat) (OL : List Ch), k ≤ n ∧ i = .int .i64 k ∧ v = .slice A2 OL.length cp2 ∧ Hid (OL = (rs.take k).map St.ch) ∧ Hid (w'.ownsRow w.heap.size 38 6 (.slice A2 OL.length cp2) OL.length (flatC OL)) ∧ OL.length ≤ k ∧ KeptC w [] [] w') (fun _ i _ => n - (intOf i).toNat)
  case atStart => exact ⟨0, none, 0, [], Nat.zero_le _, rfl, rfl, Lib.hid rfl, Lib.hid ⟨rfl, .inl ⟨rfl, rfl⟩⟩, by simp, (by (repeat' (first | refine KeptC.cons ?_ ?_ | refine KeptC.consF ?_ ?_ ?_ | refine KeptC.mk0 ?_)); all_goals (first | with_reducible assumption | (go_simp; done) | (simp; omega) | exact (by repeat (first | with_reducible refine Below.setCell ?_ (by first | (simp; done) | (simp; omega) | omega) _ | with_reducible refine Below.alloc ?_ (by first | (simp; done) | (simp; omega) | omega) _ | with_reducible refine Below.drew ?_ | with_reducible refine below_drewN ?_ _ | with_reducible exact Below.refl _ _))))⟩
  case round =>
    obtain ⟨k, A2, cp2, OL, hk, rfl, rfl, HO, HW, hol, hK⟩ := hrel
    have kb0 := hK.1
    clear hK
    by_cases hlt : k < n
    rotate_left
    · obtain rfl : k = n := by omega
      go_wp2
      go_ret
      refine ⟨_, rfl, ?_, kb0⟩
      have e := HO.out
      rw [List.take_of_length_le (Nat.le_of_eq HR.out.len)] at e
      rw [← e]
      exact HW.out
    · obtain ⟨adx, yx, hAx, habx, hxx, hszx, hc16x⟩ := HR.out.get hlt
      subst hAx
      obtain ⟨p, hpx⟩ : ∃ p, adx.add (k * 16) = p := ⟨_, rfl⟩
      have hpbx : p.block < w.heap.size := by rw [← hpx, block_of_add]; exact habx
      rw [hpx] at hc16x
      have hpwx : p.block < wr.heap.size := by have := kb0.size; omega
      obtain ⟨⟨xs, xe, xm, xa, xk, xc⟩, xh, xi, ⟨xp, xv, xo, xg⟩, ⟨xq, xu, xr, xt⟩⟩ := yx
      obtain ⟨c0, c1, c2, c3, c4, c5, c6, c7, c8, c9, c10, c11, c12, c13, c14, c15⟩ := hc16x.below hpbx kb0
      have HXx := Lib.hid hxx
      clear hxx hszx hc16x
      simp only [] at c0 c1 c2 c3 c4 c5 c6 c7 c8 c9 c10 c11 c12 c13 c14 c15
      have hws := kb0.size
      go_wp2_with (at_builtin; go_must (refine wpList_app1 rfl _ _ rfl w.heap.size OL A2 cp2 rfl (by exact row_low HW.out (by repeat (first | with_reducible refine Below.setCell ?_ (by first | (simp; done) | (simp; omega) | omega) _ | with_reducible refine Below.alloc ?_ (by first | (simp; done) | (simp; omega) | omega) _ | with_reducible refine Below.drew ?_ | with_reducible refine below_drewN ?_ _ | with_reducible exact Below.refl _ _)) (Nat.le_refl _)) ⟨wr.heap.size + 1, 0, none⟩ 1 rfl ⟨xs, xe, xm, xa, xk, xc⟩ (by exact cells_new' _ _ (by simp) ⟨xs, xe, xm, xa, xk, xc⟩) (by omega) (by first | (simp; done) | (simp; omega) | omega) ?_); intro O3 A3 cp3 w3 hO3 hown3 hb3; have hL3 : O3.length ≤ OL.length + 1 := (by rw [hO3]; simp); have HO3 := Lib.hid hO3; have HW3 := Lib.hid hown3; have kb3 : Below w.heap.size w w3 := (by repeat (first | with_reducible refine Below.setCell ?_ (by first | (simp; done) | (simp; omega) | omega) _ | with_reducible refine Below.alloc ?_ (by first | (simp; done) | (simp; omega) | omega) _ | with_reducible refine Below.drew ?_ | with_reducible refine below_drewN ?_ _ | with_reducible exact Below.refl _ _ | with_reducible refine Below.trans ?_ (Below.mono kb0 (by first | (simp; done) | (simp; omega) | omega)) | with_reducible refine Below.trans ?_ (Below.mono hb3 (by first | (simp; done) | (simp; omega) | omega)))); clear hO3 hown3 hb3)
      go_roundw
      case rel => exact ⟨k + 1, A3, cp3, O3, by omega, by go_num, rfl, Lib.hid (by rw [HO3.out, HO.out, recs_next HXx.out]), HW3, by omega, (by (repeat' (first | refine KeptC.cons ?_ ?_ | refine KeptC.consF ?_ ?_ ?_ | refine KeptC.mk0 ?_)); all_goals (first | with_reducible assumption | (go_simp; done) | (simp; omega) | exact (by repeat (first | with_reducible refine Below.setCell ?_ (by first | (simp; done) | (simp; omega) | omega) _ | with_reducible refine Below.alloc ?_ (by first | (simp; done) | (simp; omega) | omega) _ | with_reducible refine Below.drew ?_ | with_reducible refine below_drewN ?_ _ | with_reducible exact Below.refl _ _ | with_reducible refine Below.trans ?_ (Below.mono kb3 (by first | (simp; done) | (simp; omega) | omega))))))⟩
      case measure => simp [intOf]; omega
set_option maxRecDepth 100000 in
set_option maxHeartbeats 8000000 in
theorem rrecords_any (A : Option Addr) (n cp : Nat) (rs : List St) (w : World) (hr : StsAt w w.heap.size A n rs) (hm : n * 136 ≤ 140737488351232) :
    Calls Try.prog 23 #[.slice A n cp] w fun x w' => ∃ lv, x = .returned lv ∧ OwnC w' w.heap.size lv (rs.map St.ch) ∧ Below w.heap.size w w' := by
  have HR := Lib.hid hr
  clear hr
  go_enter Try.func23, Try.ntmps23
  go_wp2
  go_loopw [3, 4] (fun v i w' => ∃ (k : Nat) (A2 : Option Addr) (cp2 : Nat) (OL : List Ch), k ≤ n ∧ i = .int .i64 k ∧ v = .slice A2 OL.length cp2 ∧ Hid (OL = (rs.take k).map St.ch) ∧ Hid (w'.ownsRow w.heap.size 38 6 (.slice A2 OL.length cp2) OL.length (flatC OL)) ∧ OL.length ≤ k ∧ KeptC w [] [] w') (fun _ i _ => n - (intOf i).toNat)
  case atStart => exact ⟨0, none, 0, [], Nat.zero_le _, rfl, rfl, Lib.hid rfl, Lib.hid ⟨rfl, .inl ⟨rfl, rfl⟩⟩, by simp, (by (repeat' (first | refine KeptC.cons ?_ ?_ | refine KeptC.consF ?_ ?_ ?_ | refine KeptC.mk0 ?_)); all_goals (first | with_reducible assumption | (go_simp; done) | (simp; omega) | exact (by repeat (first | with_reducible refine Below.setCell ?_ (by first | (simp; done) | (simp; omega) | omega) _ | with_reducible refine Below.alloc ?_ (by first | (simp; done) | (simp; omega) | omega) _ | with_reducible refine Below.drew ?_ | with_reducible refine below_drewN ?_ _ | with_reducible exact Below.refl _ _))))⟩
  case round =>
    obtain ⟨k, A2, cp2, OL, hk, rfl, rfl, HO, HW, hol, hK⟩ := hrel
    have kb0 := hK.1
    clear hK
    by_cases hlt : k < n
    rotate_left
    · obtain rfl : k = n := by omega
      go_wp2
      go_ret
      refine ⟨_, rfl, ?_, kb0⟩
      have e := HO.out
      rw [List.take_of_length_le (Nat.le_of_eq HR.out.len)] at e
      rw [← e]
      exact HW.out
    · obtain ⟨adx, yx, hAx, habx, hxx, hszx, hc16x⟩ := HR.out.get hlt
      subst hAx
      obtain ⟨p, hpx⟩ : ∃ p, adx.add (k * 16) = p := ⟨_, rfl⟩
      have hpbx : p.block < w.heap.size := by rw [← hpx, block_of_add]; exact habx
      rw [hpx] at hc16x
      have hpwx : p.block < wr.heap.size := by have := kb0.size; omega
      obtain ⟨⟨xs, xe, xm, xa, xk, xc⟩, xh, xi, ⟨xp, xv, xo, xg⟩, ⟨xq, xu, xr, xt⟩⟩ := yx
      obtain ⟨c0, c1, c2, c3, c4, c5, c6, c7, c8, c9, c10, c11, c12, c13, c14, c15⟩ := hc16x.below hpbx kb0
      have HXx := Lib.hid hxx
      clear hxx hszx hc16x
      simp only [] at c0 c1 c2 c3 c4 c5 c6 c7 c8 c9 c10 c11 c12 c13 c14 c15
      have hws := kb0.size
      go_wp2_with (at_builtin; go_must (refine wpList_app1 rfl _ _ rfl w.heap.size OL A2 cp2 rfl (by exact row_low HW.out (by repeat (first | with_reducible refine Below.setCell ?_ (by first | (simp; done) | (simp; omega) | omega) _ | with_reducible refine Below.alloc ?_ (by first | (simp; done) | (simp; omega) | omega) _ | with_reducible refine Below.drew ?_ | with_reducible refine below_drewN ?_ _ | with_reducible exact Below.refl _ _)) (Nat.le_refl _)) ⟨wr.heap.size, 0, none⟩ 1 rfl ⟨xs, xe, xm, xa, xk, xc⟩ (by exact cells_new' _ _ (by simp) ⟨xs, xe, xm, xa, xk, xc⟩) (by omega) (by first | (simp; done) | (simp; omega) | omega) ?_); intro O3 A3 cp3 w3 hO3 hown3 hb3; have hL3 : O3.length ≤ OL.length + 1 := (by rw [hO3]; simp); have HO3 := Lib.hid hO3; have HW3 := Lib.hid hown3; have kb3 : Below w.heap.size w w3 := (by repeat (first | with_reducible refine Below.setCell ?_ (by first | (simp; done) | (simp; omega) | omega) _ | with_reducible refine Below.alloc ?_ (by first | (simp; done) | (simp; omega) | omega) _ | with_reducible refine Below.drew ?_ | with_reducible refine below_drewN ?_ _ | with_reducible exact Below.refl _ _ | with_reducible refine Below.trans ?_ (Below.mono kb0 (by first | (simp; done) | (simp; omega) | omega)) | with_reducible refine Below.trans ?_ (Below.mono hb3 (by first | (simp; done) | (simp; omega) | omega)))); clear hO3 hown3 hb3)
      go_roundw
      case rel => exact ⟨k + 1, A3, cp3, O3, by omega, by go_num, rfl, Lib.hid (by rw [HO3.out, HO.out, recs_next HXx.out]), HW3, by omega, (by (repeat' (first | refine KeptC.cons ?_ ?_ | refine KeptC.consF ?_ ?_ ?_ | refine KeptC.mk0 ?_)); all_goals (first | with_reducible assumption | (go_simp; done) | (simp; omega) | exact (by repeat (first | with_reducible refine Below.setCell ?_ (by first | (simp; done) | (simp; omega) | omega) _ | with_reducible refine Below.alloc ?_ (by first | (simp; done) | (simp; omega) | omega) _ | with_reducible refine Below.drew ?_ | with_reducible refine below_drewN ?_ _ | with_reducible exact Below.refl _ _ | with_reducible refine Below.trans ?_ (Below.mono kb3 (by first | (simp; done) | (simp; omega) | omega))))))⟩
      case measure => simp [intOf]; omega
end Go.Proofs.Ytfihkkamedghkaa
