/- anew of chans, begun of its reference: what each call computes, for every list of states and of records. -/
import Derived.Test.YtfihkkamedghkaaStE
import Derived.Test.YtfihkkamedghkaaStC
import Derived.Deep.Cut
import Derived.Deep.CutRange
namespace Go.Proofs.Ytfihkkamedghkaa
open Go.RowKit
set_option linter.unusedVariables false
@[reducible] def fresh (c : Ch) : St := ⟨c, false, 0, E0, E0⟩
def isN (nm : ByteArray) (x : St) : Bool := x.ch.name.toList == nm.toList
def idxN (rs : List St) (nm : ByteArray) : Int := match rs.findIdx? (isN nm) with | some i => (i : Int) | none => -1
def anewS (rs : List St) (nm : ByteArray) (c : Ch) : St := match rs.findIdx? (isN c.name) with
  | some i => if (c.name.toList == nm.toList) = true then fresh c else (rs[i]?).getD St0
  | none => fresh c
def begS (c : Ch) (s x : St) : St := if chEq x.ch c = true then x else s
def begunS (rs : List St) (c : Ch) : St := rs.foldl (begS c) (fresh c)
theorem idx_hit {q : St → Bool} {rs : List St} {k : Nat} {x : St} (h : ∀ y ∈ rs.take k, q y = false) (hx : rs[k]? = some x) (hh : q x = true) : rs.findIdx? q = some k := by
  obtain ⟨hk, e⟩ := List.getElem?_eq_some_iff.1 hx
  rw [List.findIdx?_eq_some_iff_getElem]
  refine ⟨hk, by rw [e]; exact hh, fun j hj => ?_⟩
  have := h rs[j] (List.mem_take_iff_getElem.2 ⟨j, by omega, rfl⟩)
  rw [this]; simp
theorem idx_not {q : St → Bool} {rs : List St} {k : Nat} {x : St} (h : ∀ y ∈ rs.take k, q y = false) (hx : rs[k]? = some x) (hh : q x = false) : ∀ y ∈ rs.take (k + 1), q y = false := by
  intro y hy
  rw [List.take_add_one, hx] at hy
  rcases List.mem_append.1 hy with hy | hy
  · exact h y hy
  · obtain rfl : y = x := by simpa using hy
    exact hh
theorem idxN_some {rs : List St} {nm : ByteArray} {k : Nat} (h : rs.findIdx? (isN nm) = some k) : idxN rs nm = k := by unfold idxN; rw [h]
theorem idxN_none {rs : List St} {nm : ByteArray} (h : rs.findIdx? (isN nm) = none) : idxN rs nm = -1 := by unfold idxN; rw [h]
theorem map_next {cs : List Ch} {f : Ch → St} {k : Nat} {c : Ch} (h : cs[k]? = some c) : (cs.take (k + 1)).map f = (cs.take k).map f ++ [f c] := by
  rw [List.take_add_one, h]
  simp
theorem fold_next {rs : List St} {f : St → St → St} {s : St} {k : Nat} {x : St} (h : rs[k]? = some x) : (rs.take (k + 1)).foldl f s = f ((rs.take k).foldl f s) x := by
  rw [List.take_add_one, h]
  simp
theorem scells_new (W : World) (g : Nat) (hg : W.heap.size = g) (x : St) : ∀ (j : Nat) (u : Value), (stV x)[j]? = some u → (W.alloc (Obj.cells #[.string x.ch.name, .int .i64 x.ch.ep, .int .i64 x.ch.who, .bool x.ch.al, .int .i64 x.ch.kd, .int .i64 x.ch.sc, .bool x.has, .int .i64 x.inp, .bool x.mn.has, .int .i64 x.mn.val, .int .i64 x.mn.org, .int .i64 x.mn.age, .bool x.mx.has, .int .i64 x.mx.val, .int .i64 x.mx.org, .int .i64 x.mx.age] 43)).cell? ((⟨g, 0, none⟩ : Addr).add j) = some u := by
  subst hg
  intro j u hu
  have hj : j < 16 := by have := (List.getElem?_eq_some_iff.1 hu).1; simpa [stV] using this
  rw [Addr.add_lit]
  match j, hj with
  | 0, _ | 1, _ | 2, _ | 3, _ | 4, _ | 5, _ | 6, _ | 7, _ | 8, _ | 9, _ | 10, _ | 11, _ | 12, _ | 13, _ | 14, _ | 15, _ => simp [stV] at hu; subst hu; go_simp
theorem wpList_app1S {w : World} {ops : Array Oper} {rest : List Oper} {o : Oper} {a : Act} {Q : Exit → Act → World → Prop} (hgd : o.guard = none) (s x : Operand)
    (ho : o.op = .call { callee := .builtin .append, args := #[s, x], argTypes := #[22, 22] }) (base : Nat) (OL : List St) (A : Option Addr) (cp : Nat) (hs : a.eval s = .slice A OL.length cp)
    (hown : w.ownsRow base 43 16 (.slice A OL.length cp) OL.length (flatE stV OL)) (ad : Addr) (m : Nat) (hx : a.eval x = .slice (some ad) 1 m) (c : St) (hc : ∀ j u, (stV c)[j]? = some u → w.cell? (ad.add j) = some u)
    (hm : OL.length < 1000000000000) (hbase : base ≤ w.heap.size)
    (h : ∀ OL' A' cp' w', OL' = OL ++ [c] → w'.ownsRow base 43 16 (.slice A' OL'.length cp') OL'.length (flatE stV OL') → Below base w w' → wpList Try.prog ops Q rest (a.put o.dst (.slice A' OL'.length cp')) w') :
    wpList Try.prog ops Q (o :: rest) a w := by
  obtain ⟨i0, hi0, hz0, hz1, hz2⟩ := info_parts state_inf
  refine wpList_append_own_at w hgd s x _ ho base 43 i0 _ 16 136 Try.underlying22 hi0 hz0 hz1 hz2 rfl (by omega) _ _ _ hs hown ad 1 m (stV c) hx rfl hc (stV_one c) (by simp only [maxLen]; omega) (by omega) hbase ?_
  intro v' w' h1 h2 _ _
  obtain ⟨hb, _⟩ := row_grown hown h2 hbase
  rw [← flatE_snoc, show OL.length + 1 = (OL ++ [c]).length by simp] at h1
  obtain ⟨A', cp', rfl⟩ := row_slice h1
  exact h _ A' cp' w' rfl h1 hb
set_option maxRecDepth 100000 in
set_option maxHeartbeats 8000000 in
theorem anew1_any (xs : ByteArray) (xe xm xk xc xi xv xo xg xu xr xt : Int) (xa xh xp xq : Bool) (s : ByteArray) (b : Nat) (w : World) (hc : w.cell? ⟨b, 0, none⟩ = some (.string s)) :
    Calls Try.prog 72 #[.agg #[.string xs, .int .i64 xe, .int .i64 xm, .bool xa, .int .i64 xk, .int .i64 xc, .bool xh, .int .i64 xi, .bool xp, .int .i64 xv, .int .i64 xo, .int .i64 xg, .bool xq, .int .i64 xu, .int .i64 xr, .int .i64 xt], .pointer (some ⟨b, 0, none⟩)] w fun e w' => e = .returned (.bool (xs.toList == s.toList)) ∧ Below w.heap.size w w' := by
  have hb : b < w.heap.size := cell_lt hc
  go_enter Try.func72, Try.ntmps72
  go_wp2
  go_ret
  exact ⟨rfl, (by repeat (first | with_reducible refine Below.setCell ?_ (by first | (simp; done) | (simp; omega) | omega) _ | with_reducible refine Below.alloc ?_ (by first | (simp; done) | (simp; omega) | omega) _ | with_reducible refine Below.drew ?_ | with_reducible refine below_drewN ?_ _ | with_reducible exact Below.refl _ _))⟩
set_option maxRecDepth 100000 in
set_option maxHeartbeats 8000000 in
theorem indexS_any (A : Option Addr) (n cp : Nat) (rs : List St) (s : ByteArray) (b : Nat) (w : World) (hr : StsAt w w.heap.size A n rs) (hm : n * 136 ≤ 140737488351232) (hc : w.cell? ⟨b, 0, none⟩ = some (.string s)) :
    Calls Try.prog 71 #[.slice A n cp, .func (.func 72) #[] #[.pointer (some ⟨b, 0, none⟩)]] w fun x w' => x = .returned (.int .i64 (idxN rs s)) ∧ Below w.heap.size w w' := by
  have HR := Lib.hid hr
  clear hr
  go_enter Try.func71, Try.ntmps71
  go_wp2
  go_loopw [8] (fun i w' => ∃ (k : Nat), k ≤ n ∧ i = .int .i64 k ∧ Hid (∀ x ∈ rs.take k, isN s x = false) ∧ KeptC w [(⟨b, 0, none⟩, .string s)] [] w') (fun i _ => n - (intOf i).toNat)
  case atStart => exact ⟨0, Nat.zero_le _, rfl, Lib.hid (by simp), (by (repeat' (first | refine KeptC.cons ?_ ?_ | refine KeptC.consF ?_ ?_ ?_ | refine KeptC.mk0 ?_)); all_goals (first | with_reducible assumption | (go_simp; done) | (simp; omega) | exact (by repeat (first | with_reducible refine Below.setCell ?_ (by first | (simp; done) | (simp; omega) | omega) _ | with_reducible refine Below.alloc ?_ (by first | (simp; done) | (simp; omega) | omega) _ | with_reducible refine Below.drew ?_ | with_reducible refine below_drewN ?_ _ | with_reducible exact Below.refl _ _))))⟩
  case round =>
    obtain ⟨k, hk, rfl, HA, hK⟩ := hrel
    have HK0 := Lib.hid hK
    simp only [KeptC, List.forall_mem_cons] at hK; obtain ⟨kb0, ⟨kc0_0, _⟩, _⟩ := hK
    by_cases hlt : k < n
    rotate_left
    · obtain rfl : k = n := by omega
      have HN : Hid (idxN rs s = -1) := Lib.hid (idxN_none (by rw [List.findIdx?_eq_none_iff]; have := HA.out; rwa [List.take_of_length_le (Nat.le_of_eq HR.out.len)] at this))
      go_wp2
      go_ret
      exact ⟨by rw [HN.out]; rfl, kb0⟩
    · obtain ⟨adx, yx, hAx, habx, hxx, hszx, hc16x⟩ := HR.out.get hlt
      subst hAx
      obtain ⟨p, hpx⟩ : ∃ p, adx.add (k * 16) = p := ⟨_, rfl⟩
      have hpbx : p.block < w.heap.size := by rw [← hpx, block_of_add]; exact habx
      rw [hpx] at hc16x
      have hwsx : w.heap.size ≤ wr.heap.size := kb0.size
      have hpwx : p.block < wr.heap.size := by omega
      obtain ⟨⟨xs, xe, xm, xa, xk, xc⟩, xh, xi, ⟨xp, xv, xo, xg⟩, ⟨xq, xu, xr, xt⟩⟩ := yx
      obtain ⟨c0, c1, c2, c3, c4, c5, c6, c7, c8, c9, c10, c11, c12, c13, c14, c15⟩ := hc16x.below hpbx kb0
      have HXx := Lib.hid hxx
      clear hxx hszx hc16x
      simp only [] at c0 c1 c2 c3 c4 c5 c6 c7 c8 c9 c10 c11 c12 c13 c14 c15
      cases he : (xs.toList == s.toList) with
      | true =>
        have HN : Hid (idxN rs s = k) := Lib.hid (idxN_some (idx_hit HA.out HXx.out he))
        have C := Lib.hid (fun W (h : W.cell? ⟨b, 0, none⟩ = some (.string s)) => anew1_any xs xe xm xk xc xi xv xo xg xu xr xt xa xh xp xq s b W h)
        rw [he] at C
        go_wp2_with (fail)
        refine (C.out _ (by with_reducible assumption)).mono ?_; rintro e w2 ⟨rfl, hb2⟩
        go_wp2
        go_ret
        exact ⟨by rw [HN.out]; rfl, (by repeat (first | with_reducible refine Below.setCell ?_ (by first | (simp; done) | (simp; omega) | omega) _ | with_reducible refine Below.alloc ?_ (by first | (simp; done) | (simp; omega) | omega) _ | with_reducible refine Below.drew ?_ | with_reducible refine below_drewN ?_ _ | with_reducible exact Below.refl _ _ | with_reducible refine Below.trans ?_ (Below.mono kb0 (by first | (simp; done) | (simp; omega) | omega)) | with_reducible refine Below.trans ?_ (Below.mono hb2 (by first | (simp; done) | (simp; omega) | omega))))⟩
      | false =>
        have HN : Hid (isN s ⟨⟨xs, xe, xm, xa, xk, xc⟩, xh, xi, ⟨xp, xv, xo, xg⟩, ⟨xq, xu, xr, xt⟩⟩ = false) := Lib.hid he
        have C := Lib.hid (fun W (h : W.cell? ⟨b, 0, none⟩ = some (.string s)) => anew1_any xs xe xm xk xc xi xv xo xg xu xr xt xa xh xp xq s b W h)
        rw [he] at C
        go_wp2_with (fail)
        refine (C.out _ (by with_reducible assumption)).mono ?_; rintro e w2 ⟨rfl, hb2⟩
        go_wp2
        go_roundw
        case rel => exact ⟨k + 1, by omega, by go_num, Lib.hid (idx_not HA.out HXx.out HN.out), KeptC.below HK0.out hb2⟩
        case measure => simp [intOf]; omega
set_option maxRecDepth 100000 in
set_option maxHeartbeats 8000000 in
theorem anew_any (A : Option Addr) (n cp : Nat) (rs : List St) (B : Option Addr) (n1 cp1 : Nat) (cs : List Ch) (nm : ByteArray) (w : World) (hr : StsAt w w.heap.size A n rs) (hm : n * 136 ≤ 140737488351232) (hc : ChsAt w w.heap.size B n1 cs) (hm1 : n1 ≤ 1000) :
    Calls Try.prog 42 #[.slice A n cp, .slice B n1 cp1, .string nm] w fun x w' => ∃ lv, x = .returned lv ∧ OwnS w' w.heap.size lv (cs.map (anewS rs nm)) ∧ Below w.heap.size w w' := by
  have HR := Lib.hid hr
  have HC := Lib.hid hc
  clear hr hc
  have hmf : ∀ (fn : Fn) (first cap : Array Value) (w : World), (Instr.makeFunc fn first cap).run Try.prog w = .ok (.func fn first cap) w := fun _ _ _ _ => rfl
  go_enter Try.func42, Try.ntmps42
  go_wp2
  go_loopg [7, 14] n1 (fun gk v i w' => ∃ (k : Nat) (A2 : Option Addr) (cp2 : Nat) (OL : List St), gk + k = n1 ∧ i = .int .i64 k ∧ v = .slice A2 OL.length cp2 ∧ Hid (OL = (cs.take k).map (anewS rs nm)) ∧ Hid (w'.ownsRow w.heap.size 43 16 (.slice A2 OL.length cp2) OL.length (flatE stV OL)) ∧ OL.length ≤ k ∧ Below w.heap.size w w')
  case atStart => exact ⟨0, none, 0, [], by omega, rfl, rfl, Lib.hid rfl, Lib.hid ⟨rfl, .inl ⟨rfl, rfl⟩⟩, by simp, Below.refl _ _⟩
  case round =>
    obtain ⟨k, A2, cp2, OL, hk, rfl, rfl, HO, HW, hol, kb0⟩ := hrel
    by_cases hlt : k < n1
    rotate_left
    · obtain rfl : k = n1 := by omega
      go_wp2
      go_ret
      refine ⟨_, rfl, ?_, kb0⟩
      have e := HO.out
      rw [List.take_of_length_le (Nat.le_of_eq HC.out.1)] at e
      rw [← e]
      exact HW.out
    · obtain ⟨adu, yu, hAu, habu, hxu, hszu, hc6u⟩ := HC.out.get hlt
      subst hAu
      obtain ⟨q, hqu⟩ : ∃ q, adu.add (k * 6) = q := ⟨_, rfl⟩
      have hqbu : q.block < w.heap.size := by rw [← hqu, block_of_add]; exact habu
      rw [hqu] at hc6u
      have hwsu : w.heap.size ≤ wr.heap.size := kb0.size
      have hqwu : q.block < wr.heap.size := by omega
      obtain ⟨us, ue, um, ua, uk, uc⟩ := yu
      obtain ⟨d0, d1, d2, d3, d4, d5⟩ := hc6u.below hqbu kb0
      have HXu := Lib.hid hxu
      clear hxu hszu hc6u
      simp only [] at d0 d1 d2 d3 d4 d5
      have c := fun W (hb : Below w.heap.size w W) (hc : W.cell? ⟨wr.heap.size, 0, none⟩ = some (.string us)) => indexS_any A n cp rs us wr.heap.size W ((HR.out.below hb).more hb.size) hm hc
      obtain ⟨z, hz⟩ : ∃ z, idxN rs us = z := ⟨_, rfl⟩
      obtain ⟨Y, hY⟩ : ∃ Y, anewS rs nm ⟨us, ue, um, ua, uk, uc⟩ = Y := ⟨_, rfl⟩
      obtain ⟨b7, hb7⟩ : ∃ b7, (decide (0 ≤ z) && !(us.toList == nm.toList)) = b7 := ⟨_, rfl⟩
      have HY0 : Hid (b7 = false → Y = ⟨⟨us, ue, um, ua, uk, uc⟩, false, 0, E0, E0⟩) := Lib.hid (fun h => by
        rw [← hY]
        unfold anewS
        cases hi : rs.findIdx? (isN us) with
        | none => rfl
        | some j =>
          rw [idxN_some hi] at hz
          have e : (us.toList == nm.toList) = true := by rw [h, ← hz] at hb7; simpa using hb7
          simp only [e, if_true])
      have HY1 : Hid (b7 = true → ∃ j, j < n ∧ z = (j : Int) ∧ rs[j]? = some Y) := Lib.hid (fun h => by
        cases hi : rs.findIdx? (isN us) with
        | none => rw [idxN_none hi] at hz; rw [h, ← hz] at hb7; simp at hb7
        | some j =>
          rw [idxN_some hi] at hz
          have e : (us.toList == nm.toList) = false := by rw [h, ← hz] at hb7; simpa using hb7
          have hi0 := hi
          rw [List.findIdx?_eq_some_iff_getElem] at hi
          obtain ⟨h1, _⟩ := hi
          refine ⟨j, by rw [← HR.out.len]; exact h1, hz.symm, ?_⟩
          rw [← hY]
          unfold anewS
          rw [hi0]
          simp only [e]
          rw [List.getElem?_eq_getElem h1]
          rfl)
      rw [hz] at c
      have C := Lib.hid c
      have HEY := Lib.hid hY
      have HB7 := Lib.hid hb7
      clear c hz hY hb7
      obtain ⟨⟨ys, ye, ym, ya, yk, yc⟩, yh, yi, ⟨yp, yv, yo, yg⟩, ⟨yq, yu, yr, yt⟩⟩ := Y
      have hs0 := kb0.size
      go_wp2_with (fail)
      refine (C.out _ (by repeat (first | with_reducible refine Below.setCell ?_ (by first | (simp; done) | (simp; omega) | omega) _ | with_reducible refine Below.alloc ?_ (by first | (simp; done) | (simp; omega) | omega) _ | with_reducible refine Below.drew ?_ | with_reducible refine below_drewN ?_ _ | with_reducible exact Below.refl _ _ | with_reducible refine Below.trans ?_ (Below.mono kb0 (by first | (simp; done) | (simp; omega) | omega)))) (by go_simp)).mono ?_; rintro e w2 ⟨rfl, hb2⟩
      have HF : Hid (st16 w2 ⟨wr.heap.size + 1, 0, none⟩ ⟨⟨us, ue, um, ua, uk, uc⟩, false, 0, E0, E0⟩) := Lib.hid ⟨(hb2.cell (p := ⟨wr.heap.size + 1, 0, none⟩) (by first | (simp; done) | (simp; omega) | omega)).trans (by go_simp), (hb2.cell (p := ⟨wr.heap.size + 1, 1, none⟩) (by first | (simp; done) | (simp; omega) | omega)).trans (by go_simp), (hb2.cell (p := ⟨wr.heap.size + 1, 2, none⟩) (by first | (simp; done) | (simp; omega) | omega)).trans (by go_simp), (hb2.cell (p := ⟨wr.heap.size + 1, 3, none⟩) (by first | (simp; done) | (simp; omega) | omega)).trans (by go_simp), (hb2.cell (p := ⟨wr.heap.size + 1, 4, none⟩) (by first | (simp; done) | (simp; omega) | omega)).trans (by go_simp), (hb2.cell (p := ⟨wr.heap.size + 1, 5, none⟩) (by first | (simp; done) | (simp; omega) | omega)).trans (by go_simp), (hb2.cell (p := ⟨wr.heap.size + 1, 6, none⟩) (by first | (simp; done) | (simp; omega) | omega)).trans (by go_simp), (hb2.cell (p := ⟨wr.heap.size + 1, 7, none⟩) (by first | (simp; done) | (simp; omega) | omega)).trans (by go_simp), (hb2.cell (p := ⟨wr.heap.size + 1, 8, none⟩) (by first | (simp; done) | (simp; omega) | omega)).trans (by go_simp), (hb2.cell (p := ⟨wr.heap.size + 1, 9, none⟩) (by first | (simp; done) | (simp; omega) | omega)).trans (by go_simp), (hb2.cell (p := ⟨wr.heap.size + 1, 10, none⟩) (by first | (simp; done) | (simp; omega) | omega)).trans (by go_simp), (hb2.cell (p := ⟨wr.heap.size + 1, 11, none⟩) (by first | (simp; done) | (simp; omega) | omega)).trans (by go_simp), (hb2.cell (p := ⟨wr.heap.size + 1, 12, none⟩) (by first | (simp; done) | (simp; omega) | omega)).trans (by go_simp), (hb2.cell (p := ⟨wr.heap.size + 1, 13, none⟩) (by first | (simp; done) | (simp; omega) | omega)).trans (by go_simp), (hb2.cell (p := ⟨wr.heap.size + 1, 14, none⟩) (by first | (simp; done) | (simp; omega) | omega)).trans (by go_simp), (hb2.cell (p := ⟨wr.heap.size + 1, 15, none⟩) (by first | (simp; done) | (simp; omega) | omega)).trans (by go_simp)⟩
      have HFZ : Hid (∀ i, w2.frozen? ⟨wr.heap.size + 1, i, none⟩ = false) := Lib.hid (fun i => (hb2.frozen (p := ⟨wr.heap.size + 1, i, none⟩) (by first | (simp; done) | (simp; omega) | omega)).trans (by go_simp))
      have t9 : w2.cell? ⟨wr.heap.size, 0, none⟩ = some (.string us) := (hb2.cell (p := ⟨wr.heap.size, 0, none⟩) (by first | (simp; done) | (simp; omega) | omega)).trans (by go_simp)
      have hz2 : wr.heap.size + 1 < w2.heap.size := by have := hb2.size; simp at this; omega
      have hz2' : wr.heap.size < w2.heap.size := by omega
      have kb2 : Below w.heap.size w w2 := (by repeat (first | with_reducible refine Below.setCell ?_ (by first | (simp; done) | (simp; omega) | omega) _ | with_reducible refine Below.alloc ?_ (by first | (simp; done) | (simp; omega) | omega) _ | with_reducible refine Below.drew ?_ | with_reducible refine below_drewN ?_ _ | with_reducible exact Below.refl _ _ | with_reducible refine Below.trans ?_ (Below.mono kb0 (by first | (simp; done) | (simp; omega) | omega)) | with_reducible refine Below.trans ?_ (Below.mono hb2 (by first | (simp; done) | (simp; omega) | omega))))
      have kr2 : Below wr.heap.size wr w2 := (by repeat (first | with_reducible refine Below.setCell ?_ (by first | (simp; done) | (simp; omega) | omega) _ | with_reducible refine Below.alloc ?_ (by first | (simp; done) | (simp; omega) | omega) _ | with_reducible refine Below.drew ?_ | with_reducible refine below_drewN ?_ _ | with_reducible exact Below.refl _ _ | with_reducible refine Below.trans ?_ (Below.mono hb2 (by first | (simp; done) | (simp; omega) | omega))))
      clear hb2 d0 d1 d2 d3 d4 d5 C
      go_upto_region 7 with (fail)
      go_cut [30] from 23 to 29 (fun s30 w' => s30 = .bool b7 ∧ w' = w2)
      case first =>
        have hb7 := HB7.out
        cases hg : decide (0 ≤ z) with
        | false =>
          have hg' : ¬ (0 ≤ z) := by simpa using hg
          rw [hg] at hb7
          have : b7 = false := by simpa using hb7.symm
          subst this
          go_wp2_with (fail)
          go_meet
          exact ⟨rfl, rfl⟩
        | true =>
          have hg' : 0 ≤ z := by simpa using hg
          rw [hg] at hb7
          cases he : (us.toList == nm.toList) with
          | true =>
            rw [he] at hb7
            have : b7 = false := by simpa using hb7.symm
            subst this
            go_wp2_with (fail)
            go_meet
            exact ⟨rfl, rfl⟩
          | false =>
            rw [he] at hb7
            have : b7 = true := by simpa using hb7.symm
            subst this
            go_wp2_with (fail)
            go_meet
            exact ⟨rfl, rfl⟩
      case rest =>
      obtain ⟨rfl, hwc⟩ := hcut
      subst hwc
      go_upto_if 30 with (fail)
      go_cut [] from 31 to 34 (fun w' => st16 w' ⟨wr.heap.size + 1, 0, none⟩ ⟨⟨ys, ye, ym, ya, yk, yc⟩, yh, yi, ⟨yp, yv, yo, yg⟩, ⟨yq, yu, yr, yt⟩⟩ ∧ Below w.heap.size w w' ∧ Below wr.heap.size wr w')
      case first =>
        cases b7 with
        | false =>
          go_wp2_with (fail)
          go_meet
          exact ⟨by rw [HY0.out (by first | rfl | trivial)]; exact HF.out, kb2, kr2⟩
        | true =>
          obtain ⟨jj, hjn, hzj, hYj⟩ := HY1.out (by first | rfl | trivial)
          subst hzj
          obtain ⟨adx, yx, rfl, habx, hxx, _, hc16x⟩ := HR.out.get hjn
          obtain rfl := Option.some.inj (hYj.symm.trans hxx)
          obtain ⟨p, hpx⟩ : ∃ p, adx.add (jj * 16) = p := ⟨_, rfl⟩
          have hpbx : p.block < w.heap.size := by rw [← hpx, block_of_add]; exact habx
          rw [hpx] at hc16x
          obtain ⟨c0, c1, c2, c3, c4, c5, c6, c7, c8, c9, c10, c11, c12, c13, c14, c15⟩ := hc16x.below hpbx kb2
          obtain ⟨f0, f1, f2, f3, f4, f5, f6, f7, f8, f9, f10, f11, f12, f13, f14, f15⟩ := HF.out
          simp only [Nat.zero_add] at f0 f1 f2 f3 f4 f5 f6 f7 f8 f9 f10 f11 f12 f13 f14 f15
          have g0 := HFZ.out 0; have g1 := HFZ.out 1; have g2 := HFZ.out 2; have g3 := HFZ.out 3; have g4 := HFZ.out 4; have g5 := HFZ.out 5; have g6 := HFZ.out 6; have g7 := HFZ.out 7; have g8 := HFZ.out 8; have g9 := HFZ.out 9; have g10 := HFZ.out 10; have g11 := HFZ.out 11; have g12 := HFZ.out 12; have g13 := HFZ.out 13; have g14 := HFZ.out 14; have g15 := HFZ.out 15
          have hpw : p.block < wc.heap.size := by have := kb2.size; omega
          clear hxx hYj hc16x habx
          simp only [] at c0 c1 c2 c3 c4 c5 c6 c7 c8 c9 c10 c11 c12 c13 c14 c15
          go_wp2_with (fail)
          go_meet
          exact ⟨st16_put _ _ ⟨⟨us, ue, um, ua, uk, uc⟩, false, 0, E0, E0⟩ ⟨⟨ys, ye, ym, ya, yk, yc⟩, yh, yi, ⟨yp, yv, yo, yg⟩, ⟨yq, yu, yr, yt⟩⟩ HF.out, (by repeat (first | with_reducible refine Below.setCell ?_ (by first | (simp; done) | (simp; omega) | omega) _ | with_reducible refine Below.alloc ?_ (by first | (simp; done) | (simp; omega) | omega) _ | with_reducible refine Below.drew ?_ | with_reducible refine below_drewN ?_ _ | with_reducible exact Below.refl _ _ | with_reducible refine Below.trans ?_ (Below.mono kb2 (by first | (simp; done) | (simp; omega) | omega)))), (by repeat (first | with_reducible refine Below.setCell ?_ (by first | (simp; done) | (simp; omega) | omega) _ | with_reducible refine Below.alloc ?_ (by first | (simp; done) | (simp; omega) | omega) _ | with_reducible refine Below.drew ?_ | with_reducible refine below_drewN ?_ _ | with_reducible exact Below.refl _ _ | with_reducible refine Below.trans ?_ (Below.mono kr2 (by first | (simp; done) | (simp; omega) | omega))))⟩
      case rest =>
      clear HF HFZ t9 hz2 hz2' kb2 kr2 HY0 HY1 HB7
      obtain ⟨⟨e0, e1, e2, e3, e4, e5, e6, e7, e8, e9, e10, e11, e12, e13, e14, e15⟩, kb4, kr4⟩ := hcut
      simp only [Nat.zero_add] at e0 e1 e2 e3 e4 e5 e6 e7 e8 e9 e10 e11 e12 e13 e14 e15
      have hs4 := kr4.size
      have hw4 := kb4.size
      go_wp2_with (at_builtin; go_must (refine wpList_app1S rfl _ _ rfl w.heap.size OL A2 cp2 rfl (by exact row_low HW.out (by repeat (first | with_reducible refine Below.setCell ?_ (by first | (simp; done) | (simp; omega) | omega) _ | with_reducible refine Below.alloc ?_ (by first | (simp; done) | (simp; omega) | omega) _ | with_reducible refine Below.drew ?_ | with_reducible refine below_drewN ?_ _ | with_reducible exact Below.refl _ _ | with_reducible refine Below.trans ?_ (Below.mono kr4 (by first | (simp; done) | (simp; omega) | omega)))) (Nat.le_refl _)) ⟨wc.heap.size, 0, none⟩ 1 rfl ⟨⟨ys, ye, ym, ya, yk, yc⟩, yh, yi, ⟨yp, yv, yo, yg⟩, ⟨yq, yu, yr, yt⟩⟩ (by exact scells_new _ _ (by simp) ⟨⟨ys, ye, ym, ya, yk, yc⟩, yh, yi, ⟨yp, yv, yo, yg⟩, ⟨yq, yu, yr, yt⟩⟩) (by omega) (by first | (simp; done) | (simp; omega) | omega) ?_); intro O3 A3 cp3 w3 hO3 hown3 hb3; have hL3 : O3.length ≤ OL.length + 1 := (by rw [hO3]; simp); have HO3 := Lib.hid hO3; have HW3 := Lib.hid hown3; have kb3 : Below w.heap.size w w3 := (by repeat (first | with_reducible refine Below.setCell ?_ (by first | (simp; done) | (simp; omega) | omega) _ | with_reducible refine Below.alloc ?_ (by first | (simp; done) | (simp; omega) | omega) _ | with_reducible refine Below.drew ?_ | with_reducible refine below_drewN ?_ _ | with_reducible exact Below.refl _ _ | with_reducible refine Below.trans ?_ (Below.mono hb3 (by first | (simp; done) | (simp; omega) | omega)) | with_reducible refine Below.trans ?_ (Below.mono kb4 (by first | (simp; done) | (simp; omega) | omega)))); clear hO3 hown3 hb3)
      go_roundg (gk - 1)
      case measure => omega
      case rel => exact ⟨k + 1, A3, cp3, O3, by omega, by go_num, rfl, Lib.hid (by rw [HO3.out, HO.out, map_next HXu.out, HEY.out]), HW3, by omega, kb3⟩
set_option maxRecDepth 100000 in
set_option maxHeartbeats 8000000 in
theorem begun_any (A : Option Addr) (n cp : Nat) (rs : List St) (B : Option Addr) (n1 cp1 : Nat) (cs : List Ch) (w : World) (hr : StsAt w w.heap.size A n rs) (hm : n * 136 ≤ 140737488351232) (hc : ChsAt w w.heap.size B n1 cs) (hm1 : n1 ≤ 1000) :
    Calls Try.prog 44 #[.slice A n cp, .slice B n1 cp1] w fun x w' => ∃ lv, x = .returned lv ∧ OwnS w' w.heap.size lv (cs.map (begunS rs)) ∧ Below w.heap.size w w' := by
  have HR := Lib.hid hr
  have HC := Lib.hid hc
  clear hr hc
  go_enter Try.func44, Try.ntmps44
  go_wp2
  go_loopw [5, 6] (fun v i w' => ∃ (k : Nat) (A2 : Option Addr) (cp2 : Nat) (OL : List St), k ≤ n1 ∧ i = .int .i64 k ∧ v = .slice A2 OL.length cp2 ∧ Hid (OL = (cs.take k).map (begunS rs)) ∧ Hid (w'.ownsRow w.heap.size 43 16 (.slice A2 OL.length cp2) OL.length (flatE stV OL)) ∧ OL.length ≤ k ∧ KeptC w [] [] w') (fun _ i _ => n1 - (intOf i).toNat)
  case atStart => exact ⟨0, none, 0, [], Nat.zero_le _, rfl, rfl, Lib.hid rfl, Lib.hid ⟨rfl, .inl ⟨rfl, rfl⟩⟩, by simp, (by (repeat' (first | refine KeptC.cons ?_ ?_ | refine KeptC.consF ?_ ?_ ?_ | refine KeptC.mk0 ?_)); all_goals (first | with_reducible assumption | (go_simp; done) | (simp; omega) | exact (by repeat (first | with_reducible refine Below.setCell ?_ (by first | (simp; done) | (simp; omega) | omega) _ | with_reducible refine Below.alloc ?_ (by first | (simp; done) | (simp; omega) | omega) _ | with_reducible refine Below.drew ?_ | with_reducible refine below_drewN ?_ _ | with_reducible exact Below.refl _ _))))⟩
  case round =>
    obtain ⟨k, A2, cp2, OL, hk, rfl, rfl, HO, HW, hol, hK⟩ := hrel
    have kb0 := hK.1
    clear hK
    by_cases hlt : k < n1
    rotate_left
    · obtain rfl : k = n1 := by omega
      go_wp2
      go_ret
      refine ⟨_, rfl, ?_, kb0⟩
      have e := HO.out
      rw [List.take_of_length_le (Nat.le_of_eq HC.out.1)] at e
      rw [← e]
      exact HW.out
    · obtain ⟨adu, yu, hAu, habu, hxu, hszu, hc6u⟩ := HC.out.get hlt
      subst hAu
      obtain ⟨q, hqu⟩ : ∃ q, adu.add (k * 6) = q := ⟨_, rfl⟩
      have hqbu : q.block < w.heap.size := by rw [← hqu, block_of_add]; exact habu
      rw [hqu] at hc6u
      have hwsu : w.heap.size ≤ wr.heap.size := kb0.size
      have hqwu : q.block < wr.heap.size := by omega
      obtain ⟨us, ue, um, ua, uk, uc⟩ := yu
      obtain ⟨d0, d1, d2, d3, d4, d5⟩ := hc6u.below hqbu kb0
      have HXu := Lib.hid hxu
      clear hxu hszu hc6u
      simp only [] at d0 d1 d2 d3 d4 d5
      obtain ⟨w1, hw1⟩ : ∃ w1, w1 = wr := ⟨_, rfl⟩
      subst hw1
      have KB0 := Lib.hid kb0
      have HD6 := Lib.hid (show cells6 w1 q ⟨us, ue, um, ua, uk, uc⟩ from ⟨d0, d1, d2, d3, d4, d5⟩)
      clear hqbu
      go_upto_region 6 with (fail)
      clear d0 d1 d2 d3 d4 d5
      go_wp2
      go_loopw [8] (fun i w' => ∃ (k2 : Nat) (S : St), k2 ≤ n ∧ i = .int .i64 k2 ∧ Hid (S = (rs.take k2).foldl (begS ⟨us, ue, um, ua, uk, uc⟩) (fresh ⟨us, ue, um, ua, uk, uc⟩)) ∧ KeptC w1 [(⟨w1.heap.size, 0, none⟩, .string S.ch.name), (⟨w1.heap.size, 1, none⟩, .int .i64 S.ch.ep), (⟨w1.heap.size, 2, none⟩, .int .i64 S.ch.who), (⟨w1.heap.size, 3, none⟩, .bool S.ch.al), (⟨w1.heap.size, 4, none⟩, .int .i64 S.ch.kd), (⟨w1.heap.size, 5, none⟩, .int .i64 S.ch.sc), (⟨w1.heap.size, 6, none⟩, .bool S.has), (⟨w1.heap.size, 7, none⟩, .int .i64 S.inp), (⟨w1.heap.size, 8, none⟩, .bool S.mn.has), (⟨w1.heap.size, 9, none⟩, .int .i64 S.mn.val), (⟨w1.heap.size, 10, none⟩, .int .i64 S.mn.org), (⟨w1.heap.size, 11, none⟩, .int .i64 S.mn.age), (⟨w1.heap.size, 12, none⟩, .bool S.mx.has), (⟨w1.heap.size, 13, none⟩, .int .i64 S.mx.val), (⟨w1.heap.size, 14, none⟩, .int .i64 S.mx.org), (⟨w1.heap.size, 15, none⟩, .int .i64 S.mx.age)] [⟨w1.heap.size, 0, none⟩, ⟨w1.heap.size, 1, none⟩, ⟨w1.heap.size, 2, none⟩, ⟨w1.heap.size, 3, none⟩, ⟨w1.heap.size, 4, none⟩, ⟨w1.heap.size, 5, none⟩, ⟨w1.heap.size, 6, none⟩, ⟨w1.heap.size, 7, none⟩, ⟨w1.heap.size, 8, none⟩, ⟨w1.heap.size, 9, none⟩, ⟨w1.heap.size, 10, none⟩, ⟨w1.heap.size, 11, none⟩, ⟨w1.heap.size, 12, none⟩, ⟨w1.heap.size, 13, none⟩, ⟨w1.heap.size, 14, none⟩, ⟨w1.heap.size, 15, none⟩] w') (fun i _ => n - (intOf i).toNat)
      case atStart => exact ⟨0, fresh ⟨us, ue, um, ua, uk, uc⟩, Nat.zero_le _, rfl, Lib.hid rfl, (by (repeat' (first | refine KeptC.cons ?_ ?_ | refine KeptC.consF ?_ ?_ ?_ | refine KeptC.mk0 ?_)); all_goals (first | with_reducible assumption | (go_simp; done) | (simp; omega) | exact (by repeat (first | with_reducible refine Below.setCell ?_ (by first | (simp; done) | (simp; omega) | omega) _ | with_reducible refine Below.alloc ?_ (by first | (simp; done) | (simp; omega) | omega) _ | with_reducible refine Below.drew ?_ | with_reducible refine below_drewN ?_ _ | with_reducible exact Below.refl _ _))))⟩
      case round =>
        obtain ⟨k2, S, hk2, rfl, HS, hK⟩ := hrel
        obtain ⟨⟨bs, be, bm, ba, bk, bc⟩, bh, bi, ⟨bp, bv, bo, bg⟩, ⟨bq, bu, br, bt⟩⟩ := S
        simp only [] at hK
        have HK0 := Lib.hid hK
        simp only [KeptC, List.forall_mem_cons] at hK; obtain ⟨kb0, ⟨kc0_0, kc0_1, kc0_2, kc0_3, kc0_4, kc0_5, kc0_6, kc0_7, kc0_8, kc0_9, kc0_10, kc0_11, kc0_12, kc0_13, kc0_14, kc0_15, _⟩, ⟨kz0_0, kg0_0⟩, ⟨kz0_1, kg0_1⟩, ⟨kz0_2, kg0_2⟩, ⟨kz0_3, kg0_3⟩, ⟨kz0_4, kg0_4⟩, ⟨kz0_5, kg0_5⟩, ⟨kz0_6, kg0_6⟩, ⟨kz0_7, kg0_7⟩, ⟨kz0_8, kg0_8⟩, ⟨kz0_9, kg0_9⟩, ⟨kz0_10, kg0_10⟩, ⟨kz0_11, kg0_11⟩, ⟨kz0_12, kg0_12⟩, ⟨kz0_13, kg0_13⟩, ⟨kz0_14, kg0_14⟩, ⟨kz0_15, kg0_15⟩, _⟩ := hK
        have hs1 := KB0.out.size
        have kbw : Below w.heap.size w wr := KB0.out.trans (kb0.mono hs1)
        have hbx : w1.heap.size < wr.heap.size := cell_lt kc0_0
        have hws0 := kbw.size
        by_cases hlt2 : k2 < n
        rotate_left
        · obtain rfl : k2 = n := by omega
          have HE : Hid (⟨⟨bs, be, bm, ba, bk, bc⟩, bh, bi, ⟨bp, bv, bo, bg⟩, ⟨bq, bu, br, bt⟩⟩ = begunS rs ⟨us, ue, um, ua, uk, uc⟩) := Lib.hid (by have := HS.out; rwa [List.take_of_length_le (Nat.le_of_eq HR.out.len)] at this)
          go_wp2_with (at_builtin; go_must (refine wpList_app1S rfl _ _ rfl w.heap.size OL A2 cp2 rfl (by exact row_low HW.out (by repeat (first | with_reducible refine Below.setCell ?_ (by first | (simp; done) | (simp; omega) | omega) _ | with_reducible refine Below.alloc ?_ (by first | (simp; done) | (simp; omega) | omega) _ | with_reducible refine Below.drew ?_ | with_reducible refine below_drewN ?_ _ | with_reducible exact Below.refl _ _ | with_reducible refine Below.trans ?_ (Below.mono kb0 (by first | (simp; done) | (simp; omega) | omega)))) (Nat.le_refl _)) ⟨wr.heap.size, 0, none⟩ 1 rfl ⟨⟨bs, be, bm, ba, bk, bc⟩, bh, bi, ⟨bp, bv, bo, bg⟩, ⟨bq, bu, br, bt⟩⟩ (by exact scells_new _ _ (by simp) ⟨⟨bs, be, bm, ba, bk, bc⟩, bh, bi, ⟨bp, bv, bo, bg⟩, ⟨bq, bu, br, bt⟩⟩) (by omega) (by first | (simp; done) | (simp; omega) | omega) ?_); intro O3 A3 cp3 w3 hO3 hown3 hb3; have hL3 : O3.length ≤ OL.length + 1 := (by rw [hO3]; simp); have HO3 := Lib.hid hO3; have HW3 := Lib.hid hown3; have kb3 : Below w.heap.size w w3 := (by repeat (first | with_reducible refine Below.setCell ?_ (by first | (simp; done) | (simp; omega) | omega) _ | with_reducible refine Below.alloc ?_ (by first | (simp; done) | (simp; omega) | omega) _ | with_reducible refine Below.drew ?_ | with_reducible refine below_drewN ?_ _ | with_reducible exact Below.refl _ _ | with_reducible refine Below.trans ?_ (Below.mono hb3 (by first | (simp; done) | (simp; omega) | omega)) | with_reducible refine Below.trans ?_ (Below.mono kbw (by first | (simp; done) | (simp; omega) | omega)))); clear hO3 hown3 hb3)
          go_roundw
          case rel => exact ⟨k + 1, A3, cp3, O3, by omega, by go_num, rfl, Lib.hid (by rw [HO3.out, HO.out, map_next HXu.out, ← HE.out]), HW3, by omega, (by (repeat' (first | refine KeptC.cons ?_ ?_ | refine KeptC.consF ?_ ?_ ?_ | refine KeptC.mk0 ?_)); all_goals (first | with_reducible assumption | (go_simp; done) | (simp; omega) | exact (by repeat (first | with_reducible refine Below.setCell ?_ (by first | (simp; done) | (simp; omega) | omega) _ | with_reducible refine Below.alloc ?_ (by first | (simp; done) | (simp; omega) | omega) _ | with_reducible refine Below.drew ?_ | with_reducible refine below_drewN ?_ _ | with_reducible exact Below.refl _ _ | with_reducible refine Below.trans ?_ (Below.mono kb3 (by first | (simp; done) | (simp; omega) | omega))))))⟩
          case measure => simp [intOf]; omega
        · obtain ⟨adx, yx, hAx, habx, hxx, hszx, hc16x⟩ := HR.out.get hlt2
          subst hAx
          obtain ⟨p, hpx⟩ : ∃ p, adx.add (k2 * 16) = p := ⟨_, rfl⟩
          have hpbx : p.block < w.heap.size := by rw [← hpx, block_of_add]; exact habx
          rw [hpx] at hc16x
          have hwsx : w.heap.size ≤ wr.heap.size := kbw.size
          have hpwx : p.block < wr.heap.size := by omega
          obtain ⟨⟨xs, xe, xm, xa, xk, xc⟩, xh, xi, ⟨xp, xv, xo, xg⟩, ⟨xq, xu, xr, xt⟩⟩ := yx
          obtain ⟨c0, c1, c2, c3, c4, c5, c6, c7, c8, c9, c10, c11, c12, c13, c14, c15⟩ := hc16x.below hpbx kbw
          have HXx := Lib.hid hxx
          clear hxx hszx hc16x
          simp only [] at c0 c1 c2 c3 c4 c5 c6 c7 c8 c9 c10 c11 c12 c13 c14 c15
          obtain ⟨d0, d1, d2, d3, d4, d5⟩ := HD6.out.below hqwu kb0
          simp only [] at d0 d1 d2 d3 d4 d5
          have hqr : q.block < wr.heap.size := by omega
          clear hpbx
          have qe : ∀ W, (binOp .eql 38 (.agg #[.string xs, .int .i64 xe, .int .i64 xm, .bool xa, .int .i64 xk, .int .i64 xc]) (.agg #[.string us, .int .i64 ue, .int .i64 um, .bool ua, .int .i64 uk, .int .i64 uc])).run Try.prog W = .ok (.bool (chEq ⟨xs, xe, xm, xa, xk, xc⟩ ⟨us, ue, um, ua, uk, uc⟩)) W := fun W => eql_chan ⟨xs, xe, xm, xa, xk, xc⟩ ⟨us, ue, um, ua, uk, uc⟩ W
          cases hq : chEq ⟨xs, xe, xm, xa, xk, xc⟩ ⟨us, ue, um, ua, uk, uc⟩ with
          | true =>
            rw [hq] at qe
            have HQ := Lib.hid hq
            clear hq
            go_wp2_with (fail)
            go_quiet (fail)
            go_wp2
            go_roundw
            case rel => exact ⟨k2 + 1, ⟨⟨xs, xe, xm, xa, xk, xc⟩, xh, xi, ⟨xp, xv, xo, xg⟩, ⟨xq, xu, xr, xt⟩⟩, by omega, by go_num, Lib.hid (by rw [fold_next HXx.out, ← HS.out]; unfold begS; rw [if_pos HQ.out]), (by (repeat' (first | refine KeptC.cons ?_ ?_ | refine KeptC.consF ?_ ?_ ?_ | refine KeptC.mk0 ?_)); all_goals (first | with_reducible assumption | (go_simp; done) | (simp; omega) | exact (by repeat (first | with_reducible refine Below.setCell ?_ (by first | (simp; done) | (simp; omega) | omega) _ | with_reducible refine Below.alloc ?_ (by first | (simp; done) | (simp; omega) | omega) _ | with_reducible refine Below.drew ?_ | with_reducible refine below_drewN ?_ _ | with_reducible exact Below.refl _ _ | with_reducible refine Below.trans ?_ (Below.mono kb0 (by first | (simp; done) | (simp; omega) | omega))))))⟩
            case measure => simp [intOf]; omega
          | false =>
            rw [hq] at qe
            have HQ := Lib.hid hq
            clear hq
            go_wp2_with (fail)
            go_quiet (fail)
            go_wp2
            go_roundw
            case rel => exact ⟨k2 + 1, ⟨⟨bs, be, bm, ba, bk, bc⟩, bh, bi, ⟨bp, bv, bo, bg⟩, ⟨bq, bu, br, bt⟩⟩, by omega, by go_num, Lib.hid (by rw [fold_next HXx.out, ← HS.out]; unfold begS; rw [if_neg (by rw [HQ.out]; simp)]), (by (repeat' (first | refine KeptC.cons ?_ ?_ | refine KeptC.consF ?_ ?_ ?_ | refine KeptC.mk0 ?_)); all_goals (first | with_reducible assumption | (go_simp; done) | (simp; omega) | exact (by repeat (first | with_reducible refine Below.setCell ?_ (by first | (simp; done) | (simp; omega) | omega) _ | with_reducible refine Below.alloc ?_ (by first | (simp; done) | (simp; omega) | omega) _ | with_reducible refine Below.drew ?_ | with_reducible refine below_drewN ?_ _ | with_reducible exact Below.refl _ _ | with_reducible refine Below.trans ?_ (Below.mono kb0 (by first | (simp; done) | (simp; omega) | omega))))))⟩
            case measure => simp [intOf]; omega
end Go.Proofs.Ytfihkkamedghkaa
