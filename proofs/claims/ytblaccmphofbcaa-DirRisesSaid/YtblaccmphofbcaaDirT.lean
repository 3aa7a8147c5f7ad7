/- stamped of the law: if it returns true, a stamp of a name is one record's alone, and eight names hold all; for every few lists. -/
import Derived.Test.YtblaccmphofbcaaDirW
import Derived.Test.YtblaccmphofbcaaDirS
namespace Go.Proofs.Ytblaccmphofbcaa
open Go.RowKit
set_option linter.unusedVariables false
def StI (OL : List Ch) (z : Int) : Prop := (∃ ns : List ByteArray, (ns.length : Int) = z ∧ ∀ x ∈ OL, ∃ n ∈ ns, eqN x.name n = true) ∧ ∀ x ∈ OL, ∀ y ∈ OL, eqN x.name y.name = true → x.ep = y.ep → x.who = y.who → x = y
def KnI (OL : List Ch) (x : Ch) (j : Nat) (b : Bool) : Prop := (b = true → ∃ d ∈ OL, eqN d.name x.name = true) ∧ (b = false → ∀ d ∈ OL.take j, eqN d.name x.name = false) ∧ ∀ d ∈ OL.take j, eqN d.name x.name = true → d.ep = x.ep → d.who = x.who → d = x
theorem stI_nil : StI [] 0 := ⟨⟨[], rfl, by simp⟩, by simp⟩
theorem kn_zero (OL : List Ch) (x : Ch) : KnI OL x 0 false := ⟨by simp, by simp, by simp⟩
theorem mem_next {OL : List Ch} {j : Nat} {d y : Ch} (hd : OL[j]? = some d) (hy : y ∈ OL.take (j + 1)) : y ∈ OL.take j ∨ y = d := by
  rw [List.take_add_one, hd] at hy
  simpa using hy
theorem kn_off {OL : List Ch} {x d : Ch} {j : Nat} {b : Bool} (h : KnI OL x j b) (hd : OL[j]? = some d) (he : eqN d.name x.name = false) : KnI OL x (j + 1) b :=
  ⟨h.1, fun hb y hy => by
    rcases mem_next hd hy with hy | rfl
    · exact h.2.1 hb y hy
    · exact he, fun y hy h1 h2 h3 => by
    rcases mem_next hd hy with hy | rfl
    · exact h.2.2 y hy h1 h2 h3
    · rw [he] at h1; cases h1⟩
theorem kn_on {OL : List Ch} {x d : Ch} {j : Nat} {b : Bool} (h : KnI OL x j b) (hd : OL[j]? = some d) (he : eqN d.name x.name = true) (hs : d.ep = x.ep → d.who = x.who → d = x) : KnI OL x (j + 1) true :=
  ⟨fun _ => ⟨d, List.mem_of_getElem? hd, he⟩, fun hb => (by cases hb), fun y hy h1 h2 h3 => by
    rcases mem_next hd hy with hy | rfl
    · exact h.2.2 y hy h1 h2 h3
    · exact hs h2 h3⟩
theorem stI_cons {OL : List Ch} {z : Int} {x : Ch} {b : Bool} (h : StI OL z) (k : KnI OL x OL.length b) : ∀ y ∈ OL ++ [x], ∀ y2 ∈ OL ++ [x], eqN y.name y2.name = true → y.ep = y2.ep → y.who = y2.who → y = y2 := by
  have hk := k.2.2
  rw [List.take_of_length_le (Nat.le_refl _)] at hk
  intro y hy y2 hy2 h1 h2 h3
  rcases List.mem_append.1 hy with hy' | hy'
  · rcases List.mem_append.1 hy2 with hy3 | hy3
    · exact h.2 y hy' y2 hy3 h1 h2 h3
    · have e : y2 = x := by simpa using hy3
      subst e
      exact hk y hy' h1 h2 h3
  · have e : y = x := by simpa using hy'
    subst e
    rcases List.mem_append.1 hy2 with hy3 | hy3
    · exact (hk y2 hy3 (eqN_symm h1) h2.symm h3.symm).symm
    · have e : y2 = y := by simpa using hy3
      exact e.symm
theorem stI_known {OL : List Ch} {z : Int} {x : Ch} (h : StI OL z) (k : KnI OL x OL.length true) : StI (OL ++ [x]) z := by
  refine ⟨?_, stI_cons h k⟩
  obtain ⟨ns, h1, h2⟩ := h.1
  refine ⟨ns, h1, fun y hy => ?_⟩
  rcases List.mem_append.1 hy with hy | hy
  · exact h2 y hy
  · obtain rfl : y = x := by simpa using hy
    obtain ⟨d, hd, he⟩ := k.1 rfl
    obtain ⟨n, hn, hne⟩ := h2 d hd
    exact ⟨n, hn, eqN_trans (eqN_symm he) hne⟩
theorem stI_new {OL : List Ch} {z : Int} {x : Ch} {b : Bool} (h : StI OL z) (k : KnI OL x OL.length b) : StI (OL ++ [x]) (z + 1) := by
  refine ⟨?_, stI_cons h k⟩
  obtain ⟨ns, h1, h2⟩ := h.1
  refine ⟨x.name :: ns, by simp; omega, fun y hy => ?_⟩
  rcases List.mem_append.1 hy with hy | hy
  · obtain ⟨n, hn, hne⟩ := h2 y hy
    exact ⟨n, by simp [hn], hne⟩
  · obtain rfl : y = x := by simpa using hy
    exact ⟨y.name, by simp, eqN_iff.2 rfl⟩
theorem stI_end {OL : List Ch} {z : Int} (h : StI OL z) (h8 : z ≤ 8) : Cons (· ∈ OL) ∧ Few (· ∈ OL) := by
  refine ⟨fun x y hx hy he h1 h2 => ?_, ?_⟩
  · obtain ⟨h3, h4⟩ := nw_same h1 h2
    exact h.2 x hx y hy he h3 h4
  · obtain ⟨ns, h1, h2⟩ := h.1
    exact ⟨ns, by omega, h2⟩
theorem flat_next {LL : List (List Ch)} {k : Nat} {rs : List Ch} (h : LL[k]? = some rs) : (LL.take (k + 1)).flatten = (LL.take k).flatten ++ rs := by
  rw [List.take_add_one, h]
  simp
/-- Some lists of records, as a slice of slices. -/
def ListsAt (w : World) (ad : Addr) (LL : List (List Ch)) : Prop := ∀ (i : Nat) (rs : List Ch), LL[i]? = some rs → ∃ A c, w.cell? (ad.add i) = some (.slice A rs.length c) ∧ ChsAt w w.heap.size A rs.length rs ∧ rs.length ≤ 8
theorem names_ok {LL : List (List Ch)} {w : World} {ad : Addr} (h : ListsAt w ad LL) : ∀ x ∈ LL.flatten, x.name.size ≤ maxLen := by
  intro x hx
  obtain ⟨rs, hrs, hx⟩ := List.mem_flatten.1 hx
  obtain ⟨i, hi, rfl⟩ := List.getElem_of_mem hrs
  obtain ⟨A, c, _, h2, _⟩ := h i _ (List.getElem?_eq_getElem hi)
  exact h2.2.1 x hx
set_option maxRecDepth 100000 in
set_option maxHeartbeats 16000000 in
theorem stamped_any (ad : Addr) (N cp : Nat) (LL : List (List Ch)) (w : World) (hN : LL.length = N) (hN3 : N ≤ 3) (hab : ad.block < w.heap.size) (h : ListsAt w ad LL) :
    Calls Try.prog 18 #[.slice (some ad) N cp] w fun x w' => ∃ b, x = .returned (.bool b) ∧ Below w.heap.size w w' ∧ (b = true → Cons (· ∈ LL.flatten) ∧ Few (· ∈ LL.flatten)) := by
  have HN := Lib.hid hN
  have HL := Lib.hid h
  clear hN h
  go_enter Try.func18, Try.ntmps18
  go_wp2
  go_loopw [3, 4, 14] (fun v nn i w' => ∃ (k : Nat) (OL : List Ch) (A : Option Addr) (c : Nat) (z : Int), k ≤ N ∧ i = .int .i64 k ∧ nn = .int .i64 z ∧ v = .slice A OL.length c ∧ Hid (OL = (LL.take k).flatten) ∧ Hid (OwnC w' w.heap.size (.slice A OL.length c) OL) ∧ Hid (StI OL z) ∧ 0 ≤ z ∧ z ≤ OL.length ∧ OL.length ≤ 8 * k ∧ KeptC w [] [] w') (fun _ _ i _ => N - (intOf i).toNat)
  case atStart => exact ⟨0, [], none, 0, 0, Nat.zero_le _, rfl, rfl, rfl, Lib.hid rfl, Lib.hid (OwnC.nil _ _), Lib.hid stI_nil, by omega, by simp, by simp, (by (repeat' (first | refine KeptC.cons ?_ ?_ | refine KeptC.consF ?_ ?_ ?_ | refine KeptC.mk0 ?_)); all_goals (first | with_reducible assumption | (go_simp; done) | (simp; omega) | exact (by repeat (first | with_reducible refine Below.setCell ?_ (by first | (simp; done) | (simp; omega) | omega) _ | with_reducible refine Below.alloc ?_ (by first | (simp; done) | (simp; omega) | omega) _ | with_reducible refine Below.drew ?_ | with_reducible refine below_drewN ?_ _ | with_reducible exact Below.refl _ _))))⟩
  case round =>
    obtain ⟨k, OL, A, c, z, hk, rfl, rfl, rfl, HO, HW, HS, hz0, hz1, hol, hK⟩ := hrel
    have kb0 := hK.1
    clear hK
    by_cases hlt : k < N
    rotate_left
    · obtain rfl : k = N := by omega
      go_wp2
      go_ret
      refine ⟨_, rfl, kb0, fun hb => ?_⟩
      have e := HO.out
      rw [List.take_of_length_le (by have := HN.out; omega)] at e
      rw [← e]
      exact stI_end HS.out (by simpa using hb)
    · obtain ⟨rs, hrs⟩ : ∃ rs, LL[k]? = some rs := ⟨_, List.getElem?_eq_getElem (by have := HN.out; omega)⟩
      obtain ⟨A2, c2, hcell, hch, h8⟩ := HL.out k rs hrs
      obtain ⟨P, hP⟩ : ∃ P, ad.add k = P := ⟨_, rfl⟩
      have hPb : P.block < w.heap.size := by rw [← hP, block_of_add]; exact hab
      rw [hP] at hcell
      have hcw := (kb0.cell hPb).trans hcell
      have hws := kb0.size
      have hPw : P.block < wr.heap.size := by omega
      have HC := Lib.hid hch
      have HRS := Lib.hid hrs
      clear hcell hch hrs
      obtain ⟨w1, hw1⟩ : ∃ w1, w1 = wr := ⟨_, rfl⟩
      subst hw1
      generalize hn : rs.length = n at *
      have HLN := Lib.hid hn
      clear hn
      go_wp2
      go_loopw [3, 4, 20] (fun v nn i w' => ∃ (j : Nat) (O2 : List Ch) (A3 : Option Addr) (c3 : Nat) (z2 : Int), j ≤ n ∧ i = .int .i64 j ∧ nn = .int .i64 z2 ∧ v = .slice A3 O2.length c3 ∧ Hid (O2 = OL ++ rs.take j) ∧ Hid (OwnC w' w.heap.size (.slice A3 O2.length c3) O2) ∧ Hid (StI O2 z2) ∧ 0 ≤ z2 ∧ z2 ≤ O2.length ∧ O2.length ≤ OL.length + j ∧ KeptC w [] [] w') (fun _ _ i _ => n - (intOf i).toNat)
      case atStart => exact ⟨0, OL, A, c, z, Nat.zero_le _, rfl, rfl, rfl, Lib.hid (by simp), HW, HS, by omega, by omega, by omega, (by (repeat' (first | refine KeptC.cons ?_ ?_ | refine KeptC.consF ?_ ?_ ?_ | refine KeptC.mk0 ?_)); all_goals (first | with_reducible assumption | (go_simp; done) | (simp; omega) | exact (by repeat (first | with_reducible refine Below.setCell ?_ (by first | (simp; done) | (simp; omega) | omega) _ | with_reducible refine Below.alloc ?_ (by first | (simp; done) | (simp; omega) | omega) _ | with_reducible refine Below.drew ?_ | with_reducible refine below_drewN ?_ _ | with_reducible exact Below.refl _ _ | with_reducible refine Below.trans ?_ (Below.mono kb0 (by first | (simp; done) | (simp; omega) | omega))))))⟩
      case round =>
        obtain ⟨j, O2, A3, c3, z2, hj, rfl, rfl, rfl, HO2, HW2, HS2, hy0, hy1, hol2, hK⟩ := hrel
        have kb1 := hK.1
        clear hK
        clear hcw hPw hws kb0 HW
        by_cases hlt2 : j < n
        rotate_left
        · obtain rfl : j = n := by omega
          go_wp2
          go_roundw
          case rel => exact ⟨k + 1, O2, A3, c3, z2, by omega, by go_num, rfl, rfl, Lib.hid (by rw [HO2.out, flat_next HRS.out, ← HO.out, List.take_of_length_le (Nat.le_of_eq HLN.out)]), HW2, HS2, by omega, by omega, by omega, (by (repeat' (first | refine KeptC.cons ?_ ?_ | refine KeptC.consF ?_ ?_ ?_ | refine KeptC.mk0 ?_)); all_goals (first | with_reducible assumption | (go_simp; done) | (simp; omega) | exact (by repeat (first | with_reducible refine Below.setCell ?_ (by first | (simp; done) | (simp; omega) | omega) _ | with_reducible refine Below.alloc ?_ (by first | (simp; done) | (simp; omega) | omega) _ | with_reducible refine Below.drew ?_ | with_reducible refine below_drewN ?_ _ | with_reducible exact Below.refl _ _ | with_reducible refine Below.trans ?_ (Below.mono kb1 (by first | (simp; done) | (simp; omega) | omega))))))⟩
          case measure => simp [intOf]; omega
        · obtain ⟨ax, x, hA, hax, hx, hsz, hc6⟩ := HC.out.get hlt2
          subst hA
          obtain ⟨p, hp⟩ : ∃ p, ax.add (j * 6) = p := ⟨_, rfl⟩
          have hpb : p.block < w.heap.size := by rw [← hp, block_of_add]; exact hax
          rw [hp] at hc6
          have hws2 := kb1.size
          have hpw : p.block < wr.heap.size := by omega
          obtain ⟨c0, c1, c2', c3', c4, c5⟩ := hc6.below hpb kb1
          obtain ⟨xs, xe, xm, xa, xk, xc⟩ := x
          have HX := Lib.hid hx
          clear hx hsz hc6
          simp only [] at c0 c1 c2' c3' c4 c5
          obtain ⟨w2, hw2⟩ : ∃ w2, w2 = wr := ⟨_, rfl⟩
          subst hw2
          have hoc : ChsAt w2 w2.heap.size A3 O2.length O2 := by
            obtain ⟨A', c', e, h⟩ := HW2.out.at_ (fun y hy => by
              rw [HO2.out] at hy
              rcases List.mem_append.1 hy with hy' | hy'
              · rw [HO.out] at hy'
                exact names_ok HL.out y (by
                  obtain ⟨l, hl, hy'⟩ := List.mem_flatten.1 hy'
                  exact List.mem_flatten.2 ⟨l, List.mem_of_mem_take hl, hy'⟩)
              · exact HC.out.2.1 y (List.mem_of_mem_take hy'))
            obtain ⟨rfl, _, rfl⟩ := Value.slice.inj e
            exact h
          have HOC := Lib.hid hoc
          clear hoc
          go_wp2
          go_loopw [9, 26] (fun bv i w' => ∃ (q : Nat) (b : Bool), q ≤ O2.length ∧ i = .int .i64 q ∧ bv = .bool b ∧ Hid (KnI O2 ⟨xs, xe, xm, xa, xk, xc⟩ q b) ∧ Hid (OwnC w' w.heap.size (.slice A3 O2.length c3) O2) ∧ Below w2.heap.size w2 w' ∧ KeptC w [(⟨w2.heap.size, 0, none⟩, .string xs), (⟨w2.heap.size, 1, none⟩, .int .i64 xe), (⟨w2.heap.size, 2, none⟩, .int .i64 xm), (⟨w2.heap.size, 3, none⟩, .bool xa), (⟨w2.heap.size, 4, none⟩, .int .i64 xk), (⟨w2.heap.size, 5, none⟩, .int .i64 xc)] [] w') (fun _ i _ => O2.length - (intOf i).toNat)
          case atStart => exact ⟨0, false, Nat.zero_le _, rfl, rfl, Lib.hid (kn_zero _ _), Lib.hid (HW2.out.below (by repeat (first | with_reducible refine Below.setCell ?_ (by first | (simp; done) | (simp; omega) | omega) _ | with_reducible refine Below.alloc ?_ (by first | (simp; done) | (simp; omega) | omega) _ | with_reducible refine Below.drew ?_ | with_reducible refine below_drewN ?_ _ | with_reducible exact Below.refl _ _))), (by repeat (first | with_reducible refine Below.setCell ?_ (by first | (simp; done) | (simp; omega) | omega) _ | with_reducible refine Below.alloc ?_ (by first | (simp; done) | (simp; omega) | omega) _ | with_reducible refine Below.drew ?_ | with_reducible refine below_drewN ?_ _ | with_reducible exact Below.refl _ _)), (by (repeat' (first | refine KeptC.cons ?_ ?_ | refine KeptC.consF ?_ ?_ ?_ | refine KeptC.mk0 ?_)); all_goals (first | with_reducible assumption | (go_simp; done) | (simp; omega) | exact (by repeat (first | with_reducible refine Below.setCell ?_ (by first | (simp; done) | (simp; omega) | omega) _ | with_reducible refine Below.alloc ?_ (by first | (simp; done) | (simp; omega) | omega) _ | with_reducible refine Below.drew ?_ | with_reducible refine below_drewN ?_ _ | with_reducible exact Below.refl _ _ | with_reducible refine Below.trans ?_ (Below.mono kb1 (by first | (simp; done) | (simp; omega) | omega))))))⟩
          case round =>
            obtain ⟨q, b, hq, rfl, rfl, HKN, HW3, hb3, hK⟩ := hrel
            clear c0 c1 c2' c3' c4 c5 hpw hws2
            have HK3 := Lib.hid hK
            simp only [KeptC, List.forall_mem_cons] at hK; obtain ⟨kb3, ⟨kc3_0, kc3_1, kc3_2, kc3_3, kc3_4, kc3_5, _⟩, _⟩ := hK
            have hBx : w2.heap.size < wr.heap.size := cell_lt kc3_0
            have hw13 : w.heap.size ≤ wr.heap.size := kb3.size
            by_cases hlt3 : q < O2.length
            rotate_left
            · obtain rfl : q = O2.length := by omega
              cases b with
              | true =>
                go_wp2_with (at_builtin; go_must (refine wpList_app1 rfl _ _ rfl w.heap.size O2 A3 c3 rfl (by exact row_low HW3.out (by repeat (first | with_reducible refine Below.setCell ?_ (by first | (simp; done) | (simp; omega) | omega) _ | with_reducible refine Below.alloc ?_ (by first | (simp; done) | (simp; omega) | omega) _ | with_reducible refine Below.drew ?_ | with_reducible refine below_drewN ?_ _ | with_reducible exact Below.refl _ _)) (Nat.le_refl _)) ⟨wr.heap.size, 0, none⟩ 1 rfl ⟨xs, xe, xm, xa, xk, xc⟩ (by exact cells_new _ ⟨xs, xe, xm, xa, xk, xc⟩) (by omega) (by first | (simp; done) | (simp; omega) | omega) ?_); intro O4 A4 c4 w4 hO4 hown4 hb4; have hL4 : O4.length ≤ O2.length + 1 := (by rw [hO4]; simp); have hL5 : O2.length + 1 ≤ O4.length := (by rw [hO4]; simp); have HO4 := Lib.hid hO4; have HW4 := Lib.hid hown4; have kb4 : Below w.heap.size w w4 := (by repeat (first | with_reducible refine Below.setCell ?_ (by first | (simp; done) | (simp; omega) | omega) _ | with_reducible refine Below.alloc ?_ (by first | (simp; done) | (simp; omega) | omega) _ | with_reducible refine Below.drew ?_ | with_reducible refine below_drewN ?_ _ | with_reducible exact Below.refl _ _ | with_reducible refine Below.trans ?_ (Below.mono kb3 (by first | (simp; done) | (simp; omega) | omega)) | with_reducible refine Below.trans ?_ (Below.mono hb4 (by first | (simp; done) | (simp; omega) | omega)))); clear hown4 hO4 hb4)
                go_roundw
                case rel => exact ⟨j + 1, O4, A4, c4, z2, by omega, by go_num, by go_num, rfl, Lib.hid (by rw [HO4.out, HO2.out, List.append_assoc, List.take_add_one, HX.out]; rfl), HW4, Lib.hid (by rw [HO4.out]; exact stI_known HS2.out HKN.out), by omega, by omega, by omega, (by (repeat' (first | refine KeptC.cons ?_ ?_ | refine KeptC.consF ?_ ?_ ?_ | refine KeptC.mk0 ?_)); all_goals (first | with_reducible assumption | (go_simp; done) | (simp; omega) | exact (by repeat (first | with_reducible refine Below.setCell ?_ (by first | (simp; done) | (simp; omega) | omega) _ | with_reducible refine Below.alloc ?_ (by first | (simp; done) | (simp; omega) | omega) _ | with_reducible refine Below.drew ?_ | with_reducible refine below_drewN ?_ _ | with_reducible exact Below.refl _ _ | with_reducible refine Below.trans ?_ (Below.mono kb4 (by first | (simp; done) | (simp; omega) | omega))))))⟩
                case measure => simp [intOf]; omega
              | false =>
                go_wp2_with (at_builtin; go_must (refine wpList_app1 rfl _ _ rfl w.heap.size O2 A3 c3 rfl (by exact row_low HW3.out (by repeat (first | with_reducible refine Below.setCell ?_ (by first | (simp; done) | (simp; omega) | omega) _ | with_reducible refine Below.alloc ?_ (by first | (simp; done) | (simp; omega) | omega) _ | with_reducible refine Below.drew ?_ | with_reducible refine below_drewN ?_ _ | with_reducible exact Below.refl _ _)) (Nat.le_refl _)) ⟨wr.heap.size, 0, none⟩ 1 rfl ⟨xs, xe, xm, xa, xk, xc⟩ (by exact cells_new _ ⟨xs, xe, xm, xa, xk, xc⟩) (by omega) (by first | (simp; done) | (simp; omega) | omega) ?_); intro O4 A4 c4 w4 hO4 hown4 hb4; have hL4 : O4.length ≤ O2.length + 1 := (by rw [hO4]; simp); have hL5 : O2.length + 1 ≤ O4.length := (by rw [hO4]; simp); have HO4 := Lib.hid hO4; have HW4 := Lib.hid hown4; have kb4 : Below w.heap.size w w4 := (by repeat (first | with_reducible refine Below.setCell ?_ (by first | (simp; done) | (simp; omega) | omega) _ | with_reducible refine Below.alloc ?_ (by first | (simp; done) | (simp; omega) | omega) _ | with_reducible refine Below.drew ?_ | with_reducible refine below_drewN ?_ _ | with_reducible exact Below.refl _ _ | with_reducible refine Below.trans ?_ (Below.mono kb3 (by first | (simp; done) | (simp; omega) | omega)) | with_reducible refine Below.trans ?_ (Below.mono hb4 (by first | (simp; done) | (simp; omega) | omega)))); clear hown4 hO4 hb4)
                go_roundw
                case rel => exact ⟨j + 1, O4, A4, c4, z2 + 1, by omega, by go_num, by go_num, rfl, Lib.hid (by rw [HO4.out, HO2.out, List.append_assoc, List.take_add_one, HX.out]; rfl), HW4, Lib.hid (by rw [HO4.out]; exact stI_new HS2.out HKN.out), by omega, by omega, by omega, (by (repeat' (first | refine KeptC.cons ?_ ?_ | refine KeptC.consF ?_ ?_ ?_ | refine KeptC.mk0 ?_)); all_goals (first | with_reducible assumption | (go_simp; done) | (simp; omega) | exact (by repeat (first | with_reducible refine Below.setCell ?_ (by first | (simp; done) | (simp; omega) | omega) _ | with_reducible refine Below.alloc ?_ (by first | (simp; done) | (simp; omega) | omega) _ | with_reducible refine Below.drew ?_ | with_reducible refine below_drewN ?_ _ | with_reducible exact Below.refl _ _ | with_reducible refine Below.trans ?_ (Below.mono kb4 (by first | (simp; done) | (simp; omega) | omega))))))⟩
                case measure => simp [intOf]; omega
            · obtain ⟨ay, d, hA, hay, hd, hdz, hd6⟩ := HOC.out.get hlt3
              subst hA
              obtain ⟨p2, hp2⟩ : ∃ p2, ay.add (q * 6) = p2 := ⟨_, rfl⟩
              have hp2b : p2.block < w2.heap.size := by rw [← hp2, block_of_add]; exact hay
              rw [hp2] at hd6
              have hp2w : p2.block < wr.heap.size := by omega
              obtain ⟨d0, d1, d2, d3, d4, d5⟩ := hd6.below hp2b hb3
              have hcs := ch_cases d ⟨xs, xe, xm, xa, xk, xc⟩
              obtain ⟨ys, ye, ym, ya, yk, yc⟩ := d
              have HD := Lib.hid hd
              clear hd hdz hd6 HX
              simp only [] at d0 d1 d2 d3 d4 d5 hcs
              rcases hcs with h | h | h | h | h | h | h
              · obtain ⟨rfl, rfl, rfl, rfl, rfl, rfl⟩ := Ch.mk.inj h
                clear h
                go_wp2
                go_roundw
                case rel => exact ⟨q + 1, true, by omega, by go_num, rfl, Lib.hid (kn_on HKN.out HD.out (eqN_iff.2 rfl) fun _ _ => rfl), Lib.hid (HW3.out.below (by repeat (first | with_reducible refine Below.setCell ?_ (by first | (simp; done) | (simp; omega) | omega) _ | with_reducible refine Below.alloc ?_ (by first | (simp; done) | (simp; omega) | omega) _ | with_reducible refine Below.drew ?_ | with_reducible refine below_drewN ?_ _ | with_reducible exact Below.refl _ _))), (by repeat (first | with_reducible refine Below.setCell ?_ (by first | (simp; done) | (simp; omega) | omega) _ | with_reducible refine Below.alloc ?_ (by first | (simp; done) | (simp; omega) | omega) _ | with_reducible refine Below.drew ?_ | with_reducible refine below_drewN ?_ _ | with_reducible exact Below.refl _ _ | with_reducible refine Below.trans ?_ (Below.mono hb3 (by first | (simp; done) | (simp; omega) | omega)))), (by (repeat' (first | refine KeptC.cons ?_ ?_ | refine KeptC.consF ?_ ?_ ?_ | refine KeptC.mk0 ?_)); all_goals (first | with_reducible assumption | (go_simp; done) | (simp; omega) | exact (by repeat (first | with_reducible refine Below.setCell ?_ (by first | (simp; done) | (simp; omega) | omega) _ | with_reducible refine Below.alloc ?_ (by first | (simp; done) | (simp; omega) | omega) _ | with_reducible refine Below.drew ?_ | with_reducible refine below_drewN ?_ _ | with_reducible exact Below.refl _ _ | with_reducible refine Below.trans ?_ (Below.mono kb3 (by first | (simp; done) | (simp; omega) | omega))))))⟩
                case measure => simp [intOf]; omega
              · have HE : Hid (eqN ys xs = false) := Lib.hid h
                go_wp2
                go_roundw
                case rel => exact ⟨q + 1, b, by omega, by go_num, rfl, Lib.hid (kn_off HKN.out HD.out HE.out), Lib.hid (HW3.out.below (by repeat (first | with_reducible refine Below.setCell ?_ (by first | (simp; done) | (simp; omega) | omega) _ | with_reducible refine Below.alloc ?_ (by first | (simp; done) | (simp; omega) | omega) _ | with_reducible refine Below.drew ?_ | with_reducible refine below_drewN ?_ _ | with_reducible exact Below.refl _ _))), (by repeat (first | with_reducible refine Below.setCell ?_ (by first | (simp; done) | (simp; omega) | omega) _ | with_reducible refine Below.alloc ?_ (by first | (simp; done) | (simp; omega) | omega) _ | with_reducible refine Below.drew ?_ | with_reducible refine below_drewN ?_ _ | with_reducible exact Below.refl _ _ | with_reducible refine Below.trans ?_ (Below.mono hb3 (by first | (simp; done) | (simp; omega) | omega)))), (by (repeat' (first | refine KeptC.cons ?_ ?_ | refine KeptC.consF ?_ ?_ ?_ | refine KeptC.mk0 ?_)); all_goals (first | with_reducible assumption | (go_simp; done) | (simp; omega) | exact (by repeat (first | with_reducible refine Below.setCell ?_ (by first | (simp; done) | (simp; omega) | omega) _ | with_reducible refine Below.alloc ?_ (by first | (simp; done) | (simp; omega) | omega) _ | with_reducible refine Below.drew ?_ | with_reducible refine below_drewN ?_ _ | with_reducible exact Below.refl _ _ | with_reducible refine Below.trans ?_ (Below.mono kb3 (by first | (simp; done) | (simp; omega) | omega))))))⟩
                case measure => simp [intOf]; omega
              · obtain ⟨rfl, h⟩ := h
                have hb' : (ye == xe) = false := by simpa using h
                have HE := Lib.hid h
                go_wp2
                go_roundw
                case rel => exact ⟨q + 1, true, by omega, by go_num, rfl, Lib.hid (kn_on HKN.out HD.out (eqN_iff.2 rfl) fun h1 _ => absurd h1 HE.out), Lib.hid (HW3.out.below (by repeat (first | with_reducible refine Below.setCell ?_ (by first | (simp; done) | (simp; omega) | omega) _ | with_reducible refine Below.alloc ?_ (by first | (simp; done) | (simp; omega) | omega) _ | with_reducible refine Below.drew ?_ | with_reducible refine below_drewN ?_ _ | with_reducible exact Below.refl _ _))), (by repeat (first | with_reducible refine Below.setCell ?_ (by first | (simp; done) | (simp; omega) | omega) _ | with_reducible refine Below.alloc ?_ (by first | (simp; done) | (simp; omega) | omega) _ | with_reducible refine Below.drew ?_ | with_reducible refine below_drewN ?_ _ | with_reducible exact Below.refl _ _ | with_reducible refine Below.trans ?_ (Below.mono hb3 (by first | (simp; done) | (simp; omega) | omega)))), (by (repeat' (first | refine KeptC.cons ?_ ?_ | refine KeptC.consF ?_ ?_ ?_ | refine KeptC.mk0 ?_)); all_goals (first | with_reducible assumption | (go_simp; done) | (simp; omega) | exact (by repeat (first | with_reducible refine Below.setCell ?_ (by first | (simp; done) | (simp; omega) | omega) _ | with_reducible refine Below.alloc ?_ (by first | (simp; done) | (simp; omega) | omega) _ | with_reducible refine Below.drew ?_ | with_reducible refine below_drewN ?_ _ | with_reducible exact Below.refl _ _ | with_reducible refine Below.trans ?_ (Below.mono kb3 (by first | (simp; done) | (simp; omega) | omega))))))⟩
                case measure => simp [intOf]; omega
              · obtain ⟨rfl, rfl, h⟩ := h
                have hb' : (ym == xm) = false := by simpa using h
                have HE := Lib.hid h
                go_wp2
                go_roundw
                case rel => exact ⟨q + 1, true, by omega, by go_num, rfl, Lib.hid (kn_on HKN.out HD.out (eqN_iff.2 rfl) fun _ h2 => absurd h2 HE.out), Lib.hid (HW3.out.below (by repeat (first | with_reducible refine Below.setCell ?_ (by first | (simp; done) | (simp; omega) | omega) _ | with_reducible refine Below.alloc ?_ (by first | (simp; done) | (simp; omega) | omega) _ | with_reducible refine Below.drew ?_ | with_reducible refine below_drewN ?_ _ | with_reducible exact Below.refl _ _))), (by repeat (first | with_reducible refine Below.setCell ?_ (by first | (simp; done) | (simp; omega) | omega) _ | with_reducible refine Below.alloc ?_ (by first | (simp; done) | (simp; omega) | omega) _ | with_reducible refine Below.drew ?_ | with_reducible refine below_drewN ?_ _ | with_reducible exact Below.refl _ _ | with_reducible refine Below.trans ?_ (Below.mono hb3 (by first | (simp; done) | (simp; omega) | omega)))), (by (repeat' (first | refine KeptC.cons ?_ ?_ | refine KeptC.consF ?_ ?_ ?_ | refine KeptC.mk0 ?_)); all_goals (first | with_reducible assumption | (go_simp; done) | (simp; omega) | exact (by repeat (first | with_reducible refine Below.setCell ?_ (by first | (simp; done) | (simp; omega) | omega) _ | with_reducible refine Below.alloc ?_ (by first | (simp; done) | (simp; omega) | omega) _ | with_reducible refine Below.drew ?_ | with_reducible refine below_drewN ?_ _ | with_reducible exact Below.refl _ _ | with_reducible refine Below.trans ?_ (Below.mono kb3 (by first | (simp; done) | (simp; omega) | omega))))))⟩
                case measure => simp [intOf]; omega
              · obtain ⟨rfl, rfl, rfl, h⟩ := h
                subst h
                go_wp2
                go_ret
                exact ⟨false, rfl, (by repeat (first | with_reducible refine Below.setCell ?_ (by first | (simp; done) | (simp; omega) | omega) _ | with_reducible refine Below.alloc ?_ (by first | (simp; done) | (simp; omega) | omega) _ | with_reducible refine Below.drew ?_ | with_reducible refine below_drewN ?_ _ | with_reducible exact Below.refl _ _ | with_reducible refine Below.trans ?_ (Below.mono kb3 (by first | (simp; done) | (simp; omega) | omega)))), fun h => by cases h⟩
              · obtain ⟨rfl, rfl, rfl, rfl, h⟩ := h
                have hb' : (yk == xk) = false := by simpa using h
                go_wp2
                go_ret
                exact ⟨false, rfl, (by repeat (first | with_reducible refine Below.setCell ?_ (by first | (simp; done) | (simp; omega) | omega) _ | with_reducible refine Below.alloc ?_ (by first | (simp; done) | (simp; omega) | omega) _ | with_reducible refine Below.drew ?_ | with_reducible refine below_drewN ?_ _ | with_reducible exact Below.refl _ _ | with_reducible refine Below.trans ?_ (Below.mono kb3 (by first | (simp; done) | (simp; omega) | omega)))), fun h => by cases h⟩
              · obtain ⟨rfl, rfl, rfl, rfl, rfl, h⟩ := h
                have hb' : (yc == xc) = false := by simpa using h
                go_wp2
                go_ret
                exact ⟨false, rfl, (by repeat (first | with_reducible refine Below.setCell ?_ (by first | (simp; done) | (simp; omega) | omega) _ | with_reducible refine Below.alloc ?_ (by first | (simp; done) | (simp; omega) | omega) _ | with_reducible refine Below.drew ?_ | with_reducible refine below_drewN ?_ _ | with_reducible exact Below.refl _ _ | with_reducible refine Below.trans ?_ (Below.mono kb3 (by first | (simp; done) | (simp; omega) | omega)))), fun h => by cases h⟩
end Go.Proofs.Ytblaccmphofbcaa
