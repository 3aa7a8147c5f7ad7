/- Drop, Put, Find, Begin and Write of the reference of chapter 10, for half-edges with one line each: what each call computes. -/
import Derived.Test.YtaakbpnaifpcbaaHlf
import Derived.Deep.CutRange
namespace Go.Proofs.Ytaakbpnaifpcbaa
open Go.RowKit
set_option linter.unusedVariables false
set_option linter.unusedSimpArgs false
abbrev Tr := Int × Int × Int
def hd (x : HL) : Tr := (x.peer, x.wr, x.fl)
def dropT (p : Int) (l : List Tr) : List Tr := l.filter (fun t => !(t.1 == p))
def putT (h : Tr) (l : List Tr) : List Tr := (dropT h.1 l).takeWhile (fun t => decide (t.1 < h.1)) ++ h :: (dropT h.1 l).dropWhile (fun t => decide (t.1 < h.1))
theorem row_low {W : World} {base : Nat} {e : TypeId} {size : Nat} {v : Value} {n : Nat} {xs : List Value} (h : W.ownsRow base e size v n xs) {B : Nat} {W' : World} (hb : Below B W W') (hB : W.heap.size ≤ B) : W'.ownsRow base e size v n xs := by
  refine ⟨h.1, ?_⟩
  rcases h.2 with hn | ⟨g, cap, cur, hv, hb', hgb, rest⟩
  · exact .inl hn
  · exact .inr ⟨g, cap, cur, hv, hb', (hb.block g (Nat.lt_of_lt_of_le (Array.getElem?_eq_some_iff.1 hgb).1 hB)).trans hgb, rest⟩
theorem row_grown {W w1 : World} {base : Nat} {e : TypeId} {size : Nat} {v : Value} {n : Nat} {xs : List Value} (h : W.ownsRow base e size v n xs) (hg : W.grownBy w1 v.ownBlock) (hb : base ≤ W.heap.size) : Below base W w1 := by
  refine (Below.refl base W).grown hg hb fun j ej => ?_
  rcases h.2 with ⟨rfl, _⟩ | ⟨g, cap, cur, rfl, hb, _⟩
  · simp [Value.ownBlock] at ej
  · simp [Value.ownBlock] at ej
    omega
/-- Lines that lie in no block of the row v. -/
def LnsN (w : World) (v : Value) (xs : List HL) : Prop := ∀ x ∈ xs, x.la.block < w.heap.size ∧ line4 w x.la x.wr x.fl ∧ v.ownBlock ≠ some x.la.block
theorem line4.same {w w' : World} {p : Addr} {a b : Int} (h : line4 w p a b) (hb : w'.heap[p.block]? = w.heap[p.block]?) : line4 w' p a b := by
  obtain ⟨h0, h1, h2, h3⟩ := h
  exact ⟨(World.cell?_of_block hb).trans h0, (World.cell?_of_block (a := ⟨_, _, none⟩) hb).trans h1, (World.cell?_of_block (a := ⟨_, _, none⟩) hb).trans h2, (World.cell?_of_block (a := ⟨_, _, none⟩) hb).trans h3⟩
theorem LnsN.at_ {w : World} {v : Value} {xs : List HL} (h : LnsN w v xs) : LnsAt w w.heap.size xs := fun x hx => ⟨(h x hx).1, (h x hx).2.1⟩
theorem LnsN.grown {w w' : World} {v v' : Value} {xs : List HL} (h : LnsN w v xs) (hg : w.grownBy w' v.ownBlock) (hv : v'.ownBlock = v.ownBlock ∨ v'.ownBlock = some w.heap.size) : LnsN w' v' xs := fun x hx => by
  obtain ⟨h1, h2, h3⟩ := h x hx
  have hb := hg.block x.la.block h1 (Ne.symm h3)
  refine ⟨?_, h2.same hb, ?_⟩
  · rcases Nat.lt_or_ge x.la.block w'.heap.size with h4 | h4
    · exact h4
    · rw [Array.getElem?_eq_none h4, Array.getElem?_eq_getElem h1] at hb
      cases hb
  · rcases hv with hv | hv
    · rw [hv]; exact h3
    · rw [hv]
      intro e
      have := Option.some.inj e
      omega
theorem LnsN.below {w w' : World} {v : Value} {xs : List HL} (h : LnsN w v xs) (hb : Below w.heap.size w w') : LnsN w' v xs := fun x hx => by
  obtain ⟨h1, h2, h3⟩ := h x hx
  exact ⟨Nat.lt_of_lt_of_le h1 hb.size, h2.below h1 hb, h3⟩
theorem LnsN.snoc {w : World} {v : Value} {xs : List HL} {x : HL} (h : LnsN w v xs) (h1 : x.la.block < w.heap.size) (h2 : line4 w x.la x.wr x.fl) (h3 : v.ownBlock ≠ some x.la.block) : LnsN w v (xs ++ [x]) := fun y hy => by
  rcases List.mem_append.1 hy with hy | hy
  · exact h y hy
  · rw [List.mem_singleton] at hy
    subst hy
    exact ⟨h1, h2, h3⟩
theorem own_lt {w : World} {base : Nat} {e : TypeId} {k n : Nat} {v : Value} {xs : List Value} (h : w.ownsRow base e k v n xs) : ∀ b, v.ownBlock = some b → b < w.heap.size := by
  intro b hb
  rcases h.2 with ⟨rfl, _⟩ | ⟨g, cap, cur, rfl, _, hgb, _⟩
  · simp [Value.ownBlock] at hb
  · simp [Value.ownBlock] at hb
    subst hb
    exact (Array.getElem?_eq_some_iff.1 hgb).1
theorem hcells_new (W : World) (g : Nat) (hg : W.heap.size = g) (x : HL) : ∀ (j : Nat) (u : Value), (encH x)[j]? = some u → (W.alloc (Obj.cells #[.int .i64 x.peer, .int .i64 1, .int .i64 0, .slice (some x.la) 1 x.lc, .bool false, .int .i64 0] 33)).cell? ((⟨g, 0, none⟩ : Addr).add j) = some u := by
  subst hg
  intro j u hu
  have hj : j < 6 := by have := (List.getElem?_eq_some_iff.1 hu).1; simpa [encH] using this
  rw [Addr.add_lit]
  match j, hj with
  | 0, _ | 1, _ | 2, _ | 3, _ | 4, _ | 5, _ => simp [encH] at hu; subst hu; go_simp
theorem wpList_app1H {w : World} {ops : Array Oper} {rest : List Oper} {o : Oper} {a : Act} {Q : Exit → Act → World → Prop} (hgd : o.guard = none) (s x : Operand)
    (ho : o.op = .call { callee := .builtin .append, args := #[s, x], argTypes := #[36, 36] }) (base : Nat) (OL : List HL) (A : Option Addr) (cp : Nat) (hs : a.eval s = .slice A OL.length cp)
    (hown : w.ownsRow base 33 6 (.slice A OL.length cp) OL.length (flatE encH OL)) (ad : Addr) (m : Nat) (hx : a.eval x = .slice (some ad) 1 m) (c : HL) (hc : ∀ j u, (encH c)[j]? = some u → w.cell? (ad.add j) = some u)
    (hm : OL.length < 1000000000000) (hbase : base ≤ w.heap.size)
    (h : ∀ OL' A' cp' w', OL' = OL ++ [c] → w'.ownsRow base 33 6 (.slice A' OL'.length cp') OL'.length (flatE encH OL') → Below base w w' → (∀ v0 xs, v0 = Value.slice A OL.length cp → LnsN w v0 xs → LnsN w' (.slice A' OL'.length cp') xs) → wpList Try.prog ops Q rest (a.put o.dst (.slice A' OL'.length cp')) w') :
    wpList Try.prog ops Q (o :: rest) a w := by
  obtain ⟨i0, hi0, hz0, hz1, hz2⟩ := info_parts half_inf
  refine wpList_append_own_at w hgd s x _ ho base 33 i0 _ 6 64 Try.underlying36 hi0 hz0 hz1 hz2 rfl (by omega) _ _ _ hs hown ad 1 m (encH c) hx rfl hc (encH_one c) (by simp only [maxLen]; omega) (by omega) hbase ?_
  intro v' w' h1 h2 _ h3
  have hb := row_grown hown h2 hbase
  rw [← flatE_snoc, show OL.length + 1 = (OL ++ [c]).length by simp] at h1
  obtain ⟨A', cp', rfl⟩ := row_slice' h1
  exact h _ A' cp' w' rfl h1 hb (fun v0 xs e hn => by subst e; exact hn.grown h2 (by simpa using h3))
theorem take_nextT {xs : List HL} {k : Nat} {x : HL} {p : Int} (hx : xs[k]? = some x) : dropT p ((xs.take (k + 1)).map hd) = dropT p ((xs.take k).map hd) ++ (if x.peer = p then [] else [hd x]) := by
  rw [List.take_add_one, hx]
  simp only [Option.toList_some, List.map_append, List.map_cons, List.map_nil, dropT, List.filter_append]
  congr 1
  by_cases h : x.peer = p
  · rw [if_pos h]
    have : (hd x).1 = p := h
    simp [this]
  · rw [if_neg h]
    have : ¬ (hd x).1 = p := h
    simp [this]
theorem LnsAt.one {w : World} {B : Nat} {x : HL} (h : x.la.block < B) (hl : line4 w x.la x.wr x.fl) : LnsAt w B [x] := fun y hy => by
  rw [List.mem_singleton] at hy
  subst hy
  exact ⟨h, hl⟩
def OwnH (w : World) (base : Nat) (v : Value) (xs : List HL) : Prop := OwnE encH 6 33 w base v xs ∧ LnsAt w w.heap.size xs ∧ ∀ x ∈ xs, base ≤ x.la.block
theorem OwnH.at_ {w : World} {base : Nat} {v : Value} {xs : List HL} (h : OwnH w base v xs) : ∃ A c, v = .slice A xs.length c ∧ HsAt w w.heap.size A xs.length xs := by
  obtain ⟨A, c, e, h1⟩ := OwnE.at_ encH_len h.1
  exact ⟨A, c, e, h1, h.2.1⟩
theorem own_cap {w : World} {base : Nat} {e : TypeId} {k n c : Nat} {A : Option Addr} {xs : List Value} (h : w.ownsRow base e k (.slice A n c) n xs) : n ≤ c := by
  rcases h.2 with ⟨h1, h2⟩ | ⟨g, cap, cur, h1, _, _, hc, _⟩
  · omega
  · obtain ⟨_, _, rfl⟩ := Value.slice.inj h1
    exact hc
set_option maxRecDepth 100000 in
set_option maxHeartbeats 8000000 in
theorem rdrop_any (A : Option Addr) (n cp : Nat) (xs : List HL) (p : Int) (w : World) (hr : HsAt w w.heap.size A n xs) (hm : n ≤ 1000) :
    Calls Try.prog 15 #[.slice A n cp, .int .i64 p] w fun e w' => ∃ lv fb OL, e = .returned (.tuple #[lv, .bool fb]) ∧ OwnH w' w.heap.size lv OL ∧ OL.map hd = dropT p (xs.map hd) ∧ OL.length ≤ n ∧ Below w.heap.size w w' := by
  have HR := Lib.hid hr
  clear hr
  go_enter Try.func15, Try.ntmps15
  go_wp2
  go_loopw [6, 7, 8] (fun o f i w' => ∃ (k : Nat) (A2 : Option Addr) (cp2 : Nat) (OL : List HL) (fb : Bool), k ≤ n ∧ i = .int .i64 k ∧ f = .bool fb ∧ o = .slice A2 OL.length cp2 ∧ Hid (OL.map hd = dropT p ((xs.take k).map hd)) ∧ Hid (w'.ownsRow w.heap.size 33 6 (.slice A2 OL.length cp2) OL.length (flatE encH OL)) ∧ Hid (LnsN w' (.slice A2 OL.length cp2) OL) ∧ Hid (∀ x ∈ OL, w.heap.size ≤ x.la.block) ∧ OL.length ≤ k ∧ Below w.heap.size w w') (fun _ _ i _ => n - (intOf i).toNat)
  case atStart => exact ⟨0, none, 0, [], false, Nat.zero_le _, rfl, rfl, rfl, Lib.hid rfl, Lib.hid ⟨rfl, .inl ⟨rfl, rfl⟩⟩, Lib.hid (fun x hx => by cases hx), Lib.hid (fun x hx => by cases hx), by simp, (by repeat (first | with_reducible refine Below.setCell ?_ (by first | (simp; done) | (simp; omega) | omega) _ | with_reducible refine Below.alloc ?_ (by first | (simp; done) | (simp; omega) | omega) _ | with_reducible refine Below.drew ?_ | with_reducible refine below_drewN ?_ _ | with_reducible exact Below.refl _ _))⟩
  case round =>
    obtain ⟨k, A2, cp2, OL, fb, hk, rfl, rfl, rfl, HO, HW, HLn, HNw, hol, kb0⟩ := hrel
    by_cases hlt : k < n
    rotate_left
    · obtain rfl : k = n := by omega
      go_wp2
      go_ret2
      refine ⟨_, _, OL, rfl, ⟨HW.out, HLn.out.at_, HNw.out⟩, ?_, hol, kb0⟩
      have e := HO.out
      rwa [List.take_of_length_le (Nat.le_of_eq HR.out.len)] at e
    · obtain ⟨ad, x, rfl, hab, hx, h6, hlb, hl4⟩ := HR.out.get hlt
      obtain ⟨P, hP⟩ : ∃ P, ad.add (k * 6) = P := ⟨_, rfl⟩
      have hPb : P.block < w.heap.size := by rw [← hP, block_of_add]; exact hab
      rw [hP] at h6
      have hs0 := kb0.size
      have hPw : P.block < wr.heap.size := by omega
      obtain ⟨c0, c1, c2, c3, c4, c5⟩ := h6.below hPb kb0
      have HX := Lib.hid hx
      have HB := Lib.hid hlb
      have H4 := Lib.hid (hl4.below hlb kb0)
      clear hx h6 hl4 hlb
      by_cases hp : x.peer = p
      · have hpb : (x.peer == p) = true := by simpa using hp
        have HE : Hid (OL.map hd = dropT p ((xs.take (k + 1)).map hd)) := Lib.hid (by rw [take_nextT HX.out, if_pos hp, List.append_nil]; exact HO.out)
        clear hp
        go_wp2
        go_roundw
        case rel => exact ⟨k + 1, A2, cp2, OL, true, by omega, by go_num, rfl, rfl, HE, HW, HLn, HNw, by omega, kb0⟩
        case measure => simp [intOf]; omega
      · have hpb : (x.peer == p) = false := by simpa using hp
        have HE : Hid (dropT p ((xs.take (k + 1)).map hd) = OL.map hd ++ [hd x]) := Lib.hid (by rw [take_nextT HX.out, if_neg hp, HO.out])
        clear hp
        go_wp2_with (fail)
        refine (one_any x _ (by have := HB.out; omega) H4.out).mono ?_; rintro e w2 ⟨la, lc, rfl, hla, hl2, hln, hb2⟩
        have hs2 := hb2.size
        have kb2 : Below w.heap.size w w2 := (by repeat (first | with_reducible refine Below.setCell ?_ (by first | (simp; done) | (simp; omega) | omega) _ | with_reducible refine Below.alloc ?_ (by first | (simp; done) | (simp; omega) | omega) _ | with_reducible refine Below.drew ?_ | with_reducible refine below_drewN ?_ _ | with_reducible exact Below.refl _ _ | with_reducible refine Below.trans ?_ (Below.mono hb2 (by first | (simp; done) | (simp; omega) | omega)) | with_reducible refine Below.trans ?_ (Below.mono kb0 (by first | (simp; done) | (simp; omega) | omega))))
        have HL2 := Lib.hid hl2
        clear hl2
        have HN2 : Hid (LnsN w2 (.slice A2 OL.length cp2) (OL ++ [⟨x.peer, x.wr, x.fl, la, lc⟩])) := Lib.hid ((HLn.out.below hb2).snoc hla HL2.out (fun e => by have h9 := own_lt HW.out _ e; (try simp at hln); (try simp at h9); omega))
        go_wp2_with (at_builtin; go_must (refine wpList_app1H rfl _ _ rfl w.heap.size OL A2 cp2 rfl (by exact row_low HW.out (by repeat (first | with_reducible refine Below.setCell ?_ (by first | (simp; done) | (simp; omega) | omega) _ | with_reducible refine Below.alloc ?_ (by first | (simp; done) | (simp; omega) | omega) _ | with_reducible refine Below.drew ?_ | with_reducible refine below_drewN ?_ _ | with_reducible exact Below.refl _ _ | with_reducible refine Below.trans ?_ (Below.mono hb2 (by first | (simp; done) | (simp; omega) | omega)))) (Nat.le_refl _)) ⟨w2.heap.size, 0, none⟩ 1 rfl ⟨x.peer, x.wr, x.fl, la, lc⟩ (by exact hcells_new _ _ (by simp) ⟨x.peer, x.wr, x.fl, la, lc⟩) (by omega) (by first | (simp; done) | (simp; omega) | omega) ?_); intro O3 A3 cp3 w3 hO3 hown3 hb3 hn3; have hL3 : O3.length ≤ OL.length + 1 := (by rw [hO3]; simp); have HO3 := Lib.hid hO3; have HW3 := Lib.hid hown3; have HNN3 := Lib.hid hn3; clear hO3 hown3 hn3)
        have kb3 : Below w.heap.size w w3 := (by repeat (first | with_reducible refine Below.setCell ?_ (by first | (simp; done) | (simp; omega) | omega) _ | with_reducible refine Below.alloc ?_ (by first | (simp; done) | (simp; omega) | omega) _ | with_reducible refine Below.drew ?_ | with_reducible refine below_drewN ?_ _ | with_reducible exact Below.refl _ _ | with_reducible refine Below.trans ?_ (Below.mono hb3 (by first | (simp; done) | (simp; omega) | omega)) | with_reducible refine Below.trans ?_ (Below.mono kb2 (by first | (simp; done) | (simp; omega) | omega))))
        have HN3 : Hid (LnsN w3 (.slice A3 O3.length cp3) O3) := Lib.hid (by have := HNN3.out _ _ rfl (HN2.out.below ((Below.refl _ _).alloc (Nat.le_refl _) _)); rw [← HO3.out] at this; exact this)
        have HE3 : Hid (O3.map hd = dropT p ((xs.take (k + 1)).map hd)) := Lib.hid (by rw [HE.out, HO3.out]; simp [hd])
        have HNw3 : Hid (∀ y ∈ O3, w.heap.size ≤ y.la.block) := Lib.hid (fun y hy => by
          rw [HO3.out] at hy
          rcases List.mem_append.1 hy with hy | hy
          · exact HNw.out y hy
          · rw [List.mem_singleton] at hy
            subst hy
            have h8 := hln
            (try simp at h8)
            show w.heap.size ≤ la.block
            omega)
        clear hb3
        go_roundw
        case rel => exact ⟨k + 1, A3, cp3, O3, fb, by omega, by go_num, rfl, rfl, HE3, HW3, HN3, HNw3, by omega, kb3⟩
        case measure => simp [intOf]; omega
theorem take_lt_next {R : List HL} {k : Nat} {y : HL} {p : Int} (h : ∀ x ∈ R.take k, x.peer < p) (hy : R[k]? = some y) (hp : y.peer < p) : ∀ x ∈ R.take (k + 1), x.peer < p := by
  intro x hx
  rw [List.take_add_one, hy] at hx
  rcases List.mem_append.1 hx with hx | hx
  · exact h x hx
  · simp at hx; subst hx; exact hp
theorem put_end {R : List HL} {h : Tr} {k : Nat} (h1 : ∀ x ∈ R.take k, x.peer < h.1) (h2 : ∀ y, R[k]? = some y → ¬ y.peer < h.1) :
    (R.map hd).takeWhile (fun t => decide (t.1 < h.1)) = (R.take k).map hd ∧ (R.map hd).dropWhile (fun t => decide (t.1 < h.1)) = (R.drop k).map hd := by
  have e : R.map hd = (R.take k).map hd ++ (R.drop k).map hd := by rw [← List.map_append, List.take_append_drop]
  have ht : ∀ t ∈ (R.take k).map hd, decide (t.1 < h.1) = true := by
    intro t ht
    obtain ⟨x, hx, rfl⟩ := List.mem_map.1 ht
    exact decide_eq_true (h1 x hx)
  have hd0 : (R.drop k).map hd = [] ∨ ∃ t l, (R.drop k).map hd = t :: l ∧ decide (t.1 < h.1) = false := by
    cases hk : R[k]? with
    | none => exact .inl (by rw [List.drop_eq_nil_of_le (List.getElem?_eq_none_iff.1 hk)]; rfl)
    | some y =>
      obtain ⟨hkl, hy⟩ := List.getElem?_eq_some_iff.1 hk
      refine .inr ⟨hd y, (R.drop (k + 1)).map hd, ?_, decide_eq_false (h2 y hk)⟩
      rw [← hy, List.drop_eq_getElem_cons hkl]
      rfl
  rw [e, List.takeWhile_append_of_pos ht, List.dropWhile_append_of_pos ht]
  rcases hd0 with h0 | ⟨t, l, h0, h3⟩
  · rw [h0]; simp
  · rw [h0, List.takeWhile_cons_of_neg (by rw [h3]; simp), List.dropWhile_cons_of_neg (by rw [h3]; simp)]
    simp
theorem rowsE_take {w : World} {B n m : Nat} {A : Option Addr} {rs : List HL} (h : RowsE encH 6 w B A n rs) (hm : m ≤ n) : RowsE encH 6 w B A m (rs.take m) := by
  refine ⟨by rw [List.length_take, h.1]; omega, fun h0 => ?_⟩
  obtain ⟨ad, e, hB, hc⟩ := h.2 (by omega)
  refine ⟨ad, e, hB, fun j x hx => hc j x ?_⟩
  rw [List.getElem?_take] at hx
  split at hx
  · exact hx
  · cases hx
theorem flatE_app (xs ys : List HL) : flatE encH (xs ++ ys) = flatE encH xs ++ flatE encH ys := by unfold flatE; simp
theorem flatE_drop (rs : List HL) (k : Nat) : (flatE encH rs).drop (k * 6) = flatE encH (rs.drop k) := by
  induction rs generalizing k with
  | nil => simp [flatE]
  | cons x xs ih =>
    cases k with
    | zero => simp
    | succ k =>
      have e : flatE encH (x :: xs) = encH x ++ flatE encH xs := rfl
      rw [e, show (k + 1) * 6 = (encH x).length + k * 6 by rw [encH_len]; omega, List.drop_append, List.drop_eq_nil_of_le (by omega), List.nil_append, show (encH x).length + k * 6 - (encH x).length = k * 6 by omega, ih]
      rfl
set_option maxRecDepth 100000 in
set_option maxHeartbeats 8000000 in
theorem rput_any (A : Option Addr) (n cp : Nat) (xs : List HL) (h : HL) (w : World) (hr : HsAt w w.heap.size A n xs) (hm : n ≤ 1000) (hb : h.la.block < w.heap.size) (hl : line4 w h.la h.wr h.fl) :
    Calls Try.prog 6 #[.slice A n cp, .agg #[.int .i64 h.peer, .int .i64 1, .int .i64 0, .slice (some h.la) 1 h.lc, .bool false, .int .i64 0]] w fun e w' => ∃ lv OL, e = .returned lv ∧ OwnH w' w.heap.size lv OL ∧ OL.map hd = putT (hd h) (xs.map hd) ∧ OL.length ≤ n + 1 ∧ Below w.heap.size w w' := by
  have HR := Lib.hid hr
  have cd := fun W (hb : Below w.heap.size w W) => rdrop_any A n cp xs h.peer W ((HR.out.below hb).more hb.size) hm
  have CD := Lib.hid cd
  have HL4 := Lib.hid hl
  clear hr cd hl
  obtain ⟨i0, hi0, hj0, hj1, hj2⟩ := info_parts half_inf
  go_enter Try.func6, Try.ntmps6
  go_wp2_with (fail)
  refine (CD.out _ (by repeat (first | with_reducible refine Below.setCell ?_ (by first | (simp; done) | (simp; omega) | omega) _ | with_reducible refine Below.alloc ?_ (by first | (simp; done) | (simp; omega) | omega) _ | with_reducible refine Below.drew ?_ | with_reducible refine below_drewN ?_ _ | with_reducible exact Below.refl _ _))).mono ?_; rintro e w1 ⟨lv, fb, R, rfl, hown, hR, hRl, hb1⟩
  have K1 : KeptC w1 [(⟨w.heap.size, 0, none⟩, .int .i64 h.peer), (⟨w.heap.size, 1, none⟩, .int .i64 1), (⟨w.heap.size, 2, none⟩, .int .i64 0), (⟨w.heap.size, 3, none⟩, .slice (some h.la) 1 h.lc), (⟨w.heap.size, 4, none⟩, .bool false), (⟨w.heap.size, 5, none⟩, .int .i64 0)] [] w1 := by
    have kq : KeptC w [(⟨w.heap.size, 0, none⟩, .int .i64 h.peer), (⟨w.heap.size, 1, none⟩, .int .i64 1), (⟨w.heap.size, 2, none⟩, .int .i64 0), (⟨w.heap.size, 3, none⟩, .slice (some h.la) 1 h.lc), (⟨w.heap.size, 4, none⟩, .bool false), (⟨w.heap.size, 5, none⟩, .int .i64 0)] [] w1 := KeptC.below (by (repeat' (first | refine KeptC.cons ?_ ?_ | refine KeptC.consF ?_ ?_ ?_ | refine KeptC.mk0 ?_)); all_goals (first | with_reducible assumption | (go_simp; done) | (simp; omega) | exact (by repeat (first | with_reducible refine Below.setCell ?_ (by first | (simp; done) | (simp; omega) | omega) _ | with_reducible refine Below.alloc ?_ (by first | (simp; done) | (simp; omega) | omega) _ | with_reducible refine Below.drew ?_ | with_reducible refine below_drewN ?_ _ | with_reducible exact Below.refl _ _)))) hb1
    exact ⟨Below.refl _ _, kq.2.1, kq.2.2⟩
  have kb1 : Below w.heap.size w w1 := (by repeat (first | with_reducible refine Below.setCell ?_ (by first | (simp; done) | (simp; omega) | omega) _ | with_reducible refine Below.alloc ?_ (by first | (simp; done) | (simp; omega) | omega) _ | with_reducible refine Below.drew ?_ | with_reducible refine below_drewN ?_ _ | with_reducible exact Below.refl _ _ | with_reducible refine Below.trans ?_ (Below.mono hb1 (by first | (simp; done) | (simp; omega) | omega))))
  have hz1 : w.heap.size < w1.heap.size := by have := hb1.size; simp at this; omega
  obtain ⟨A1, c1, rfl, hat⟩ := hown.at_
  have hcap : R.length ≤ c1 := own_cap hown.1
  have HNR : Hid (∀ x ∈ R, w.heap.size ≤ x.la.block) := Lib.hid (fun x hx => by have := hown.2.2 x hx; (try simp at this); omega)
  have HAT := Lib.hid hat
  have HRR := Lib.hid hR
  clear hown hat hR hb1 CD
  go_wp2
  go_loopg [8] R.length (fun gk i w' => ∃ (k : Nat), gk + k = R.length ∧ i = .int .i64 k ∧ Hid (∀ y ∈ R.take k, y.peer < h.peer) ∧ KeptC w1 [(⟨w.heap.size, 0, none⟩, .int .i64 h.peer), (⟨w.heap.size, 1, none⟩, .int .i64 1), (⟨w.heap.size, 2, none⟩, .int .i64 0), (⟨w.heap.size, 3, none⟩, .slice (some h.la) 1 h.lc), (⟨w.heap.size, 4, none⟩, .bool false), (⟨w.heap.size, 5, none⟩, .int .i64 0)] [] w')
  case atStart => exact ⟨0, by omega, rfl, Lib.hid (by simp), K1⟩
  case round =>
    obtain ⟨k, hk, rfl, HT, hK⟩ := hrel
    clear K1
    have HK := Lib.hid hK
    simp only [KeptC, List.forall_mem_cons] at hK; obtain ⟨kb0, ⟨kc0_0, kc0_1, kc0_2, kc0_3, kc0_4, kc0_5, _⟩, _⟩ := hK
    have hs0 := kb0.size
    obtain ⟨b, hb7⟩ : ∃ b : Bool, (match R[k]? with | some y => decide (y.peer < h.peer) | none => false) = b := ⟨_, rfl⟩
    have HB7 := Lib.hid hb7
    clear hb7
    go_upto_region 4 with (fail)
    go_cut [29] from 16 to 28 (fun s29 w' => s29 = .bool b ∧ KeptC w1 [(⟨w.heap.size, 0, none⟩, .int .i64 h.peer), (⟨w.heap.size, 1, none⟩, .int .i64 1), (⟨w.heap.size, 2, none⟩, .int .i64 0), (⟨w.heap.size, 3, none⟩, .slice (some h.la) 1 h.lc), (⟨w.heap.size, 4, none⟩, .bool false), (⟨w.heap.size, 5, none⟩, .int .i64 0)] [] w')
    case first =>
      by_cases hlt : k < R.length
      · obtain ⟨ad, y, rfl, hab, hy, h6, hlb, hl4⟩ := HAT.out.get hlt
        obtain ⟨P, hP⟩ : ∃ P, ad.add (k * 6) = P := ⟨_, rfl⟩
        have hPb : P.block < w1.heap.size := by rw [← hP, block_of_add]; exact hab
        rw [hP] at h6
        have hPw : P.block < wr.heap.size := by omega
        obtain ⟨c0, _⟩ := h6.below hPb kb0
        have hb7 := HB7.out
        rw [hy] at hb7
        simp only [] at hb7
        clear hy h6 hl4 hlb
        by_cases hp : y.peer < h.peer
        · have : b = true := by rw [← hb7]; exact decide_eq_true hp
          subst this
          refine wp_region_quietC_lit (KeptC w1 [(P, .int .i64 y.peer), (⟨w.heap.size, 0, none⟩, .int .i64 h.peer), (⟨w.heap.size, 1, none⟩, .int .i64 1), (⟨w.heap.size, 2, none⟩, .int .i64 0), (⟨w.heap.size, 3, none⟩, .slice (some h.la) 1 h.lc), (⟨w.heap.size, 4, none⟩, .bool false), (⟨w.heap.size, 5, none⟩, .int .i64 0)] []) (by kernel_rfl) (by kernel_rfl) ?_ ?_
          · refine KeptC.drewn ?_
            repeat' (first | refine KeptC.cons ?_ ?_ | refine KeptC.consF ?_ ?_ ?_ | refine KeptC.mk0 ?_)
            all_goals (first | with_reducible assumption | (go_simp; done) | (simp; omega) | exact (by repeat (first | with_reducible refine Below.setCell ?_ (by first | (simp; done) | (simp; omega) | omega) _ | with_reducible refine Below.alloc ?_ (by first | (simp; done) | (simp; omega) | omega) _ | with_reducible refine Below.drew ?_ | with_reducible refine below_drewN ?_ _ | with_reducible exact Below.refl _ _ | with_reducible refine Below.trans ?_ (Below.mono kb0 (by first | (simp; done) | (simp; omega) | omega)))))
          repeat (first
            | go_big_quiet_skip
            | (go_big_quiet_want; (apply quietC_run); (· intro w' hw'; (have hk' := hw'; simp only [KeptC, List.forall_mem_cons] at hk'; go_split_ands); go_simp; first | done | rfl); (simp only [Act.put, List.setIfInBounds_toArray, List.set_cons_zero, List.set_cons_succ]; go_big_quiet_on))
            | (go_big_quiet_want; (apply quietC_call); (· intro w' hw'; go_simp; first | done | exact ⟨rfl, rfl⟩ | rfl); (· intro w' hw'; first | ((with_reducible refine (fail).mono ?_); rintro e w2 ⟨rfl, hb⟩; exact ⟨rfl, hw'.below hb⟩)); (simp only [Act.put, List.setIfInBounds_toArray, List.set_cons_zero, List.set_cons_succ]; go_big_quiet_on)))
          refine wpQuiet_nil ?_
          intro w3 hk3
          (have hk' := hk3; simp only [KeptC, List.forall_mem_cons] at hk'; go_split_ands); have hkB3 := hk3.1
          go_wp2_with (fail)
          go_meet
          exact ⟨rfl, (by (repeat' (first | refine KeptC.cons ?_ ?_ | refine KeptC.consF ?_ ?_ ?_ | refine KeptC.mk0 ?_)); all_goals (first | with_reducible assumption | (go_simp; done) | (simp; omega) | exact (by repeat (first | with_reducible refine Below.setCell ?_ (by first | (simp; done) | (simp; omega) | omega) _ | with_reducible refine Below.alloc ?_ (by first | (simp; done) | (simp; omega) | omega) _ | with_reducible refine Below.drew ?_ | with_reducible refine below_drewN ?_ _ | with_reducible exact Below.refl _ _ | with_reducible refine Below.trans ?_ (Below.mono hkB3 (by first | (simp; done) | (simp; omega) | omega))))))⟩
        · have : b = false := by rw [← hb7]; exact decide_eq_false hp
          subst this
          refine wp_region_quietC_lit (KeptC w1 [(P, .int .i64 y.peer), (⟨w.heap.size, 0, none⟩, .int .i64 h.peer), (⟨w.heap.size, 1, none⟩, .int .i64 1), (⟨w.heap.size, 2, none⟩, .int .i64 0), (⟨w.heap.size, 3, none⟩, .slice (some h.la) 1 h.lc), (⟨w.heap.size, 4, none⟩, .bool false), (⟨w.heap.size, 5, none⟩, .int .i64 0)] []) (by kernel_rfl) (by kernel_rfl) ?_ ?_
          · refine KeptC.drewn ?_
            repeat' (first | refine KeptC.cons ?_ ?_ | refine KeptC.consF ?_ ?_ ?_ | refine KeptC.mk0 ?_)
            all_goals (first | with_reducible assumption | (go_simp; done) | (simp; omega) | exact (by repeat (first | with_reducible refine Below.setCell ?_ (by first | (simp; done) | (simp; omega) | omega) _ | with_reducible refine Below.alloc ?_ (by first | (simp; done) | (simp; omega) | omega) _ | with_reducible refine Below.drew ?_ | with_reducible refine below_drewN ?_ _ | with_reducible exact Below.refl _ _ | with_reducible refine Below.trans ?_ (Below.mono kb0 (by first | (simp; done) | (simp; omega) | omega)))))
          repeat (first
            | go_big_quiet_skip
            | (go_big_quiet_want; (apply quietC_run); (· intro w' hw'; (have hk' := hw'; simp only [KeptC, List.forall_mem_cons] at hk'; go_split_ands); go_simp; first | done | rfl); (simp only [Act.put, List.setIfInBounds_toArray, List.set_cons_zero, List.set_cons_succ]; go_big_quiet_on))
            | (go_big_quiet_want; (apply quietC_call); (· intro w' hw'; go_simp; first | done | exact ⟨rfl, rfl⟩ | rfl); (· intro w' hw'; first | ((with_reducible refine (fail).mono ?_); rintro e w2 ⟨rfl, hb⟩; exact ⟨rfl, hw'.below hb⟩)); (simp only [Act.put, List.setIfInBounds_toArray, List.set_cons_zero, List.set_cons_succ]; go_big_quiet_on)))
          refine wpQuiet_nil ?_
          intro w3 hk3
          (have hk' := hk3; simp only [KeptC, List.forall_mem_cons] at hk'; go_split_ands); have hkB3 := hk3.1
          go_wp2_with (fail)
          go_meet
          exact ⟨rfl, (by (repeat' (first | refine KeptC.cons ?_ ?_ | refine KeptC.consF ?_ ?_ ?_ | refine KeptC.mk0 ?_)); all_goals (first | with_reducible assumption | (go_simp; done) | (simp; omega) | exact (by repeat (first | with_reducible refine Below.setCell ?_ (by first | (simp; done) | (simp; omega) | omega) _ | with_reducible refine Below.alloc ?_ (by first | (simp; done) | (simp; omega) | omega) _ | with_reducible refine Below.drew ?_ | with_reducible refine below_drewN ?_ _ | with_reducible exact Below.refl _ _ | with_reducible refine Below.trans ?_ (Below.mono hkB3 (by first | (simp; done) | (simp; omega) | omega))))))⟩
      · have hb7 := HB7.out
        rw [List.getElem?_eq_none (by omega)] at hb7
        subst hb7
        refine wp_region_quietC_lit (KeptC w1 [(⟨w.heap.size, 0, none⟩, .int .i64 h.peer), (⟨w.heap.size, 1, none⟩, .int .i64 1), (⟨w.heap.size, 2, none⟩, .int .i64 0), (⟨w.heap.size, 3, none⟩, .slice (some h.la) 1 h.lc), (⟨w.heap.size, 4, none⟩, .bool false), (⟨w.heap.size, 5, none⟩, .int .i64 0)] []) (by kernel_rfl) (by kernel_rfl) ?_ ?_
        · refine KeptC.drewn ?_
          repeat' (first | refine KeptC.cons ?_ ?_ | refine KeptC.consF ?_ ?_ ?_ | refine KeptC.mk0 ?_)
          all_goals (first | with_reducible assumption | (go_simp; done) | (simp; omega) | exact (by repeat (first | with_reducible refine Below.setCell ?_ (by first | (simp; done) | (simp; omega) | omega) _ | with_reducible refine Below.alloc ?_ (by first | (simp; done) | (simp; omega) | omega) _ | with_reducible refine Below.drew ?_ | with_reducible refine below_drewN ?_ _ | with_reducible exact Below.refl _ _ | with_reducible refine Below.trans ?_ (Below.mono kb0 (by first | (simp; done) | (simp; omega) | omega)))))
        repeat (first
          | go_big_quiet_skip
          | (go_big_quiet_want; (apply quietC_run); (· intro w' hw'; (have hk' := hw'; simp only [KeptC, List.forall_mem_cons] at hk'; go_split_ands); go_simp; first | done | rfl); (simp only [Act.put, List.setIfInBounds_toArray, List.set_cons_zero, List.set_cons_succ]; go_big_quiet_on))
          | (go_big_quiet_want; (apply quietC_call); (· intro w' hw'; go_simp; first | done | exact ⟨rfl, rfl⟩ | rfl); (· intro w' hw'; first | ((with_reducible refine (fail).mono ?_); rintro e w2 ⟨rfl, hb⟩; exact ⟨rfl, hw'.below hb⟩)); (simp only [Act.put, List.setIfInBounds_toArray, List.set_cons_zero, List.set_cons_succ]; go_big_quiet_on)))
        refine wpQuiet_nil ?_
        intro w3 hk3
        (have hk' := hk3; simp only [KeptC, List.forall_mem_cons] at hk'; go_split_ands); have hkB3 := hk3.1
        go_wp2_with (fail)
        go_meet
        exact ⟨rfl, hk3⟩
    case rest =>
    obtain ⟨rfl, hK⟩ := hcut
    clear kb0 hs0 kc0_0 kc0_1 kc0_2 kc0_3 kc0_4 kc0_5 HK
    have HK := Lib.hid hK
    cases b with
    | true =>
      have hex : ∃ y, R[k]? = some y ∧ y.peer < h.peer := by
        have := HB7.out
        cases hy : R[k]? with
        | none => rw [hy] at this; cases this
        | some y => rw [hy] at this; exact ⟨y, rfl, of_decide_eq_true this⟩
      obtain ⟨y, hy, hp⟩ := hex
      have hkl : k < R.length := (List.getElem?_eq_some_iff.1 hy).1
      have HT2 := Lib.hid (take_lt_next HT.out hy hp)
      clear hy hp
      go_wp2
      go_roundg (gk - 1)
      case measure => omega
      case rel => exact ⟨k + 1, by omega, by go_num, HT2, HK.out⟩
    | false =>
    have hno : ∀ y, R[k]? = some y → ¬ y.peer < h.peer := fun y hy => by
      have := HB7.out
      rw [hy] at this
      exact of_decide_eq_false this
    obtain ⟨he1, he2⟩ := put_end (h := hd h) HT.out hno
    have HE1 := Lib.hid he1; have HE2 := Lib.hid he2
    clear hno he1 he2
    simp only [KeptC, List.forall_mem_cons] at hK; obtain ⟨kb4, ⟨kc4_0, kc4_1, kc4_2, kc4_3, kc4_4, kc4_5, _⟩, _⟩ := hK
    have hs4 := kb4.size
    have hkR : k ≤ R.length := by omega
    have hR1 := (rowsE_take HAT.out.1 hkR).reads encH_len
    have hR3 := (HAT.out.1.reads encH_len).cut (k := k) (cap := c1) hkR hcap
    rw [flatE_drop] at hR3
    have hlk : (R.take k).length = k := by rw [List.length_take]; omega
    have HN1 : Hid (∀ v, v.ownBlock = none ∨ v.ownBlock = some wc.heap.size → LnsN wc v R) := Lib.hid (fun v hv x hx => by
      obtain ⟨h1, h2⟩ := HAT.out.2 x hx
      refine ⟨by omega, h2.below h1 kb4, fun e => ?_⟩
      rcases hv with hv | hv
      · rw [hv] at e; cases e
      · rw [hv] at e; have := Option.some.inj e; omega)
    have HL5 : Hid (∀ W, Below w.heap.size w W → line4 W h.la h.wr h.fl) := Lib.hid (fun W hb' => HL4.out.below hb hb')
    have hwc : w.heap.size < wc.heap.size := by omega
    have kw4 : Below w.heap.size w wc := kb1.trans (kb4.mono (by omega))
    cases A1 with
    | none =>
      have hR0 : R.length = 0 := by
        rcases Nat.eq_zero_or_pos R.length with h0 | h0
        · exact h0
        · obtain ⟨ad, e, _⟩ := HAT.out.1.2 h0; cases e
      obtain rfl : k = 0 := by omega
      have hR3' : Reads w1 w1.heap.size 6 none (R.length - 0) (flatE encH (R.drop 0)) := by simpa using hR3
      have hn3 : R.length - 0 = 0 := by omega
      rw [hn3] at hR3'
      clear hR3
      go_wp2_with (at_builtin; refine wpList_append_any _ rfl (.tmp 32) (.tmp 35) _ rfl w1.heap.size 33 i0 _ 6 64 Try.underlying36 hi0 hj0 hj1 hj2 rfl (by omega) (.slice none 0 0) 0 [] rfl ⟨by simp, .inl ⟨rfl, rfl⟩⟩ w1.heap.size (none) 0 c1 _ rfl (hR1.below kb4) (flatE_one encH_one _) (by simp only [maxLen]; omega) (by omega) (by omega) ?_; intro v1 w2 hown2 hg2 hat2; obtain ⟨A2, c2, hv1⟩ := row_slice' hown2; subst hv1; have hbg := (Below.refl _ _).grown hg2 (Nat.le_refl _) (by simp [Value.ownBlock]); obtain ⟨hcc2, hff2⟩ := bcell hbg; have hs2 := hbg.size; have HN2 := Lib.hid ((HN1.out (.slice A2 (0 + 0) c2) (by simpa [Value.ownBlock] using hat2)).below hbg); have HW2 := Lib.hid hown2; have kw2 : Below w.heap.size w w2 := (by repeat (first | with_reducible refine Below.setCell ?_ (by first | (simp; done) | (simp; omega) | omega) _ | with_reducible refine Below.alloc ?_ (by first | (simp; done) | (simp; omega) | omega) _ | with_reducible refine Below.drew ?_ | with_reducible refine below_drewN ?_ _ | with_reducible exact Below.refl _ _ | with_reducible refine Below.trans ?_ (Below.mono hbg (by first | (simp; done) | (simp; omega) | omega)) | with_reducible refine Below.trans ?_ (Below.mono kw4 (by first | (simp; done) | (simp; omega) | omega)))); have kr2 : Below w1.heap.size w1 w2 := (by repeat (first | with_reducible refine Below.setCell ?_ (by first | (simp; done) | (simp; omega) | omega) _ | with_reducible refine Below.alloc ?_ (by first | (simp; done) | (simp; omega) | omega) _ | with_reducible refine Below.drew ?_ | with_reducible refine below_drewN ?_ _ | with_reducible exact Below.refl _ _ | with_reducible refine Below.trans ?_ (Below.mono hbg (by first | (simp; done) | (simp; omega) | omega)) | with_reducible refine Below.trans ?_ (Below.mono kb4 (by first | (simp; done) | (simp; omega) | omega)))); have hw2 : w.heap.size < w2.heap.size := (by omega); clear hown2 hg2 hat2 hbg)
      refine (one_any h _ (by have := kw2.size; omega) (HL5.out _ kw2)).mono ?_; rintro e w3 ⟨la, lc, rfl, hla, hl3, hln, hb3⟩
      have hs3 := hb3.size
      have hs2' := kr2.size
      have kw3 : Below w.heap.size w w3 := (by repeat (first | with_reducible refine Below.setCell ?_ (by first | (simp; done) | (simp; omega) | omega) _ | with_reducible refine Below.alloc ?_ (by first | (simp; done) | (simp; omega) | omega) _ | with_reducible refine Below.drew ?_ | with_reducible refine below_drewN ?_ _ | with_reducible exact Below.refl _ _ | with_reducible refine Below.trans ?_ (Below.mono hb3 (by first | (simp; done) | (simp; omega) | omega)) | with_reducible refine Below.trans ?_ (Below.mono kw2 (by first | (simp; done) | (simp; omega) | omega))))
      have kr3 : Below w1.heap.size w1 w3 := (by repeat (first | with_reducible refine Below.setCell ?_ (by first | (simp; done) | (simp; omega) | omega) _ | with_reducible refine Below.alloc ?_ (by first | (simp; done) | (simp; omega) | omega) _ | with_reducible refine Below.drew ?_ | with_reducible refine below_drewN ?_ _ | with_reducible exact Below.refl _ _ | with_reducible refine Below.trans ?_ (Below.mono hb3 (by first | (simp; done) | (simp; omega) | omega)) | with_reducible refine Below.trans ?_ (Below.mono kr2 (by first | (simp; done) | (simp; omega) | omega))))
      have HN3 : Hid (LnsN w3 (.slice A2 (0 + 0) c2) (R ++ [⟨h.peer, h.wr, h.fl, la, lc⟩])) := Lib.hid ((HN2.out.below hb3).snoc hla hl3 (fun e => by have h9 := own_lt HW2.out _ e; (try simp at hln); (try simp at h9); omega))
      have HR3 := Lib.hid hR3'
      clear hl3
      have hs13 := kr3.size
      go_wp2_with (first
        | (at_builtin; refine wpList_app1H rfl _ _ rfl w1.heap.size (R.take 0) A2 c2 (by rw [hlk]; first | rfl | (simp; done) | simp [go_sem]) (by rw [hlk]; exact row_low (W := w2) (by simpa using HW2.out) (by repeat (first | with_reducible refine Below.setCell ?_ (by first | (simp; done) | (simp; omega) | omega) _ | with_reducible refine Below.alloc ?_ (by first | (simp; done) | (simp; omega) | omega) _ | with_reducible refine Below.drew ?_ | with_reducible refine below_drewN ?_ _ | with_reducible exact Below.refl _ _ | with_reducible refine Below.trans ?_ (Below.mono hb3 (by first | (simp; done) | (simp; omega) | omega)))) (Nat.le_refl _)) ⟨w3.heap.size, 0, none⟩ 1 rfl ⟨h.peer, h.wr, h.fl, la, lc⟩ (by exact hcells_new _ _ (by first | rfl | simp) ⟨h.peer, h.wr, h.fl, la, lc⟩) (by omega) (by first | (simp; done) | (simp; omega) | omega) ?_; intro O4 A4 cp4 w4 hO4 hown4 hb4 hn4; have hL4 : O4.length = 0 + 1 := (by rw [hO4, List.length_append, hlk]; rfl); have HL4' := Lib.hid hL4; have hL4' : O4.length ≤ R.length + 1 := (by omega); have HO4 := Lib.hid hO4; have HW4 := Lib.hid hown4; have HNN4 := Lib.hid hn4; have kr4 : Below w1.heap.size w1 w4 := (by repeat (first | with_reducible refine Below.setCell ?_ (by first | (simp; done) | (simp; omega) | omega) _ | with_reducible refine Below.alloc ?_ (by first | (simp; done) | (simp; omega) | omega) _ | with_reducible refine Below.drew ?_ | with_reducible refine below_drewN ?_ _ | with_reducible exact Below.refl _ _ | with_reducible refine Below.trans ?_ (Below.mono hb4 (by first | (simp; done) | (simp; omega) | omega)) | with_reducible refine Below.trans ?_ (Below.mono kr3 (by first | (simp; done) | (simp; omega) | omega)))); have hs14 := kr4.size; clear hO4 hown4 hn4 hL4 hb4)
        | (at_builtin; refine wpList_append_any _ rfl (.tmp 42) (.tmp 45) _ rfl w1.heap.size 33 i0 _ 6 64 Try.underlying36 hi0 hj0 hj1 hj2 rfl (by omega) (.slice A4 O4.length cp4) O4.length (flatE encH O4) rfl HW4.out w1.heap.size (none) 0 _ _ rfl (HR3.out.below kr4) (flatE_one encH_one _) (by simp only [maxLen]; omega) (by omega) (by omega) ?_; intro v5 w5 hown5 hg5 hat5))
      have HN4 : LnsN w4 (.slice A4 O4.length cp4) (R ++ [⟨h.peer, h.wr, h.fl, la, lc⟩]) := HNN4.out _ _ (by first | (rw [hlk]; done) | (rw [hlk]; simp)) (HN3.out.below ((Below.refl _ _).alloc (Nat.le_refl _) _))
      have hb5 := row_grown HW4.out hg5 hs14
      have kw5 : Below w.heap.size w w5 := kb1.trans ((kr4.trans hb5).mono (by omega))
      go_ret
      refine ⟨_, O4 ++ R.drop 0, rfl, ⟨OwnE.less (base := w1.heap.size) (by unfold OwnE; rw [List.length_append, List.length_drop, flatE_app]; (try rw [hn3]); exact hown5) (by omega), (HN4.grown hg5 hat5).at_.sub (fun x hx => ?_), fun x hx => ?_⟩, ?_, ?_, kw5⟩
      · rw [HO4.out] at hx
        simp only [List.mem_append, List.mem_singleton] at hx ⊢
        rcases hx with (hx | hx) | hx
        · exact .inl (List.mem_of_mem_take hx)
        · exact .inr hx
        · exact .inl (List.mem_of_mem_drop hx)
      · rw [HO4.out] at hx
        simp only [List.mem_append, List.mem_singleton] at hx
        rcases hx with (hx | hx) | hx
        · exact HNR.out x (List.mem_of_mem_take hx)
        · subst hx
          have h8 := hln
          (try simp at h8)
          show w.heap.size ≤ la.block
          omega
        · exact HNR.out x (List.mem_of_mem_drop hx)
      · have e1 := HE1.out
        have e2 := HE2.out
        have e3 := HRR.out
        unfold putT
        rw [show (hd h).1 = h.peer from rfl] at *
        rw [← e3, e1, e2, HO4.out]
        simp [hd]
      · rw [List.length_append, List.length_drop, HL4'.out]; omega
    | some ad =>
    by_cases hck : c1 = k
    · rw [if_pos hck] at hR3
      subst c1
      have hn3 : R.length - k = 0 := by omega
      rw [hn3] at hR3
      go_wp2_with (at_builtin; refine wpList_append_any _ rfl (.tmp 32) (.tmp 35) _ rfl w1.heap.size 33 i0 _ 6 64 Try.underlying36 hi0 hj0 hj1 hj2 rfl (by omega) (.slice none 0 0) 0 [] rfl ⟨by simp, .inl ⟨rfl, rfl⟩⟩ w1.heap.size (some ad) k k _ rfl (hR1.below kb4) (flatE_one encH_one _) (by simp only [maxLen]; omega) (by omega) (by omega) ?_; intro v1 w2 hown2 hg2 hat2; obtain ⟨A2, c2, hv1⟩ := row_slice' hown2; subst hv1; have hbg := (Below.refl _ _).grown hg2 (Nat.le_refl _) (by simp [Value.ownBlock]); obtain ⟨hcc2, hff2⟩ := bcell hbg; have hs2 := hbg.size; have HN2 := Lib.hid ((HN1.out (.slice A2 (0 + k) c2) (by simpa [Value.ownBlock] using hat2)).below hbg); have HW2 := Lib.hid hown2; have kw2 : Below w.heap.size w w2 := (by repeat (first | with_reducible refine Below.setCell ?_ (by first | (simp; done) | (simp; omega) | omega) _ | with_reducible refine Below.alloc ?_ (by first | (simp; done) | (simp; omega) | omega) _ | with_reducible refine Below.drew ?_ | with_reducible refine below_drewN ?_ _ | with_reducible exact Below.refl _ _ | with_reducible refine Below.trans ?_ (Below.mono hbg (by first | (simp; done) | (simp; omega) | omega)) | with_reducible refine Below.trans ?_ (Below.mono kw4 (by first | (simp; done) | (simp; omega) | omega)))); have kr2 : Below w1.heap.size w1 w2 := (by repeat (first | with_reducible refine Below.setCell ?_ (by first | (simp; done) | (simp; omega) | omega) _ | with_reducible refine Below.alloc ?_ (by first | (simp; done) | (simp; omega) | omega) _ | with_reducible refine Below.drew ?_ | with_reducible refine below_drewN ?_ _ | with_reducible exact Below.refl _ _ | with_reducible refine Below.trans ?_ (Below.mono hbg (by first | (simp; done) | (simp; omega) | omega)) | with_reducible refine Below.trans ?_ (Below.mono kb4 (by first | (simp; done) | (simp; omega) | omega)))); have hw2 : w.heap.size < w2.heap.size := (by omega); clear hown2 hg2 hat2 hbg)
      refine (one_any h _ (by have := kw2.size; omega) (HL5.out _ kw2)).mono ?_; rintro e w3 ⟨la, lc, rfl, hla, hl3, hln, hb3⟩
      have hs3 := hb3.size
      have hs2' := kr2.size
      have kw3 : Below w.heap.size w w3 := (by repeat (first | with_reducible refine Below.setCell ?_ (by first | (simp; done) | (simp; omega) | omega) _ | with_reducible refine Below.alloc ?_ (by first | (simp; done) | (simp; omega) | omega) _ | with_reducible refine Below.drew ?_ | with_reducible refine below_drewN ?_ _ | with_reducible exact Below.refl _ _ | with_reducible refine Below.trans ?_ (Below.mono hb3 (by first | (simp; done) | (simp; omega) | omega)) | with_reducible refine Below.trans ?_ (Below.mono kw2 (by first | (simp; done) | (simp; omega) | omega))))
      have kr3 : Below w1.heap.size w1 w3 := (by repeat (first | with_reducible refine Below.setCell ?_ (by first | (simp; done) | (simp; omega) | omega) _ | with_reducible refine Below.alloc ?_ (by first | (simp; done) | (simp; omega) | omega) _ | with_reducible refine Below.drew ?_ | with_reducible refine below_drewN ?_ _ | with_reducible exact Below.refl _ _ | with_reducible refine Below.trans ?_ (Below.mono hb3 (by first | (simp; done) | (simp; omega) | omega)) | with_reducible refine Below.trans ?_ (Below.mono kr2 (by first | (simp; done) | (simp; omega) | omega))))
      have HN3 : Hid (LnsN w3 (.slice A2 (0 + k) c2) (R ++ [⟨h.peer, h.wr, h.fl, la, lc⟩])) := Lib.hid ((HN2.out.below hb3).snoc hla hl3 (fun e => by have h9 := own_lt HW2.out _ e; (try simp at hln); (try simp at h9); omega))
      have HR3 := Lib.hid hR3
      clear hl3
      have hs13 := kr3.size
      go_wp2_with (first
        | (at_builtin; refine wpList_app1H rfl _ _ rfl w1.heap.size (R.take k) A2 c2 (by rw [hlk]; first | rfl | (simp; done) | simp [go_sem]) (by rw [hlk]; exact row_low (W := w2) (by simpa using HW2.out) (by repeat (first | with_reducible refine Below.setCell ?_ (by first | (simp; done) | (simp; omega) | omega) _ | with_reducible refine Below.alloc ?_ (by first | (simp; done) | (simp; omega) | omega) _ | with_reducible refine Below.drew ?_ | with_reducible refine below_drewN ?_ _ | with_reducible exact Below.refl _ _ | with_reducible refine Below.trans ?_ (Below.mono hb3 (by first | (simp; done) | (simp; omega) | omega)))) (Nat.le_refl _)) ⟨w3.heap.size, 0, none⟩ 1 rfl ⟨h.peer, h.wr, h.fl, la, lc⟩ (by exact hcells_new _ _ (by first | rfl | simp) ⟨h.peer, h.wr, h.fl, la, lc⟩) (by omega) (by first | (simp; done) | (simp; omega) | omega) ?_; intro O4 A4 cp4 w4 hO4 hown4 hb4 hn4; have hL4 : O4.length = k + 1 := (by rw [hO4, List.length_append, hlk]; rfl); have HL4' := Lib.hid hL4; have hL4' : O4.length ≤ R.length + 1 := (by omega); have HO4 := Lib.hid hO4; have HW4 := Lib.hid hown4; have HNN4 := Lib.hid hn4; have kr4 : Below w1.heap.size w1 w4 := (by repeat (first | with_reducible refine Below.setCell ?_ (by first | (simp; done) | (simp; omega) | omega) _ | with_reducible refine Below.alloc ?_ (by first | (simp; done) | (simp; omega) | omega) _ | with_reducible refine Below.drew ?_ | with_reducible refine below_drewN ?_ _ | with_reducible exact Below.refl _ _ | with_reducible refine Below.trans ?_ (Below.mono hb4 (by first | (simp; done) | (simp; omega) | omega)) | with_reducible refine Below.trans ?_ (Below.mono kr3 (by first | (simp; done) | (simp; omega) | omega)))); have hs14 := kr4.size; clear hO4 hown4 hn4 hL4 hb4)
        | (at_builtin; refine wpList_append_any _ rfl (.tmp 42) (.tmp 45) _ rfl w1.heap.size 33 i0 _ 6 64 Try.underlying36 hi0 hj0 hj1 hj2 rfl (by omega) (.slice A4 O4.length cp4) O4.length (flatE encH O4) rfl HW4.out w1.heap.size (some ad) 0 _ _ rfl (HR3.out.below kr4) (flatE_one encH_one _) (by simp only [maxLen]; omega) (by omega) (by omega) ?_; intro v5 w5 hown5 hg5 hat5))
      have HN4 : LnsN w4 (.slice A4 O4.length cp4) (R ++ [⟨h.peer, h.wr, h.fl, la, lc⟩]) := HNN4.out _ _ (by first | (rw [hlk]; done) | (rw [hlk]; simp)) (HN3.out.below ((Below.refl _ _).alloc (Nat.le_refl _) _))
      have hb5 := row_grown HW4.out hg5 hs14
      have kw5 : Below w.heap.size w w5 := kb1.trans ((kr4.trans hb5).mono (by omega))
      go_ret
      refine ⟨_, O4 ++ R.drop k, rfl, ⟨OwnE.less (base := w1.heap.size) (by unfold OwnE; rw [List.length_append, List.length_drop, flatE_app]; (try rw [hn3]); exact hown5) (by omega), (HN4.grown hg5 hat5).at_.sub (fun x hx => ?_), fun x hx => ?_⟩, ?_, ?_, kw5⟩
      · rw [HO4.out] at hx
        simp only [List.mem_append, List.mem_singleton] at hx ⊢
        rcases hx with (hx | hx) | hx
        · exact .inl (List.mem_of_mem_take hx)
        · exact .inr hx
        · exact .inl (List.mem_of_mem_drop hx)
      · rw [HO4.out] at hx
        simp only [List.mem_append, List.mem_singleton] at hx
        rcases hx with (hx | hx) | hx
        · exact HNR.out x (List.mem_of_mem_take hx)
        · subst hx
          have h8 := hln
          (try simp at h8)
          show w.heap.size ≤ la.block
          omega
        · exact HNR.out x (List.mem_of_mem_drop hx)
      · have e1 := HE1.out
        have e2 := HE2.out
        have e3 := HRR.out
        unfold putT
        rw [show (hd h).1 = h.peer from rfl] at *
        rw [← e3, e1, e2, HO4.out]
        simp [hd]
      · rw [List.length_append, List.length_drop, HL4'.out]; omega
    · rw [if_neg hck] at hR3
      simp only [Option.map_some] at hR3
      go_wp2_with (at_builtin; refine wpList_append_any _ rfl (.tmp 32) (.tmp 35) _ rfl w1.heap.size 33 i0 _ 6 64 Try.underlying36 hi0 hj0 hj1 hj2 rfl (by omega) (.slice none 0 0) 0 [] rfl ⟨by simp, .inl ⟨rfl, rfl⟩⟩ w1.heap.size (some ad) k c1 _ rfl (hR1.below kb4) (flatE_one encH_one _) (by simp only [maxLen]; omega) (by omega) (by omega) ?_; intro v1 w2 hown2 hg2 hat2; obtain ⟨A2, c2, hv1⟩ := row_slice' hown2; subst hv1; have hbg := (Below.refl _ _).grown hg2 (Nat.le_refl _) (by simp [Value.ownBlock]); obtain ⟨hcc2, hff2⟩ := bcell hbg; have hs2 := hbg.size; have HN2 := Lib.hid ((HN1.out (.slice A2 (0 + k) c2) (by simpa [Value.ownBlock] using hat2)).below hbg); have HW2 := Lib.hid hown2; have kw2 : Below w.heap.size w w2 := (by repeat (first | with_reducible refine Below.setCell ?_ (by first | (simp; done) | (simp; omega) | omega) _ | with_reducible refine Below.alloc ?_ (by first | (simp; done) | (simp; omega) | omega) _ | with_reducible refine Below.drew ?_ | with_reducible refine below_drewN ?_ _ | with_reducible exact Below.refl _ _ | with_reducible refine Below.trans ?_ (Below.mono hbg (by first | (simp; done) | (simp; omega) | omega)) | with_reducible refine Below.trans ?_ (Below.mono kw4 (by first | (simp; done) | (simp; omega) | omega)))); have kr2 : Below w1.heap.size w1 w2 := (by repeat (first | with_reducible refine Below.setCell ?_ (by first | (simp; done) | (simp; omega) | omega) _ | with_reducible refine Below.alloc ?_ (by first | (simp; done) | (simp; omega) | omega) _ | with_reducible refine Below.drew ?_ | with_reducible refine below_drewN ?_ _ | with_reducible exact Below.refl _ _ | with_reducible refine Below.trans ?_ (Below.mono hbg (by first | (simp; done) | (simp; omega) | omega)) | with_reducible refine Below.trans ?_ (Below.mono kb4 (by first | (simp; done) | (simp; omega) | omega)))); have hw2 : w.heap.size < w2.heap.size := (by omega); clear hown2 hg2 hat2 hbg)
      refine (one_any h _ (by have := kw2.size; omega) (HL5.out _ kw2)).mono ?_; rintro e w3 ⟨la, lc, rfl, hla, hl3, hln, hb3⟩
      have hs3 := hb3.size
      have hs2' := kr2.size
      have kw3 : Below w.heap.size w w3 := (by repeat (first | with_reducible refine Below.setCell ?_ (by first | (simp; done) | (simp; omega) | omega) _ | with_reducible refine Below.alloc ?_ (by first | (simp; done) | (simp; omega) | omega) _ | with_reducible refine Below.drew ?_ | with_reducible refine below_drewN ?_ _ | with_reducible exact Below.refl _ _ | with_reducible refine Below.trans ?_ (Below.mono hb3 (by first | (simp; done) | (simp; omega) | omega)) | with_reducible refine Below.trans ?_ (Below.mono kw2 (by first | (simp; done) | (simp; omega) | omega))))
      have kr3 : Below w1.heap.size w1 w3 := (by repeat (first | with_reducible refine Below.setCell ?_ (by first | (simp; done) | (simp; omega) | omega) _ | with_reducible refine Below.alloc ?_ (by first | (simp; done) | (simp; omega) | omega) _ | with_reducible refine Below.drew ?_ | with_reducible refine below_drewN ?_ _ | with_reducible exact Below.refl _ _ | with_reducible refine Below.trans ?_ (Below.mono hb3 (by first | (simp; done) | (simp; omega) | omega)) | with_reducible refine Below.trans ?_ (Below.mono kr2 (by first | (simp; done) | (simp; omega) | omega))))
      have HN3 : Hid (LnsN w3 (.slice A2 (0 + k) c2) (R ++ [⟨h.peer, h.wr, h.fl, la, lc⟩])) := Lib.hid ((HN2.out.below hb3).snoc hla hl3 (fun e => by have h9 := own_lt HW2.out _ e; (try simp at hln); (try simp at h9); omega))
      have HR3 := Lib.hid hR3
      clear hl3
      have hs13 := kr3.size
      go_wp2_with (first
        | (at_builtin; refine wpList_app1H rfl _ _ rfl w1.heap.size (R.take k) A2 c2 (by rw [hlk]; first | rfl | (simp; done) | simp [go_sem]) (by rw [hlk]; exact row_low (W := w2) (by simpa using HW2.out) (by repeat (first | with_reducible refine Below.setCell ?_ (by first | (simp; done) | (simp; omega) | omega) _ | with_reducible refine Below.alloc ?_ (by first | (simp; done) | (simp; omega) | omega) _ | with_reducible refine Below.drew ?_ | with_reducible refine below_drewN ?_ _ | with_reducible exact Below.refl _ _ | with_reducible refine Below.trans ?_ (Below.mono hb3 (by first | (simp; done) | (simp; omega) | omega)))) (Nat.le_refl _)) ⟨w3.heap.size, 0, none⟩ 1 rfl ⟨h.peer, h.wr, h.fl, la, lc⟩ (by exact hcells_new _ _ (by first | rfl | simp) ⟨h.peer, h.wr, h.fl, la, lc⟩) (by omega) (by first | (simp; done) | (simp; omega) | omega) ?_; intro O4 A4 cp4 w4 hO4 hown4 hb4 hn4; have hL4 : O4.length = k + 1 := (by rw [hO4, List.length_append, hlk]; rfl); have HL4' := Lib.hid hL4; have hL4' : O4.length ≤ R.length + 1 := (by omega); have HO4 := Lib.hid hO4; have HW4 := Lib.hid hown4; have HNN4 := Lib.hid hn4; have kr4 : Below w1.heap.size w1 w4 := (by repeat (first | with_reducible refine Below.setCell ?_ (by first | (simp; done) | (simp; omega) | omega) _ | with_reducible refine Below.alloc ?_ (by first | (simp; done) | (simp; omega) | omega) _ | with_reducible refine Below.drew ?_ | with_reducible refine below_drewN ?_ _ | with_reducible exact Below.refl _ _ | with_reducible refine Below.trans ?_ (Below.mono hb4 (by first | (simp; done) | (simp; omega) | omega)) | with_reducible refine Below.trans ?_ (Below.mono kr3 (by first | (simp; done) | (simp; omega) | omega)))); have hs14 := kr4.size; clear hO4 hown4 hn4 hL4 hb4)
        | (at_builtin; refine wpList_append_any _ rfl (.tmp 42) (.tmp 45) _ rfl w1.heap.size 33 i0 _ 6 64 Try.underlying36 hi0 hj0 hj1 hj2 rfl (by omega) (.slice A4 O4.length cp4) O4.length (flatE encH O4) rfl HW4.out w1.heap.size (some (ad.add (k * 6))) (R.length - k) _ _ rfl (HR3.out.below kr4) (flatE_one encH_one _) (by simp only [maxLen]; omega) (by omega) (by omega) ?_; intro v5 w5 hown5 hg5 hat5))
      have HN4 : LnsN w4 (.slice A4 O4.length cp4) (R ++ [⟨h.peer, h.wr, h.fl, la, lc⟩]) := HNN4.out _ _ (by first | (rw [hlk]; done) | (rw [hlk]; simp)) (HN3.out.below ((Below.refl _ _).alloc (Nat.le_refl _) _))
      have hb5 := row_grown HW4.out hg5 hs14
      have kw5 : Below w.heap.size w w5 := kb1.trans ((kr4.trans hb5).mono (by omega))
      go_ret
      refine ⟨_, O4 ++ R.drop k, rfl, ⟨OwnE.less (base := w1.heap.size) (by unfold OwnE; rw [List.length_append, List.length_drop, flatE_app]; (try rw [hn3]); exact hown5) (by omega), (HN4.grown hg5 hat5).at_.sub (fun x hx => ?_), fun x hx => ?_⟩, ?_, ?_, kw5⟩
      · rw [HO4.out] at hx
        simp only [List.mem_append, List.mem_singleton] at hx ⊢
        rcases hx with (hx | hx) | hx
        · exact .inl (List.mem_of_mem_take hx)
        · exact .inr hx
        · exact .inl (List.mem_of_mem_drop hx)
      · rw [HO4.out] at hx
        simp only [List.mem_append, List.mem_singleton] at hx
        rcases hx with (hx | hx) | hx
        · exact HNR.out x (List.mem_of_mem_take hx)
        · subst hx
          have h8 := hln
          (try simp at h8)
          show w.heap.size ≤ la.block
          omega
        · exact HNR.out x (List.mem_of_mem_drop hx)
      · have e1 := HE1.out
        have e2 := HE2.out
        have e3 := HRR.out
        unfold putT
        rw [show (hd h).1 = h.peer from rfl] at *
        rw [← e3, e1, e2, HO4.out]
        simp [hd]
      · rw [List.length_append, List.length_drop, HL4'.out]; omega
end Go.Proofs.Ytaakbpnaifpcbaa
