/- Chapter 22, parts on the way: VwP VwO QuietB -/
import Derived.Test.YtkfodkbgmpbmfaaGreatB01
import Derived.Test.YtkfodkbgmpbmfaaGreatB05
import Derived.Test.YtkfodkbgmpbmfaaGreatB06
import Derived.Test.YtkfodkbgmpbmfaaGreatB08
import Derived.Test.YtkfodkbgmpbmfaaGreatB09
import Derived.Test.YtkfodkbgmpbmfaaGreatB10
import Derived.Test.YtkfodkbgmpbmfaaGreatB12
import Derived.Test.YtkfodkbgmpbmfaaGreatB13
set_option linter.unusedVariables false
set_option linter.unusedSimpArgs false
namespace Go.Proofs.YtkfodkbgmpbmfaaGreat
open Go.RowKit
set_option linter.unusedVariables false
structure Wd where
 na : Option Addr
 nn : Nat
 nc : Nat
 ua : Option Addr
 un : Nat
 uc : Nat
 da : Option Addr
 dn : Nat
 dc : Nat
 nx : Int
 la : Option Addr
 ll : Nat
 lc : Nat
 sa : Option Addr
 sl : Nat
 sc : Nat
 lost : Int
 nds : List Nd
 ups : List Bool
@[reducible] def WdV (x : Wd) : Value := .agg #[.slice x.na x.nn x.nc, .slice x.ua x.un x.uc, .slice x.da x.dn x.dc, .int .i64 x.nx, .slice x.la x.ll x.lc, .slice x.sa x.sl x.sc, .int .i64 x.lost]
def WdAt (w : World) (B : Nat) (x : Wd) : Prop := NdsAt w B x.na x.nn x.nds ∧ RowsE encB 1 w B x.ua x.un x.ups
theorem WdAt.below {w w' : World} {B : Nat} {x : Wd} (h : WdAt w B x) (hb : Below B w w') : WdAt w' B x := ⟨h.1.below hb, h.2.below hb⟩
theorem WdAt.more {w : World} {B B' : Nat} {x : Wd} (h : WdAt w B x) (hB : B ≤ B') : WdAt w B' x := ⟨h.1.more hB, h.2.more hB⟩
def LnsOk (i p : Int) (ls : List Ln) : Prop := ls.length ≤ 8 ∧ ls.Pairwise (fun a b => ltN a.name b.name = true) ∧ ∀ l ∈ ls, Rg.fitB l.ver l.wr l.flow i p = true
def HfOk (i : Int) (h : Hf) : Prop := (0 ≤ h.peer ∧ h.peer < 16) ∧ LnsOk i h.peer h.lines
def HfsOk (i : Int) (hs : List Hf) : Prop := hs.Pairwise (fun a b => a.peer < b.peer) ∧ ∀ h ∈ hs, HfOk i h
structure FitNd (i : Nat) (x : Nd) : Prop where
 id : x.id = i
 hs : HfsOk i x.halves
 sn : SnsOk x.seen
 ch : stsB i x.chans = true
structure FitW (x : Wd) : Prop where
 n0 : 1 ≤ x.nds.length
 n1 : x.nds.length ≤ 16
 un : x.ups.length = x.nds.length
 nd : ∀ (i : Nat) y, x.nds[i]? = some y → FitNd i y
 dn : ∀ (i : Nat) y, x.nds[i]? = some y → x.ups[i]? = some false → y.chans = [] ∧ y.halves = [] ∧ y.seen = []
theorem rise_len {α : Type} (f : α → Int) : ∀ (l : List α) (b : Int), b ≤ 16 → l.Pairwise (fun x y => f x < f y) → (∀ x ∈ l, b ≤ f x ∧ f x < 16) → (l.length : Int) ≤ 16 - b
 | [], b, hb, _, _ => by simp; omega
 | x :: xs, b, hb, hp, hm => by
  have h0 := hm x List.mem_cons_self
  obtain ⟨h1, h2⟩ := List.pairwise_cons.1 hp
  have := rise_len f xs (f x + 1) (by omega) h2 (fun y hy => ⟨by have := h1 y hy; omega, (hm y (List.mem_cons_of_mem _ hy)).2⟩)
  simp only [List.length_cons]
  omega
theorem HfsOk.len {i : Int} {hs : List Hf} (h : HfsOk i hs) : hs.length ≤ 16 := by
 have := rise_len Hf.peer hs 0 (by omega) h.1 (fun x hx => (h.2 x hx).1)
 omega
theorem SnsOk.len {l : List Sn} (h : SnsOk l) : l.length ≤ 16 := by
 have := rise_len Sn.peer l 0 (by omega) h.1 (fun x hx => h.2 x hx)
 omega
def upN (x : Wd) (a : Int) : Option Nd := if 0 ≤ a ∧ a < x.nds.length ∧ x.ups[a.toNat]? = some true then x.nds[a.toNat]? else none
def namesB (x y : Nd) : Bool := match getH x.halves y.id with
 | none => false
 | some h => decide (h.boot = y.boot) && decide (h.life = (getSn y.seen x.id).mine)
def heldB (W : Wd) (a b : Int) : Bool := match upN W a, upN W b with
 | some x, some y => !decide (a = b) && (namesB x y && namesB y x)
 | _, _ => false
def instS (W : Wd) (a : Int) (nm : ByteArray) : Option St := (upN W a).bind fun x => findS x.chans nm
def flowsK (k : Int) : Bool := decide (1 ≤ k) && decide (k ≤ 3)
def sameC (c d : St) : Bool := decide (c.ch.ep = d.ch.ep) && (decide (c.ch.who = d.ch.who) && (flowsK c.ch.kd && flowsK d.ch.kd))
def bothB (W : Wd) (a b : Int) (nm : ByteArray) : Bool := match instS W a nm, instS W b nm with
 | some c, some d => sameC c d
 | _, _ => false
def regN (x : Nd) (p : Int) (nm : ByteArray) : Ln := getLn ((getH x.halves p).getD Hf0).lines nm
def regEq (a b : Ln) : Bool := decide (a.ver = b.ver) && (decide (a.wr = b.wr) && decide (a.flow = b.flow))
def agreedB (W : Wd) (a b : Int) (nm : ByteArray) : Bool := match upN W a, upN W b with
 | some x, some y => heldB W a b && (bothB W a b nm && regEq (regN x y.id nm) (regN y x.id nm))
 | _, _ => false
def outsN (id : Int) (hs : List Hf) (nm : ByteArray) : List (Int × Int) := hs.flatMap fun h => (h.lines.filter (isL nm)).map fun l => (h.peer, Rg.outR l.ver l.wr l.flow id h.peer)
def sumO (l : List (Int × Int)) : Int := (l.map Prod.snd).sum
def tellN (x : Int) : Int × Int := if Rg.flowsB x = true then (x, 0) else (0, 10)
def estN (x : Nd) (s : St) (nm : ByteArray) : Int × Int := tellN (s.inp - sumO (outsN x.id x.halves nm))
structure Seat where
 node : Int
 inp : Int
 est : Int
 err : Int
def seatO (W : Wd) (nm : ByteArray) (a : Nat) : Option Seat := match upN W a with
 | none => none
 | some x => match findS x.chans nm with
  | none => none
  | some s => if flowsK s.ch.kd = true then some ⟨a, s.inp, (estN x s nm).1, (estN x s nm).2⟩ else none
def seatsB (W : Wd) (nm : ByteArray) : List Seat := (List.range W.nds.length).filterMap (seatO W nm)
def firstUp (W : Wd) : Option Nat := (List.range W.nds.length).find? fun a => (upN W a).isSome
def everyB (W : Wd) (nm : ByteArray) : Bool := match firstUp W with
 | none => false
 | some f => (List.range W.nds.length).all fun a => !(upN W a).isSome || bothB W f a nm
def closeB (W : Wd) (nm : ByteArray) (set : List Int) (i : Nat) : Bool := match set[i]? with
 | none => true
 | some a => !(set.take i).contains a && (bothB W (set.headD 0) a nm && ((upN W a).getD Nd0).halves.all fun h => set.contains h.peer && agreedB W a h.peer nm)
def closedB (W : Wd) (set : List Int) (nm : ByteArray) : Bool := (List.range set.length).all (closeB W nm set)
def sumErr (W : Wd) (nm : ByteArray) (a : Int) : Int × Int × Int :=
 if ¬ (0 ≤ a ∧ a < W.nds.length) then (0, 0, 40) else match upN W a with
 | none => (0, 0, 51)
 | some x => match findS x.chans nm with
  | none => (0, 0, 44)
  | some s => if flowsK s.ch.kd = true then ((estN x s nm).1, s.inp, (estN x s nm).2) else (0, 0, 46)
def sumsB (W : Wd) (nm : ByteArray) : List Int → Int → Int → Int × Int × Int
 | [], x, y => (x, y, 0)
 | a :: l, x, y => if (sumErr W nm a).2.2 = 0 then sumsB W nm l (wrap64 (x + (sumErr W nm a).1)) (wrap64 (y + (sumErr W nm a).2.1)) else (0, 0, (sumErr W nm a).2.2)
end Go.Proofs.YtkfodkbgmpbmfaaGreat
namespace Go.Proofs.YtkfodkbgmpbmfaaGreat
open Go.RowKit
set_option linter.unusedVariables false
set_option linter.unusedSimpArgs false
set_option maxRecDepth 100000
structure WdOk (w : World) (x : Wd) : Prop where
 cells : WdAt w w.heap.size x
 fit : FitW x
theorem WdOk.below {w w' : World} {x : Wd} (h : WdOk w x) (hb : Below w.heap.size w w') : WdOk w' x := ⟨(h.cells.below hb).more hb.size, h.fit⟩
theorem WdOk.len {w : World} {x : Wd} (h : WdOk w x) : x.nds.length = x.nn ∧ x.un = x.nn := ⟨h.cells.1.1.1, by have := h.cells.2.1; have := h.fit.un; have := h.cells.1.1.1; omega⟩
theorem WdOk.nd {w : World} {x : Wd} (h : WdOk w x) {k : Nat} (hk : k < x.nn) : ∃ ad y, x.na = some ad ∧ (ad.add (k * 8)).block < w.heap.size ∧ x.nds[k]? = some y ∧ nd8 w (ad.add (k * 8)) y ∧ NdAt w w.heap.size y := by
 obtain ⟨ad, y, e, hb, hy, hc⟩ := h.cells.1.1.at hk
 exact ⟨ad, y, e, hb, hy, nd8_of hc, h.cells.1.2 y (List.mem_of_getElem? hy)⟩
theorem WdOk.up {w : World} {x : Wd} (h : WdOk w x) {k : Nat} (hk : k < x.nn) : ∃ ad b, x.ua = some ad ∧ (ad.add k).block < w.heap.size ∧ x.ups[k]? = some b ∧ w.cell? (ad.add k) = some (.bool b) := by
 obtain ⟨ad, b, e, hb, hy, hc⟩ := h.cells.2.at (show k < x.un by have := h.len.2; omega)
 rw [Nat.mul_one] at hb hc
 exact ⟨ad, b, e, hb, hy, by have := hc 0 _ rfl; rwa [Bg.add_z] at this⟩
theorem upN_ge {x : Wd} {a : Int} (h : ¬ (0 ≤ a ∧ a < x.nds.length)) : upN x a = none := by unfold upN; rw [if_neg (by omega)]
theorem upN_at {x : Wd} {k : Nat} {b : Bool} {y : Nd} (hk : k < x.nds.length) (hb : x.ups[k]? = some b) (hy : x.nds[k]? = some y) : upN x k = if b = true then some y else none := by
 unfold upN
 simp only [Int.toNat_natCast, hb, hy]
 cases b <;> simp [hk]
theorem upN_some {x : Wd} {a : Int} {y : Nd} (h : upN x a = some y) : ∃ k : Nat, a = k ∧ k < x.nds.length ∧ x.nds[k]? = some y ∧ x.ups[k]? = some true := by
 unfold upN at h
 split at h
 · rename_i hc
   exact ⟨a.toNat, by omega, by omega, h, hc.2.2⟩
 · cases h
set_option maxHeartbeats 4000000 in
theorem up_any (x : Wd) (a : Int) (w : World) (hx : WdOk w x) :
    Calls Tryz.prog 43 #[WdV x, .int .i64 a] w fun e w' => e = .returned (.tuple #[NdV ((upN x a).getD Nd0), .bool (upN x a).isSome]) ∧ Below w.heap.size w w' := by
 have hl := hx.len
 have hn1 := hx.fit.n1
 by_cases h0 : 0 ≤ a
 · obtain ⟨k, rfl⟩ : ∃ k : Nat, a = k := ⟨a.toNat, by omega⟩
   by_cases hk : k < x.nn
   · obtain ⟨ad, b, hA, hab, hub, hc⟩ := hx.up hk
     obtain ⟨ad2, y, hA2, hab2, hy, h8, hnd⟩ := hx.nd hk
     have HU : Hid (upN x k = if b = true then some y else none) := Lib.hid (upN_at (by omega) hub hy)
     obtain ⟨na, nn, nc, ua, un, uc, da, dn, dc, nx, la, ll, lc, sa, sl, sc, lost, nds, ups⟩ := x
     simp only [] at *
     obtain ⟨e1, rfl⟩ := hl
     subst hA hA2
     obtain ⟨P, hP⟩ : ∃ P, ad.add k = P := ⟨_, rfl⟩
     rw [hP] at hc hab
     obtain ⟨Q, hQ⟩ : ∃ Q, ad2.add (k * 8) = Q := ⟨_, rfl⟩
     rw [hQ] at h8 hab2
     obtain ⟨c0, c1, c2, c3, c4, c5, c6, c7⟩ := h8
     have hkb : k < maxLen := by unfold maxLen; omega
     clear hx e1 hnd hy hub
     cases b with
     | false =>
      go_enter Tryz.func43, Tryz.ntmps43
      go_wp2
      refine bodyPost_ret (v := .tuple #[NdV Nd0, .bool false]) (by simp [results, Tryz.results43, go_sem, *]) rfl ⟨by rw [HU.out]; rfl, Qb⟩
     | true =>
      go_enter Tryz.func43, Tryz.ntmps43
      go_wp2
      refine bodyPost_ret (v := .tuple #[NdV y, .bool true]) (by simp [results, Tryz.results43, go_sem, *]) rfl ⟨by rw [HU.out]; rfl, Qb⟩
   · have HU : Hid (upN x k = none) := Lib.hid (by rw [upN_ge (by omega)])
     obtain ⟨na, nn, nc, ua, un, uc, da, dn, dc, nx, la, ll, lc, sa, sl, sc, lost, nds, ups⟩ := x
     simp only [] at *
     clear hx hl
     go_enter Tryz.func43, Tryz.ntmps43
     go_wp2
     refine bodyPost_ret (v := .tuple #[NdV Nd0, .bool false]) (by simp [results, Tryz.results43, go_sem, *]) rfl ⟨by rw [HU.out]; rfl, Qb⟩
 · have HU : Hid (upN x a = none) := Lib.hid (by rw [upN_ge (by omega)])
   obtain ⟨na, nn, nc, ua, un, uc, da, dn, dc, nx, la, ll, lc, sa, sl, sc, lost, nds, ups⟩ := x
   simp only [] at *
   clear hx hl
   go_enter Tryz.func43, Tryz.ntmps43
   go_wp2
   refine bodyPost_ret (v := .tuple #[NdV Nd0, .bool false]) (by simp [results, Tryz.results43, go_sem, *]) rfl ⟨by rw [HU.out]; rfl, Qb⟩
end Go.Proofs.YtkfodkbgmpbmfaaGreat
namespace Go.Proofs.YtkfodkbgmpbmfaaGreat
def qv (G : Bool) (v : Value) : Value := if G then v else undef
theorem qv_true (v : Value) : qv true v = v := rfl
section
variable {P : Program} {ops : Array Oper} {C : World → Prop} {Q : Act → Prop} {a : Act} {o : Oper} {rest : List Oper} {G B : Bool} {v : Value}
theorem wanted_pos {j d : Nat} (hg : o.guard = some (j, true)) (hd : (ops[j]?).bind (·.dst) = some d) (hs : a.tmps[d]? = some (.bool B)) : Region.wanted o (yielded ops a.tmps) = B := by
 unfold Region.wanted yielded
 rw [hg]
 simp only [hd, Option.bind_some, hs]
 cases B <;> rfl
theorem wanted_neg {j d : Nat} (hg : o.guard = some (j, false)) (hd : (ops[j]?).bind (·.dst) = some d) (hs : a.tmps[d]? = some (.bool B)) : Region.wanted o (yielded ops a.tmps) = !B := by
 unfold Region.wanted yielded
 rw [hg]
 simp only [hd, Option.bind_some, hs]
 cases B <;> rfl
theorem wanted_pos2 {j d : Nat} (hg : o.guard = some (j, true)) (hd : (ops[j]?).bind (·.dst) = some d) (hs : a.tmps[d]? = some (qv G (.bool B))) : Region.wanted o (yielded ops a.tmps) = (G && B) := by
 unfold Region.wanted yielded
 rw [hg]
 simp only [hd, Option.bind_some, hs]
 cases G <;> cases B <;> rfl
theorem wanted_neg2 {j d : Nat} (hg : o.guard = some (j, false)) (hd : (ops[j]?).bind (·.dst) = some d) (hs : a.tmps[d]? = some (qv G (.bool B))) : Region.wanted o (yielded ops a.tmps) = (G && !B) := by
 unfold Region.wanted yielded
 rw [hg]
 simp only [hd, Option.bind_some, hs]
 cases G <;> cases B <;> rfl
theorem wanted_off {j d : Nat} {want b : Bool} (hg : o.guard = some (j, want)) (hd : (ops[j]?).bind (·.dst) = some d) (hs : a.tmps[d]? = some (qv G (.bool b))) (hb : (b == want) = false) : Region.wanted o (yielded ops a.tmps) = false := by
 unfold Region.wanted yielded
 rw [hg]
 simp only [hd, Option.bind_some, hs]
 cases G <;> cases b <;> cases want <;> first | rfl | cases hb
theorem wanted_on {j d : Nat} {want b : Bool} (hg : o.guard = some (j, want)) (hd : (ops[j]?).bind (·.dst) = some d) (hs : a.tmps[d]? = some (qv G (.bool b))) (hb : (b == want) = true) : Region.wanted o (yielded ops a.tmps) = G := by
 unfold Region.wanted yielded
 rw [hg]
 simp only [hd, Option.bind_some, hs]
 cases G <;> cases b <;> cases want <;> first | rfl | cases hb
theorem both_run (hw : Region.wanted o (yielded ops a.tmps) = G) (hr : G = true → ∀ w, C w → (execOp a.eval o).run P w = .ok (.value v) w) (h : wpQuiet P ops C Q rest (a.put o.dst (qv G v))) : wpQuiet P ops C Q (o :: rest) a := by
 cases G with
 | true => exact BigFrame.wpQuiet_want hw fun K hK => quietC_run (hr rfl) (hK _ h)
 | false => exact BigFrame.wpQuiet_skip hw h
theorem both_call {f : FuncId} {args : Array Value} (hw : Region.wanted o (yielded ops a.tmps) = G) (hr : G = true → ∀ w, C w → (execOp a.eval o).run P w = .ok (.enter f args) w)
    (hc : G = true → ∀ w, C w → Calls P f args w fun e w' => e = .returned v ∧ C w') (h : wpQuiet P ops C Q rest (a.put o.dst (qv G v))) : wpQuiet P ops C Q (o :: rest) a := by
 cases G with
 | true => exact BigFrame.wpQuiet_want hw fun K hK => quietC_call (hr rfl) (hc rfl) (hK _ h)
 | false => exact BigFrame.wpQuiet_skip hw h
end
theorem pick_run {c x y : Operand} {A : Bool} {w : World} {P : Program} {a : Act} {o : Oper} {u : Value} (hop : o.op = .pick c x y) (hc : a.eval c = .bool A) (hu : (if A then a.eval x else a.eval y) = u) : (execOp a.eval o).run P w = .ok (.value u) w := by
 subst hu
 unfold execOp
 rw [hop]
 simp only [hc]
 cases A <;> rfl
section
variable {P : Program} {ops : Array Oper} {C : World → Prop} {Q : Act → Prop} {a : Act} {o : Oper} {rest : List Oper} {G A B : Bool} {c y : Operand}
theorem pick_orG (hop : o.op = .pick c (.const (.bool true)) y) (hw : Region.wanted o (yielded ops a.tmps) = G) (hc : G = true → a.eval c = .bool A) (hy : G = true → A = false → a.eval y = .bool B)
    (h : ∀ D, (A || B) = D → wpQuiet P ops C Q rest (a.put o.dst (qv G (.bool D)))) : wpQuiet P ops C Q (o :: rest) a :=
 both_run hw (fun hG w _ => pick_run hop (hc hG) (by cases hA : A with
  | true => rfl
  | false => exact hy hG hA)) (h _ rfl)
theorem pick_andG (hop : o.op = .pick c y (.const (.bool false))) (hw : Region.wanted o (yielded ops a.tmps) = G) (hc : G = true → a.eval c = .bool A) (hy : G = true → A = true → a.eval y = .bool B)
    (h : ∀ D, (A && B) = D → wpQuiet P ops C Q rest (a.put o.dst (qv G (.bool D)))) : wpQuiet P ops C Q (o :: rest) a :=
 both_run hw (fun hG w _ => pick_run hop (hc hG) (by cases hA : A with
  | true => exact hy hG hA
  | false => rfl)) (h _ rfl)
theorem pick_or0 (hop : o.op = .pick c (.const (.bool true)) y) (hw : Region.wanted o (yielded ops a.tmps) = true) (hc : a.eval c = .bool A) (hy : A = false → a.eval y = .bool B)
    (h : ∀ D, (A || B) = D → wpQuiet P ops C Q rest (a.put o.dst (.bool D))) : wpQuiet P ops C Q (o :: rest) a := pick_orG hop hw (fun _ => hc) (fun _ => hy) h
theorem pick_and0 (hop : o.op = .pick c y (.const (.bool false))) (hw : Region.wanted o (yielded ops a.tmps) = true) (hc : a.eval c = .bool A) (hy : A = true → a.eval y = .bool B)
    (h : ∀ D, (A && B) = D → wpQuiet P ops C Q rest (a.put o.dst (.bool D))) : wpQuiet P ops C Q (o :: rest) a := pick_andG hop hw (fun _ => hc) (fun _ => hy) h
end
end Go.Proofs.YtkfodkbgmpbmfaaGreat
