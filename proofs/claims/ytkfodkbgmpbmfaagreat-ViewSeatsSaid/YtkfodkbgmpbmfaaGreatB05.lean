/- Chapter 22, parts on the way: VwT VwQ VwH VwI RngS -/
import Derived.Test.YtkfodkbgmpbmfaaGreatB01
import Derived.Test.YtkfodkbgmpbmfaaGreatB02
import Derived.Test.YtkfodkbgmpbmfaaGreatB03
import Derived.Test.YtkfodkbgmpbmfaaGreatB04
set_option linter.unusedVariables false
set_option linter.unusedSimpArgs false
namespace Go.Proofs.YtkfodkbgmpbmfaaGreat
open Go.RowKit
set_option linter.unusedVariables false
structure Ln where
 name : ByteArray
 ver : Int
 wr : Int
 flow : Int
@[reducible] def Ln0 : Ln := ⟨⟨#[]⟩, 0, 0, 0⟩
def encLn (x : Ln) : List Value := [.string x.name, .int .i64 x.ver, .int .i64 x.wr, .int .i64 x.flow]
theorem encLn_len (x : Ln) : (encLn x).length = 4 := rfl
theorem encLn_one (x : Ln) : ∀ u ∈ encLn x, u.oneCell' = true := by
 intro u hu
 simp only [encLn, List.mem_cons, List.not_mem_nil, or_false] at hu
 rcases hu with rfl | rfl | rfl | rfl <;> rfl
structure Hf where
 peer : Int
 boot : Int
 life : Int
 la : Option Addr
 ln : Nat
 lc : Nat
 pend : Bool
 miss : Int
 lines : List Ln
@[reducible] def Hf0 : Hf := ⟨0, 0, 0, none, 0, 0, false, 0, []⟩
def encH (x : Hf) : List Value := [.int .i64 x.peer, .int .i64 x.boot, .int .i64 x.life, .slice x.la x.ln x.lc, .bool x.pend, .int .i64 x.miss]
@[reducible] def HfV (x : Hf) : Value := .agg #[.int .i64 x.peer, .int .i64 x.boot, .int .i64 x.life, .slice x.la x.ln x.lc, .bool x.pend, .int .i64 x.miss]
structure Sn where
 peer : Int
 boot : Int
 life : Int
 mine : Int
def encSn (x : Sn) : List Value := [.int .i64 x.peer, .int .i64 x.boot, .int .i64 x.life, .int .i64 x.mine]
def encI (x : Int) : List Value := [.int .i64 x]
theorem encI_len (x : Int) : (encI x).length = 1 := rfl
def encB (x : Bool) : List Value := [.bool x]
structure Nd where
 id : Int
 boot : Int
 ticks : Int
 wa : Option Addr
 wn : Nat
 wc : Nat
 turn : Int
 sa : Option Addr
 sn : Nat
 sc : Nat
 ha : Option Addr
 hn : Nat
 hc : Nat
 ca : Option Addr
 cn : Nat
 cc : Nat
 want : List Int
 seen : List Sn
 halves : List Hf
 chans : List St
@[reducible] def Nd0 : Nd := ⟨0, 0, 0, none, 0, 0, 0, none, 0, 0, none, 0, 0, none, 0, 0, [], [], [], []⟩
def encN (x : Nd) : List Value := [.int .i64 x.id, .int .i64 x.boot, .int .i64 x.ticks, .slice x.wa x.wn x.wc, .int .i64 x.turn, .slice x.sa x.sn x.sc, .slice x.ha x.hn x.hc, .slice x.ca x.cn x.cc]
@[reducible] def NdV (x : Nd) : Value := .agg #[.int .i64 x.id, .int .i64 x.boot, .int .i64 x.ticks, .slice x.wa x.wn x.wc, .int .i64 x.turn, .slice x.sa x.sn x.sc, .slice x.ha x.hn x.hc, .slice x.ca x.cn x.cc]
def LnsAt (w : World) (B : Nat) (A : Option Addr) (n : Nat) (ls : List Ln) : Prop := RowsE encLn 4 w B A n ls ∧ ∀ x ∈ ls, x.name.size ≤ maxLen
theorem LnsAt.below {w w' : World} {B n : Nat} {A : Option Addr} {ls : List Ln} (h : LnsAt w B A n ls) (hb : Below B w w') : LnsAt w' B A n ls := ⟨h.1.below hb, h.2⟩
theorem LnsAt.more {w : World} {B B' n : Nat} {A : Option Addr} {ls : List Ln} (h : LnsAt w B A n ls) (hB : B ≤ B') : LnsAt w B' A n ls := ⟨h.1.more hB, h.2⟩
def HfsAt (w : World) (B : Nat) (A : Option Addr) (n : Nat) (hs : List Hf) : Prop := RowsE encH 6 w B A n hs ∧ ∀ h ∈ hs, LnsAt w B h.la h.ln h.lines
theorem HfsAt.below {w w' : World} {B n : Nat} {A : Option Addr} {hs : List Hf} (h : HfsAt w B A n hs) (hb : Below B w w') : HfsAt w' B A n hs := ⟨h.1.below hb, fun x hx => (h.2 x hx).below hb⟩
theorem HfsAt.more {w : World} {B B' n : Nat} {A : Option Addr} {hs : List Hf} (h : HfsAt w B A n hs) (hB : B ≤ B') : HfsAt w B' A n hs := ⟨h.1.more hB, fun x hx => (h.2 x hx).more hB⟩
theorem hfs_nil (w : World) (B : Nat) (A : Option Addr) : HfsAt w B A 0 [] := ⟨rowsE_nil w B A, by simp⟩
def NdAt (w : World) (B : Nat) (x : Nd) : Prop := RowsE encI 1 w B x.wa x.wn x.want ∧ RowsE encSn 4 w B x.sa x.sn x.seen ∧ HfsAt w B x.ha x.hn x.halves ∧ StsAt w B x.ca x.cn x.chans
theorem NdAt.below {w w' : World} {B : Nat} {x : Nd} (h : NdAt w B x) (hb : Below B w w') : NdAt w' B x := ⟨h.1.below hb, h.2.1.below hb, h.2.2.1.below hb, h.2.2.2.below hb⟩
theorem NdAt.more {w : World} {B B' : Nat} {x : Nd} (h : NdAt w B x) (hB : B ≤ B') : NdAt w B' x := ⟨h.1.more hB, h.2.1.more hB, h.2.2.1.more hB, h.2.2.2.more hB⟩
def NdsAt (w : World) (B : Nat) (A : Option Addr) (n : Nat) (ns : List Nd) : Prop := RowsE encN 8 w B A n ns ∧ ∀ x ∈ ns, NdAt w B x
theorem NdsAt.below {w w' : World} {B n : Nat} {A : Option Addr} {ns : List Nd} (h : NdsAt w B A n ns) (hb : Below B w w') : NdsAt w' B A n ns := ⟨h.1.below hb, fun x hx => (h.2 x hx).below hb⟩
theorem NdsAt.more {w : World} {B B' n : Nat} {A : Option Addr} {ns : List Nd} (h : NdsAt w B A n ns) (hB : B ≤ B') : NdsAt w B' A n ns := ⟨h.1.more hB, fun x hx => (h.2 x hx).more hB⟩
def ln4 (w : World) (p : Addr) (x : Ln) : Prop := w.cell? p = some (.string x.name) ∧ w.cell? ⟨p.block, p.off + 1, none⟩ = some (.int .i64 x.ver) ∧ w.cell? ⟨p.block, p.off + 2, none⟩ = some (.int .i64 x.wr) ∧ w.cell? ⟨p.block, p.off + 3, none⟩ = some (.int .i64 x.flow)
theorem ln4_of {w : World} {p : Addr} {x : Ln} (h : CellsE encLn w p x) : ln4 w p x := by
 have h0 := h 0 _ rfl
 have hs : ∀ i u, (encLn x)[i + 1]? = some u → w.cell? ⟨p.block, p.off + (i + 1), none⟩ = some u := fun i u hu => by rw [← add_next]; exact h (i + 1) u hu
 exact ⟨h0, hs 0 _ rfl, hs 1 _ rfl, hs 2 _ rfl⟩
theorem ln4.below {w w' : World} {B : Nat} {p : Addr} {x : Ln} (h : ln4 w p x) (hp : p.block < B) (hb : Below B w w') : ln4 w' p x := by
 obtain ⟨h0, h1, h2, h3⟩ := h
 exact ⟨(hb.cell hp).trans h0, (hb.cell (p := ⟨_, _, none⟩) hp).trans h1, (hb.cell (p := ⟨_, _, none⟩) hp).trans h2, (hb.cell (p := ⟨_, _, none⟩) hp).trans h3⟩
def sn4 (w : World) (p : Addr) (x : Sn) : Prop := w.cell? p = some (.int .i64 x.peer) ∧ w.cell? ⟨p.block, p.off + 1, none⟩ = some (.int .i64 x.boot) ∧ w.cell? ⟨p.block, p.off + 2, none⟩ = some (.int .i64 x.life) ∧ w.cell? ⟨p.block, p.off + 3, none⟩ = some (.int .i64 x.mine)
theorem sn4_of {w : World} {p : Addr} {x : Sn} (h : CellsE encSn w p x) : sn4 w p x := by
 have h0 := h 0 _ rfl
 have hs : ∀ i u, (encSn x)[i + 1]? = some u → w.cell? ⟨p.block, p.off + (i + 1), none⟩ = some u := fun i u hu => by rw [← add_next]; exact h (i + 1) u hu
 exact ⟨h0, hs 0 _ rfl, hs 1 _ rfl, hs 2 _ rfl⟩
theorem sn4.below {w w' : World} {B : Nat} {p : Addr} {x : Sn} (h : sn4 w p x) (hp : p.block < B) (hb : Below B w w') : sn4 w' p x := by
 obtain ⟨h0, h1, h2, h3⟩ := h
 exact ⟨(hb.cell hp).trans h0, (hb.cell (p := ⟨_, _, none⟩) hp).trans h1, (hb.cell (p := ⟨_, _, none⟩) hp).trans h2, (hb.cell (p := ⟨_, _, none⟩) hp).trans h3⟩
def hf6 (w : World) (p : Addr) (x : Hf) : Prop := w.cell? p = some (.int .i64 x.peer) ∧ w.cell? ⟨p.block, p.off + 1, none⟩ = some (.int .i64 x.boot) ∧ w.cell? ⟨p.block, p.off + 2, none⟩ = some (.int .i64 x.life) ∧ w.cell? ⟨p.block, p.off + 3, none⟩ = some (.slice x.la x.ln x.lc) ∧ w.cell? ⟨p.block, p.off + 4, none⟩ = some (.bool x.pend) ∧ w.cell? ⟨p.block, p.off + 5, none⟩ = some (.int .i64 x.miss)
theorem hf6_of {w : World} {p : Addr} {x : Hf} (h : CellsE encH w p x) : hf6 w p x := by
 have h0 := h 0 _ rfl
 have hs : ∀ i u, (encH x)[i + 1]? = some u → w.cell? ⟨p.block, p.off + (i + 1), none⟩ = some u := fun i u hu => by rw [← add_next]; exact h (i + 1) u hu
 exact ⟨h0, hs 0 _ rfl, hs 1 _ rfl, hs 2 _ rfl, hs 3 _ rfl, hs 4 _ rfl⟩
theorem hf6.below {w w' : World} {B : Nat} {p : Addr} {x : Hf} (h : hf6 w p x) (hp : p.block < B) (hb : Below B w w') : hf6 w' p x := by
 obtain ⟨h0, h1, h2, h3, h4, h5⟩ := h
 exact ⟨(hb.cell hp).trans h0, (hb.cell (p := ⟨_, _, none⟩) hp).trans h1, (hb.cell (p := ⟨_, _, none⟩) hp).trans h2, (hb.cell (p := ⟨_, _, none⟩) hp).trans h3, (hb.cell (p := ⟨_, _, none⟩) hp).trans h4, (hb.cell (p := ⟨_, _, none⟩) hp).trans h5⟩
def nd8 (w : World) (p : Addr) (x : Nd) : Prop := w.cell? p = some (.int .i64 x.id) ∧ w.cell? ⟨p.block, p.off + 1, none⟩ = some (.int .i64 x.boot) ∧ w.cell? ⟨p.block, p.off + 2, none⟩ = some (.int .i64 x.ticks) ∧ w.cell? ⟨p.block, p.off + 3, none⟩ = some (.slice x.wa x.wn x.wc) ∧ w.cell? ⟨p.block, p.off + 4, none⟩ = some (.int .i64 x.turn) ∧ w.cell? ⟨p.block, p.off + 5, none⟩ = some (.slice x.sa x.sn x.sc) ∧ w.cell? ⟨p.block, p.off + 6, none⟩ = some (.slice x.ha x.hn x.hc) ∧ w.cell? ⟨p.block, p.off + 7, none⟩ = some (.slice x.ca x.cn x.cc)
theorem nd8_of {w : World} {p : Addr} {x : Nd} (h : CellsE encN w p x) : nd8 w p x := by
 have h0 := h 0 _ rfl
 have hs : ∀ i u, (encN x)[i + 1]? = some u → w.cell? ⟨p.block, p.off + (i + 1), none⟩ = some u := fun i u hu => by rw [← add_next]; exact h (i + 1) u hu
 exact ⟨h0, hs 0 _ rfl, hs 1 _ rfl, hs 2 _ rfl, hs 3 _ rfl, hs 4 _ rfl, hs 5 _ rfl, hs 6 _ rfl⟩
theorem nd8.below {w w' : World} {B : Nat} {p : Addr} {x : Nd} (h : nd8 w p x) (hp : p.block < B) (hb : Below B w w') : nd8 w' p x := by
 obtain ⟨h0, h1, h2, h3, h4, h5, h6, h7⟩ := h
 exact ⟨(hb.cell hp).trans h0, (hb.cell (p := ⟨_, _, none⟩) hp).trans h1, (hb.cell (p := ⟨_, _, none⟩) hp).trans h2, (hb.cell (p := ⟨_, _, none⟩) hp).trans h3, (hb.cell (p := ⟨_, _, none⟩) hp).trans h4, (hb.cell (p := ⟨_, _, none⟩) hp).trans h5, (hb.cell (p := ⟨_, _, none⟩) hp).trans h6, (hb.cell (p := ⟨_, _, none⟩) hp).trans h7⟩
theorem RowsE.at {α : Type} {enc : α → List Value} {k : Nat} {w : World} {B n : Nat} {A : Option Addr} {rs : List α} (h : RowsE enc k w B A n rs) {j : Nat} (hj : j < n) : ∃ ad x, A = some ad ∧ (ad.add (j * k)).block < B ∧ rs[j]? = some x ∧ CellsE enc w (ad.add (j * k)) x := by
 obtain ⟨ad, x, e, hb, hx, hc⟩ := h.get hj
 exact ⟨ad, x, e, by rw [block_of_add]; exact hb, hx, hc⟩
def FitPost (F : Prop) (w0 : World) (e : Ending) (w' : World) : Prop := ∃ b : Bool, e = .returned (.bool b) ∧ (b = true → F) ∧ Below w0.heap.size w0 w'
theorem FitPost.no {F : Prop} {w0 w' : World} (h : Below w0.heap.size w0 w') : FitPost F w0 (.returned (.bool false)) w' := ⟨false, rfl, fun h => (by cases h), h⟩
theorem FitPost.yes {F : Prop} {w0 w' : World} (f : F) (h : Below w0.heap.size w0 w') : FitPost F w0 (.returned (.bool true)) w' := ⟨true, rfl, fun _ => f, h⟩
end Go.Proofs.YtkfodkbgmpbmfaaGreat
namespace Go.Proofs.YtkfodkbgmpbmfaaGreat
set_option linter.unusedVariables false
def getH (hs : List Hf) (p : Int) : Option Hf := hs.find? fun h => h.peer == p
def getSn (l : List Sn) (p : Int) : Sn := (l.find? fun s => s.peer == p).getD ⟨p, 0, 0, 0⟩
def isL (nm : ByteArray) (x : Ln) : Bool := x.name.toList == nm.toList
def getLn (ls : List Ln) (nm : ByteArray) : Ln := (ls.find? (isL nm)).getD Ln0
def SnsOk (l : List Sn) : Prop := l.Pairwise (fun a b => a.peer < b.peer) ∧ ∀ s ∈ l, 0 ≤ s.peer ∧ s.peer < 16
theorem pw_adjv {α : Type} {R : α → α → Prop} (tr : ∀ a b c, R a b → R b c → R a c) : ∀ l : List α, (∀ t x y, l[t]? = some x → l[t + 1]? = some y → R x y) → l.Pairwise R
 | [], _ => List.Pairwise.nil
 | [a], _ => List.pairwise_singleton ..
 | a :: b :: l, h => by
  have ih := pw_adjv tr (b :: l) (fun t x y hx hy => h (t + 1) x y (by simpa using hx) (by simpa using hy))
  refine List.pairwise_cons.2 ⟨fun c hc => ?_, ih⟩
  have hab := h 0 a b rfl rfl
  rcases List.mem_cons.1 hc with rfl | hc
  · exact hab
  · exact tr _ _ _ hab ((List.pairwise_cons.1 ih).1 c hc)
theorem find_first {α : Type} {p : α → Bool} {l : List α} {k : Nat} {x : α} (hx : l[k]? = some x) (hp : p x = true) (h : ∀ (t : Nat) y, t < k → l[t]? = some y → p y = false) : l.find? p = some x := by
 obtain ⟨hk, e⟩ := List.getElem?_eq_some_iff.1 hx
 rw [List.find?_eq_some_iff_getElem]
 exact ⟨hp, k, hk, e, fun j hj => by rw [h j l[j] hj (List.getElem?_eq_getElem (by omega))]; rfl⟩
theorem find_nope {α : Type} {p : α → Bool} {l : List α} (h : ∀ (t : Nat) y, l[t]? = some y → p y = false) : l.find? p = none := by
 rw [List.find?_eq_none]
 intro x hx
 obtain ⟨t, ht, e⟩ := List.getElem_of_mem hx
 rw [h t x (by rw [List.getElem?_eq_getElem ht, e])]
 simp
theorem pw_lt {α : Type} {R : α → α → Prop} {l : List α} (h : l.Pairwise R) {s t : Nat} {x y : α} (hx : l[s]? = some x) (hy : l[t]? = some y) (hst : s < t) : R x y := by
 obtain ⟨h1, e1⟩ := List.getElem?_eq_some_iff.1 hx
 obtain ⟨h2, e2⟩ := List.getElem?_eq_some_iff.1 hy
 have := List.pairwise_iff_getElem.1 h s t h1 h2 hst
 rwa [e1, e2] at this
theorem getH_hit {hs : List Hf} (hp : hs.Pairwise (fun a b => a.peer < b.peer)) {k : Nat} {x : Hf} (hx : hs[k]? = some x) : getH hs x.peer = some x :=
 find_first hx (by simp) fun t y ht hy => by
  have : y.peer < x.peer := pw_lt hp hy hx ht
  simp only [beq_eq_false_iff_ne]
  omega
theorem getH_hit' {hs : List Hf} (hp : hs.Pairwise (fun a b => a.peer < b.peer)) {k : Nat} {x : Hf} {p : Int} (hx : hs[k]? = some x) (e : x.peer = p) : getH hs p = some x := by subst e; exact getH_hit hp hx
theorem getH_miss {hs : List Hf} {p : Int} {k : Nat} (h1 : ∀ (t : Nat) y, t < k → hs[t]? = some y → y.peer < p) (h2 : ∀ (t : Nat) y, k ≤ t → hs[t]? = some y → p < y.peer) : getH hs p = none :=
 find_nope fun t y hy => by
  simp only [beq_eq_false_iff_ne]
  rcases Nat.lt_or_ge t k with ht | ht
  · have := h1 t y ht hy; omega
  · have := h2 t y ht hy; omega
theorem getH_mem {hs : List Hf} {p : Int} {x : Hf} (h : getH hs p = some x) : x ∈ hs ∧ x.peer = p := ⟨List.mem_of_find?_eq_some h, by have := List.find?_some h; simpa using this⟩
theorem getSn_hit {l : List Sn} {p : Int} {k : Nat} {x : Sn} (hx : l[k]? = some x) (e : x.peer = p) (h : ∀ (t : Nat) y, t < k → l[t]? = some y → y.peer ≠ p) : getSn l p = x := by
 unfold getSn
 rw [find_first hx (by simp [e]) (fun t y ht hy => by simpa using h t y ht hy)]
 rfl
theorem getSn_miss {l : List Sn} {p : Int} (h : ∀ (t : Nat) y, l[t]? = some y → y.peer ≠ p) : getSn l p = ⟨p, 0, 0, 0⟩ := by
 unfold getSn
 rw [find_nope (fun t y hy => by simpa using h t y hy)]
 rfl
theorem before_next {α : Type} {q : α → Prop} {l : List α} {k : Nat} {x : α} (h : ∀ (t : Nat) y, t < k → l[t]? = some y → q y) (hx : l[k]? = some x) (hq : q x) : ∀ (t : Nat) y, t < k + 1 → l[t]? = some y → q y := by
 intro t y ht hy
 rcases Nat.lt_or_eq_of_le (Nat.lt_succ_iff.1 ht) with h1 | h1
 · exact h t y h1 hy
 · subst h1
   rw [hx] at hy
   obtain rfl := Option.some.inj hy
   exact hq
theorem before_all {α : Type} {q : α → Prop} {l : List α} {n : Nat} (hl : l.length = n) (h : ∀ (t : Nat) y, t < n → l[t]? = some y → q y) : ∀ (t : Nat) y, l[t]? = some y → q y := fun t y hy => h t y (by have := (List.getElem?_eq_some_iff.1 hy).1; omega) hy
theorem before_zero {α : Type} {q : α → Prop} {l : List α} : ∀ (t : Nat) y, t < 0 → l[t]? = some y → q y := fun t y ht => absurd ht (Nat.not_lt_zero t)
theorem getLn_hit {ls : List Ln} {nm : ByteArray} {k : Nat} {x : Ln} (hx : ls[k]? = some x) (e : isL nm x = true) (h : ∀ (t : Nat) y, t < k → ls[t]? = some y → isL nm y = false) : getLn ls nm = x := by
 unfold getLn
 rw [find_first hx e h]
 rfl
theorem getLn_miss {ls : List Ln} {nm : ByteArray} (h : ∀ (t : Nat) y, ls[t]? = some y → isL nm y = false) : getLn ls nm = Ln0 := by
 unfold getLn
 rw [find_nope h]
 rfl
theorem isL_past {ls : List Ln} {nm : ByteArray} {k : Nat} {x : Ln} (hp : ls.Pairwise (fun a b => ltN a.name b.name = true)) (hx : ls[k]? = some x) (hg : ltN nm x.name = true) (h : ∀ (t : Nat) y, t < k → ls[t]? = some y → isL nm y = false) : ∀ (t : Nat) y, ls[t]? = some y → isL nm y = false := by
 intro t y hy
 rcases Nat.lt_or_ge t k with ht | ht
 · exact h t y ht hy
 · have hlt : ltN nm y.name = true := by
     rcases Nat.lt_or_eq_of_le ht with h1 | h1
     · exact ltN_trans hg (pw_lt hp hx hy h1)
     · subst h1
       rw [hx] at hy
       obtain rfl := Option.some.inj hy
       exact hg
   have := ltN_eqN hlt
   rw [eqN_comm] at this
   exact this
end Go.Proofs.YtkfodkbgmpbmfaaGreat
namespace Go.Proofs.YtkfodkbgmpbmfaaGreat
open Go.RowKit
set_option linter.unusedVariables false
set_option linter.unusedSimpArgs false
set_option maxRecDepth 100000
theorem line_inf : (Tryz.prog.info? 92).map (fun i => (i.zero, i.size, i.bytes)) = some (some (.agg #[.string ⟨#[]⟩, .int .i64 0, .int .i64 0, .int .i64 0]), 4, 40) := by kernel_rfl
theorem OwnE.setc' {α : Type} {enc : α → List Value} {k : Nat} {e : TypeId} {w : World} {base : Nat} {v : Value} {rs : List α} (h : OwnE enc k e w base v rs) {p : Addr} (hp : p.block < base) (u : Value) : OwnE enc k e (w.setCell p u) base v rs := by
 refine ⟨h.1, ?_⟩
 rcases h.2 with hn | ⟨g, cap, cur, rfl, hg, hc, rest⟩
 · exact .inl hn
 · exact .inr ⟨g, cap, cur, rfl, hg, (Below.heap_setCell _ _ _ _ (fun e => by omega)).trans hc, rest⟩
theorem own_lns {w : World} {base : Nat} {v : Value} {ls : List Ln} (h : OwnE encLn 4 92 w base v ls) (hs : ∀ x ∈ ls, x.name.size ≤ maxLen) : ∃ A c, v = .slice A ls.length c ∧ LnsAt w w.heap.size A ls.length ls := by
 obtain ⟨A, c, e, h1⟩ := OwnE.at_ encLn_len h
 exact ⟨A, c, e, h1, hs⟩
theorem LnsAt.ofOwn {w : World} {base : Nat} {A : Option Addr} {n c : Nat} {ls : List Ln} (h : OwnE encLn 4 92 w base (.slice A n c) ls) (hs : ∀ x ∈ ls, x.name.size ≤ maxLen) : LnsAt w w.heap.size A n ls := by
 obtain ⟨A2, c2, e, h1⟩ := own_lns h hs
 obtain ⟨rfl, rfl, rfl⟩ := Value.slice.inj e
 exact h1
theorem Hfs_get {w : World} {B n : Nat} {A : Option Addr} {hs : List Hf} (h : HfsAt w B A n hs) {k : Nat} (hk : k < n) : ∃ ad x, A = some ad ∧ (ad.add (k * 6)).block < B ∧ hs[k]? = some x ∧ hf6 w (ad.add (k * 6)) x ∧ LnsAt w B x.la x.ln x.lines := by
 obtain ⟨ad, x, e, hb, hx, hc⟩ := h.1.at hk
 exact ⟨ad, x, e, hb, hx, hf6_of hc, h.2 x (List.mem_of_getElem? hx)⟩
def FoundH (o : Option Hf) (w w' : World) (e : Ending) : Prop := match o with
 | some h => ∃ A2 c2, e = .returned (.tuple #[HfV { h with la := A2, lc := c2 }, .bool true]) ∧ OwnE encLn 4 92 w' w.heap.size (.slice A2 h.ln c2) h.lines ∧ Below w.heap.size w w'
 | none => e = .returned (.tuple #[HfV Hf0, .bool false]) ∧ Below w.heap.size w w'
end Go.Proofs.YtkfodkbgmpbmfaaGreat
namespace Go.Proofs.YtkfodkbgmpbmfaaGreat
open Go.RowKit
set_option linter.unusedVariables false
set_option linter.unusedSimpArgs false
set_option maxRecDepth 100000
@[reducible] def RgV (x : Ln) : Value := .agg #[.int .i64 x.ver, .int .i64 x.wr, .int .i64 x.flow]
theorem LnsAt.get {w : World} {B n : Nat} {A : Option Addr} {ls : List Ln} (h : LnsAt w B A n ls) {k : Nat} (hk : k < n) : ∃ ad x, A = some ad ∧ (ad.add (k * 4)).block < B ∧ ls[k]? = some x ∧ ln4 w (ad.add (k * 4)) x ∧ x.name.size ≤ maxLen := by
 obtain ⟨ad, x, e, hb, hx, hc⟩ := h.1.at hk
 exact ⟨ad, x, e, hb, hx, ln4_of hc, h.2 x (List.mem_of_getElem? hx)⟩
set_option maxHeartbeats 4000000 in
theorem lclone_any (A : Option Addr) (n cp : Nat) (ls : List Ln) (w : World) (hr : LnsAt w w.heap.size A n ls) (hm : n ≤ 1000) :
    Calls Tryz.prog 185 #[.slice A n cp] w fun x w' => ∃ A2 c2, x = .returned (.slice A2 n c2) ∧ OwnE encLn 4 92 w' w.heap.size (.slice A2 n c2) ls ∧ Below w.heap.size w w' := by
 obtain ⟨i0, hi0, hz0, hz1, hz2⟩ := info_parts line_inf
 have hR := RowsE.reads encLn_len hr.1
 obtain rfl := hr.1.1
 cases A with
 | none =>
  obtain rfl : ls = [] := by
   rcases ls with _ | ⟨x, xs⟩
   · rfl
   · obtain ⟨ad, h, _⟩ := hr.1.2 (by simp); cases h
  have hnil : ∀ W, (binOp .eql 57 (.slice none ([] : List Ln).length cp) (.slice none 0 0)).run Tryz.prog W = .ok (.bool true) W := fun W => Lib.run_eql_slice_nil W _ _ none _ _ _ _ Tryz.underlying57
  go_enter Tryz.func185, Tryz.ntmps185
  simp only [List.length_nil] at *
  go_wp2
  refine bodyPost_ret (v := .slice none 0 0) (by simp [results, Tryz.results185, go_sem, *]) (by rfl) ?_
  exact ⟨_, _, rfl, OwnE.nil _ _ _, Below.refl _ _⟩
 | some ad =>
  have hnil : ∀ W, (binOp .eql 57 (.slice (some ad) ls.length cp) (.slice none 0 0)).run Tryz.prog W = .ok (.bool false) W := fun W => Lib.run_eql_slice_nil W _ _ (some ad) _ _ _ _ Tryz.underlying57
  go_enter Tryz.func185, Tryz.ntmps185
  go_wp2_with (at_builtin; refine wpList_append_any _ rfl (.tmp 5) (.tmp 6) _ rfl w.heap.size 92 i0 _ 4 40 Tryz.underlying57 hi0 hz0 hz1 hz2 rfl (by omega) (.slice (some ⟨w.heap.size, 0, none⟩) 0 0) 0 [] rfl (World.ownsRow_lit w #[] 0 (Nat.le_refl _) (by simp [maxLen]) rfl) (w.heap.size + 1) (some ad) ls.length cp _ rfl ((hR.alloc (Nat.le_refl _) _).more (by omega)) (flatE_one encLn_one ls) (by simp only [maxLen]; omega) (by omega) (by simp) ?_; intro v1 w1 hown1 hg1 hat1)
  have hbw1 : Below w.heap.size w w1 := ((Below.refl _ _).alloc (Nat.le_refl _) _).grown hg1 (by simp) (by simp [Value.ownBlock])
  rw [Nat.zero_add, List.nil_append] at hown1
  obtain ⟨A1, c1, hv1⟩ := row_slice' hown1
  subst hv1
  have HO := Lib.hid hown1
  clear hown1
  go_ret
  exact ⟨_, _, rfl, HO.out, hbw1⟩
set_option maxHeartbeats 4000000 in
theorem one_any (h : Hf) (w : World) (hl : LnsAt w w.heap.size h.la h.ln h.lines) (hm : h.ln ≤ 1000) :
    Calls Tryz.prog 156 #[HfV h] w fun e w' => ∃ A2 c2, e = .returned (HfV { h with la := A2, lc := c2 }) ∧ OwnE encLn 4 92 w' w.heap.size (.slice A2 h.ln c2) h.lines ∧ Below w.heap.size w w' := by
 obtain ⟨pe, bo, li, la, n, lc, pd, mi, ls⟩ := h
 simp only [] at hl hm ⊢
 have C := Lib.hid (fun W (hb : Below w.heap.size w W) => lclone_any la n lc ls W ((hl.below hb).more hb.size) hm)
 clear hl
 go_enter Tryz.func156, Tryz.ntmps156
 go_wp2_with (fail)
 refine (C.out _ Qb).mono ?_; rintro e w1 ⟨A2, c2, rfl, ho, hb1⟩; obtain ⟨hcc1, hff1⟩ := bcell hb1
 have hz1 := hb1.size
 simp at hz1
 have q0 : w.heap.size < w1.heap.size := by omega
 have q1 : w.heap.size + 1 < w1.heap.size := by omega
 obtain ⟨B4, hB4, hl3⟩ : ∃ B4, w.heap.size + 1 < B4 ∧ OwnE encLn 4 92 w1 B4 (.slice A2 n c2) ls := ⟨_, by simp, ho⟩
 have HO := Lib.hid hl3
 have e3 : w1.cell? ⟨w.heap.size, 3, none⟩ = some (.slice la n lc) := (hcc1 _ _ (by first | (simp; done) | (simp; omega) | omega)).trans (by go_simp)
 clear ho hl3
 go_wp2
 refine bodyPost_ret (v := HfV ⟨pe, bo, li, A2, n, c2, pd, mi, ls⟩) (by simp [results, Tryz.results156, go_sem, *]) rfl ⟨A2, c2, rfl, ?_, (Qb1 hb1)⟩
 refine OwnE.less (base := B4) ?_ (by omega)
 repeat refine OwnE.setc' ?_ (by first | (simp; done) | (simp; omega) | omega) _
 exact HO.out
theorem place1_any (h : Hf) (p : Int) (w : World) (h0 : 0 ≤ h.peer) (h1 : h.peer < 16) (p0 : 0 ≤ p) (p1 : p < 16) :
    Calls Tryz.prog 184 #[HfV h, .int .i64 p] w fun e w' => e = .returned (.int .i64 (h.peer - p)) ∧ Below w.heap.size w w' := by
 obtain ⟨pe, bo, li, la, n, lc, pd, mi, ls⟩ := h
 simp only [] at h0 h1 ⊢
 go_enter Tryz.func184, Tryz.ntmps184
 go_wp2
 go_ret
 exact ⟨rfl, Qb⟩
def BsPost (hs : List Hf) (p : Int) (w w' : World) (e : Ending) : Prop := (∃ k x, e = .returned (.tuple #[.int .i64 (k : Nat), .bool true]) ∧ hs[k]? = some x ∧ x.peer = p ∧ Below w.heap.size w w') ∨ (∃ k : Nat, e = .returned (.tuple #[.int .i64 k, .bool false]) ∧ getH hs p = none ∧ Below w.heap.size w w')
set_option maxHeartbeats 4000000 in
theorem bsearch_any (A : Option Addr) (n cp : Nat) (hs : List Hf) (p : Int) (w : World) (hr : HfsAt w w.heap.size A n hs) (hp : hs.Pairwise (fun a b => a.peer < b.peer)) (hm : n ≤ 1000) (hl : ∀ h ∈ hs, 0 ≤ h.peer ∧ h.peer < 16) (p0 : 0 ≤ p) (p1 : p < 16) :
    Calls Tryz.prog 183 #[.slice A n cp, .int .i64 p, .func (.func 184) #[] #[]] w fun e w' => BsPost hs p w w' e := by
 have HR := Lib.hid hr
 have HP := Lib.hid hp
 have HL := Lib.hid hl
 clear hr hp hl
 go_enter Tryz.func183, Tryz.ntmps183
 go_wp2
 go_loopw [9, 10] (fun i j w' => ∃ (lo hi : Nat), lo ≤ hi ∧ hi ≤ n ∧ i = .int .i64 lo ∧ j = .int .i64 hi ∧ Hid (∀ (t : Nat) y, t < lo → hs[t]? = some y → y.peer < p) ∧ Hid (∀ (t : Nat) y, hi ≤ t → hs[t]? = some y → p ≤ y.peer) ∧ KeptC w [] [] w') (fun i j _ => (intOf j).toNat - (intOf i).toNat)
 case atStart => exact ⟨0, n, Nat.zero_le _, Nat.le_refl _, rfl, rfl, Lib.hid before_zero, Lib.hid (fun t y ht hy => by have := (List.getElem?_eq_some_iff.1 hy).1; have := HR.out.1.1; omega), Qk⟩
 case round =>
  obtain ⟨lo, hi, hlh, hhn, rfl, rfl, HA, HZ, hK⟩ := hrel
  have kb0 := hK.1
  clear hK
  have hs0 := kb0.size
  by_cases hlt : lo < hi
  · obtain ⟨ad, x, rfl, hab, hx, h6, hln⟩ := Hfs_get HR.out (k := (lo + hi) / 2) (by omega)
    obtain ⟨P, hP⟩ : ∃ P, ad.add ((lo + hi) / 2 * 6) = P := ⟨_, rfl⟩
    rw [hP] at h6 hab
    obtain ⟨c0, c1, c2, c3, c4, c5⟩ := h6.below hab kb0
    have hPw : P.block < wr.heap.size := by omega
    have HX := Lib.hid hx
    have hxb := HL.out x (List.mem_of_getElem? hx)
    have C := Lib.hid (fun W => place1_any x p W hxb.1 hxb.2 p0 p1)
    clear h6 hx hln
    by_cases hc : x.peer < p
    · have HE : Hid (x.peer < p) := Lib.hid hc
      have hc2 : x.peer - p < 0 := by omega
      go_wp2_with (fail)
      refine (C.out _).mono ?_; rintro e w1 ⟨rfl, hb1⟩
      go_wp2
      go_roundw
      case rel => exact ⟨(lo + hi) / 2 + 1, hi, by omega, hhn, by go_num, rfl, Lib.hid (fun t y ht hy => by
          rcases Nat.lt_or_eq_of_le (Nat.lt_succ_iff.1 ht) with h1 | h1
          · have : y.peer < x.peer := pw_lt HP.out hy HX.out h1
            have := HE.out
            omega
          · subst h1
            rw [HX.out] at hy
            obtain rfl := Option.some.inj hy
            exact HE.out), HZ, (Qk2 kb0 hb1)⟩
      case measure => simp [intOf]; omega
    · have HE : Hid (p ≤ x.peer) := Lib.hid (by omega)
      have hc2 : ¬ (x.peer - p < 0) := by omega
      go_wp2_with (fail)
      refine (C.out _).mono ?_; rintro e w1 ⟨rfl, hb1⟩
      go_wp2
      go_roundw
      case rel => exact ⟨lo, (lo + hi) / 2, by omega, by omega, rfl, by go_num, HA, Lib.hid (fun t y ht hy => by
          rcases Nat.lt_or_eq_of_le ht with h1 | h1
          · have : x.peer < y.peer := pw_lt HP.out HX.out hy h1
            have := HE.out
            omega
          · subst h1
            rw [HX.out] at hy
            obtain rfl := Option.some.inj hy
            exact HE.out), (Qk2 kb0 hb1)⟩
      case measure => simp [intOf]; omega
  · obtain rfl : lo = hi := by omega
    by_cases hln : lo < n
    · obtain ⟨ad, x, rfl, hab, hx, h6, hln⟩ := Hfs_get HR.out (k := lo) (by omega)
      obtain ⟨P, hP⟩ : ∃ P, ad.add (lo * 6) = P := ⟨_, rfl⟩
      rw [hP] at h6 hab
      obtain ⟨c0, c1, c2, c3, c4, c5⟩ := h6.below hab kb0
      have hPw : P.block < wr.heap.size := by omega
      have HX := Lib.hid hx
      have hxb := HL.out x (List.mem_of_getElem? hx)
      have C := Lib.hid (fun W => place1_any x p W hxb.1 hxb.2 p0 p1)
      clear h6 hx hln
      by_cases hc : x.peer = p
      · have HE : Hid (x.peer = p) := Lib.hid hc
        have hc2 : (x.peer - p == 0) = true := by simp; omega
        clear hc
        go_wp2_with (fail)
        refine (C.out _).mono ?_; rintro e w1 ⟨rfl, hb1⟩
        go_wp2
        go_ret2
        exact .inl ⟨lo, x, rfl, HX.out, HE.out, (Qb2 kb0 hb1)⟩
      · have HE : Hid (getH hs p = none) := Lib.hid (getH_miss HA.out (fun t y ht hy => by
          have := HZ.out t y ht hy
          rcases Nat.lt_or_eq_of_le ht with h1 | h1
          · have : x.peer < y.peer := pw_lt HP.out HX.out hy h1
            have := HZ.out lo x (Nat.le_refl _) HX.out
            omega
          · subst h1
            rw [HX.out] at hy
            obtain rfl := Option.some.inj hy
            omega))
        have hc2 : (x.peer - p == 0) = false := by simp; omega
        clear hc
        go_wp2_with (fail)
        refine (C.out _).mono ?_; rintro e w1 ⟨rfl, hb1⟩
        go_wp2
        go_ret2
        exact .inr ⟨lo, rfl, HE.out, (Qb2 kb0 hb1)⟩
    · have HE : Hid (getH hs p = none) := Lib.hid (getH_miss HA.out (fun t y ht hy => by have := (List.getElem?_eq_some_iff.1 hy).1; have := HR.out.1.1; omega))
      go_wp2
      go_ret2
      exact .inr ⟨lo, rfl, HE.out, (Qb1 kb0)⟩
end Go.Proofs.YtkfodkbgmpbmfaaGreat
namespace Go.Proofs.YtkfodkbgmpbmfaaGreat.Bg
open Go.RowKit Go.Shelf
set_option linter.unusedVariables false
theorem _root_.Go.Proofs.YtkfodkbgmpbmfaaGreat.Kp.below {D Bo Bw : Nat} {A C : World} (hb : Below A.heap.size A C) (hBo : Bo < A.heap.size) : Kp D Bo Bw A C := ⟨hb.size, .inl (rowB_same (hb.block _ hBo)), fun b o _ _ _ ho _ => (hb.block b (Array.getElem?_eq_some_iff.1 ho).1).trans ho⟩
def SeqS {α : Type} (n : Nat) (P : Program) (g : Nat) (lb : Array Value) (encs : α → Array Value) (Bo Bw N : Nat) (S Sp : List α → Prop) (w : World) : Prop :=
 ∀ (l : Nat) (J Jx : List α → World → Prop) (W : World), Below w.heap.size w W → (∀ s A, J s A → w.heap.size ≤ A.heap.size ∧ ∀ r, rowB Bo A = some r → w.heap.size ≤ r ∧ r < A.heap.size) →
  (∀ s A C, J s A → Fr w.heap.size Bo A C → J s C) →
  (∀ pre x W1, J pre W1 → pre.length < N → YieldAt Fence.wide (n - 1) P l (encs x) W1 fun e W' => (e = .returned (.bool true) ∧ J (pre ++ [x]) W' ∧ Kp w.heap.size Bo Bw W1 W') ∨ (e = .returned (.bool false) ∧ Jx (pre ++ [x]) W')) →
  J [] W → CallsIn Fence.wide n P g (#[.func (.yield l) #[] #[]] ++ lb) W fun e W' => (∃ v, e = .returned v) ∧ ((∃ xs, S xs ∧ J xs W') ∨ ∃ pre, Sp pre ∧ Jx pre W')
def postS {α : Type} (B D Bo Bw : Nat) (I Ix : List α → World → Prop) (xs : List α) (W : World) : Exit → Act → World → Prop
 | .normal, _, W' => KeepsFrom B W W' ∧ Kp D Bo Bw W W' ∧ I xs W'
 | .ret, _, W' => KeepsFrom B W W' ∧ Ix xs W'
 | _, _, _ => False
theorem wpIn_range_s {α : Type} {P : Program} {n : Nat} {g : Operand} {ps : Array Tmp} {assign body : Code} {Q : Exit → Act → World → Prop} {a : Act} {w : World}
    (hn : 1 ≤ n) {gf : Nat} {lb : Array Value} (hg : a.eval g = .func (.func gf) #[] lb) (eg : ∀ args w, (callFunc gf args).run P w = .ok (.enter gf args) w)
    {encs : α → Array Value} {Bo Bw N : Nat} {S Sp : List α → Prop} (hBo : Bo < w.heap.size) (hseq : SeqS (n - 1) P gf lb encs Bo Bw N S Sp w) (hps : ∀ x, (encs x).size = ps.size)
    (I Ix : List α → World → Prop) (hIr : ∀ s A, I s A → w.heap.size ≤ A.heap.size ∧ ∀ r, rowB Bo A = some r → w.heap.size ≤ r ∧ (∃ o, A.heap[r]? = some o ∧ o.isCells = true)) (hIF : ∀ s A C, I s A → FrI w.heap.size Bo A C → I s C)
    (hIx : ∀ s A l o o', Ix s A → w.heap.size ≤ l → A.heap[l]? = some o → o.isCells = false → Ix s (A.putObj l o'))
    (h0 : I [] w) (Ax : α → Act → World → Prop) (hAx : ∀ x a' A l o o', Ax x a' A → A.heap[l]? = some o → o.isCells = false → Ax x a' (A.putObj l o'))
    (hassign : ∀ (l : Nat) (pre : List α) (x : α) (W : World) (K : Act → World → Prop), w.heap.size ≤ l → I pre W → (∀ a' W', KeepsFrom w.heap.size W W' → Kp w.heap.size Bo Bw W W' → I pre W' → Ax x a' W' → K a' W') →
     assign.wpIn (Fence.wide.inRound l) (n - 1 - 1) P (Exit.then K (fun _ _ _ => False)) { tmps := (ps.zip (encs x)).foldl (fun t (p, v) => t.setIfInBounds p v) a.tmps, defers := [] } W)
    (hbody : ∀ (l : Nat) (pre : List α) (x : α) (a' : Act) (W : World), w.heap.size ≤ l → pre.length < N → I pre W → Ax x a' W → body.wpIn (Fence.wide.inRound l) (n - 1 - 1) P (postS w.heap.size w.heap.size Bo Bw I Ix (pre ++ [x]) W) a' W)
    (hdone : ∀ (D : Nat) (xs : List α) (W : World), w.heap.size ≤ D → S xs → I xs W → W.heap[D]? = some (.deferred (some [])) → Q .normal { a with defers := { target := .collected D, args := #[] } :: a.defers } W)
    (hstop : ∀ (D : Nat) (pre : List α) (W : World), w.heap.size ≤ D → Sp pre → Ix pre W → W.heap[D]? = some (.deferred (some [])) → Code.ret.wpIn Fence.wide n P Q { a with defers := { target := .collected D, args := #[] } :: a.defers } W) :
    (Code.rangeFunc g ps assign body).wpIn Fence.wide n P Q a w := by
 refine wpIn_rangeFunc fun fn hfn => ?_
 generalize hD : w.heap.size = D at *
 obtain ⟨rc, hrc⟩ : ∃ rc : LoopState → Option Code → Loop, rc = fun st pe => { state := st, pending := pe, fn, tmps := a.tmps, params := ps, assign, body, defers := D } := ⟨_, rfl⟩
 have hgrow : ∀ {A C : World}, KeepsFrom D A C → ∀ {k : Nat} {o : Obj}, D ≤ k → A.heap[k]? = some o → o.isCells = false → C.heap[k]? = some o := fun h _ _ h1 h2 h3 => h.same _ _ h1 h2 h3
 obtain ⟨W1, hW1⟩ : ∃ W1, (w.alloc (.deferred (some []))).alloc (.loop (rc .ready none)) = W1 := ⟨_, rfl⟩
 have dD : W1.heap[D]? = some (.deferred (some [])) := by
  rw [← hW1, ← hD]; exact (Below.heap_alloc _ _ _ (by simp)).trans (World.alloc_heap_new w _)
 have dL : W1.heap[D + 1]? = some (.loop (rc .ready none)) := by
  rw [← hW1, ← hD]; have := World.alloc_heap_new (w.alloc (.deferred (some []))) (.loop (rc .ready none)); rwa [World.size_alloc] at this
 have b1 : Below D w W1 := by
  rw [← hW1, ← hD]; exact ((Below.refl _ w).alloc (Nat.le_refl _) _).alloc (by simp) _
 have f1 : Fr D Bo w W1 := Fr.below (by rw [hD]; exact b1)
 have i1 : I [] W1 := hIF _ _ _ h0 f1.I
 have hput : ∀ {s : List α} {A : World} {l : Nat} {o o' : Obj}, I s A → D ≤ l → A.heap[l]? = some o → o.isCells = false → I s (A.putObj l o') := by
  intro s A l o o' hi hl ho hc
  refine hIF _ _ _ hi ⟨Nat.le_of_eq (World.putObj_size ..).symm, fun b hb hcb => World.putObj_heap_other ?_, ⟨rfl, rfl, rfl⟩⟩
  intro e
  subst e
  rcases hcb with h | h
  · omega
  · obtain ⟨_, o2, h2, h3⟩ := (hIr _ _ hi).2 _ h
    rw [ho] at h2
    cases h2
    rw [hc] at h3
    cases h3
 refine ⟨D + 1, [{ target := .collected D, args := #[] }], W1, { target := .fn (.func gf) lb, args := #[.func (.yield (D + 1)) #[] #[]] }, W1, gf, #[.func (.yield (D + 1)) #[] #[]] ++ lb, W1, ?_, ?_, fun _ _ => trivial, ?_, fun _ => hn, ?_⟩
 · have he := run_enterLoop_outer (P := P) (w := w) fn a.tmps ps assign body
   rw [hD] at he
   rw [← hW1, hrc]
   exact he
 · simp only [resolve, hg]
   simp [go_sem]
 · simp [invoke, go_sem, eg]
 · have hcall := hseq (D + 1)
     (fun pre W => I pre W ∧ W.heap[D + 1]? = some (.loop (rc .ready none)) ∧ W.heap[D]? = some (.deferred (some [])))
     (fun pre W => Ix pre W ∧ W.heap[D + 1]? = some (.loop (rc .done (some .ret))) ∧ W.heap[D]? = some (.deferred (some [])))
     W1 (by rw [hD]; exact b1)
     (fun s A h => by
      rw [hD]
      refine ⟨(hIr s A h.1).1, fun r hr => ?_⟩
      obtain ⟨h1, o, h2, _⟩ := (hIr s A h.1).2 r hr
      exact ⟨h1, (Array.getElem?_eq_some_iff.1 h2).1⟩)
     (fun s A C h hf => by
      rw [hD] at hf
      have l1 := (Array.getElem?_eq_some_iff.1 h.2.1).1
      have l2 := (Array.getElem?_eq_some_iff.1 h.2.2).1
      exact ⟨hIF s A C h.1 hf.I, (hf.2.1 _ l1 (.inr (.inr ⟨_, h.2.1, rfl⟩))).trans h.2.1, (hf.2.1 _ l2 (.inr (.inr ⟨_, h.2.2, rfl⟩))).trans h.2.2⟩) ?_ ⟨i1, dL, dD⟩
   · refine hcall.mono ?_
     rintro e W2 ⟨⟨v, rfl⟩, ⟨xs, hS, hi, hl, hk⟩ | ⟨pre, hSp, hi, hl, hk⟩⟩
     · have hend := run_endLoop (P := P) hl (by rw [hrc]; simp)
       have hpe : (rc LoopState.ready none).pending = none := by rw [hrc]
       rw [hpe] at hend
       exact ⟨none, _, hend, hdone D xs _ (Nat.le_refl _) hS (hput hi (by omega) hl rfl) ((World.putObj_heap_other (by omega)).trans hk)⟩
     · have hend := run_endLoop (P := P) hl (by rw [hrc]; simp)
       have hpe : (rc LoopState.done (some .ret)).pending = some .ret := by rw [hrc]
       rw [hpe] at hend
       exact ⟨some .ret, _, hend, hstop D pre _ (Nat.le_refl _) hSp (hIx _ _ _ _ _ hi (by omega) hl rfl) ((World.putObj_heap_other (by omega)).trans hk)⟩
   · rintro pre x W ⟨hi, hl, hk⟩ hlen
     have hy := run_yield (P := P) (args := encs x) hl (by rw [hrc]; exact hps x)
     rw [hrc] at hy
     refine ⟨fn, _, assign, body, hy, roundIn_of_wpIn hfn (hassign (D + 1) pre x W _ (by omega) hi fun a' Wa ka sa ia xa => ?_)⟩
     clear hy
     have hl1 := hgrow ka (by omega) hl rfl
     have hk1 := hgrow ka (Nat.le_refl _) hk rfl
     have hlt : D + 1 < Wa.heap.size := (Array.getElem?_eq_some_iff.1 hl1).1
     refine ⟨_, run_beginRound hl1 (by rw [hrc]), ?_⟩
     obtain ⟨Wb, hWb⟩ : ∃ Wb, Wa.putObj (D + 1) (.loop { rc .ready none with state := .busy }) = Wb := ⟨_, rfl⟩
     have hl2 : Wb.heap[D + 1]? = some (.loop { rc .ready none with state := .busy }) := by rw [← hWb]; exact World.putObj_heap_same hlt
     have hk2 : Wb.heap[D]? = some (.deferred (some [])) := by rw [← hWb]; exact (World.putObj_heap_other (by omega)).trans hk1
     have s2 : Kp D Bo Bw W Wb := sa.trans (by rw [← hWb]; exact Kp.putObj _ _ (by omega) hl1 rfl)
     have ib : I pre Wb := by rw [← hWb]; exact hput ia (by omega) hl1 rfl
     have xb : Ax x a' Wb := by rw [← hWb]; exact hAx _ _ _ _ _ _ xa hl1 rfl
     rw [hWb]
     refine wpIn_mono (hbody (D + 1) pre x a' Wb (by omega) hlen ib xb) fun e a3 W3 hp => ?_
     match e, hp with
     | .normal, ⟨k3, s3, i3⟩ =>
      have hl3 := hgrow k3 (by omega) hl2 rfl
      have he := run_endRound (P := P) none hl3
      refine ⟨_, W3.putObj (D + 1) (.loop (rc .ready none)), by rw [he, hrc]; rfl, .inl ⟨rfl, ⟨hput i3 (by omega) hl3 rfl, World.putObj_heap_same (Array.getElem?_eq_some_iff.1 hl3).1, (World.putObj_heap_other (by omega)).trans (hgrow k3 (Nat.le_refl _) hk2 rfl)⟩, ?_⟩⟩
      rw [hD]
      exact (s2.trans s3).trans (Kp.putObj _ _ (by omega) hl3 rfl)
     | .ret, ⟨k3, i3⟩ =>
      have hl3 := hgrow k3 (by omega) hl2 rfl
      have he := run_endRound (P := P) (some .ret) hl3
      exact ⟨_, W3.putObj (D + 1) (.loop (rc .done (some .ret))), by rw [he, hrc]; rfl, .inr ⟨rfl, hIx _ _ _ _ _ i3 (by omega) hl3 rfl, World.putObj_heap_same (Array.getElem?_eq_some_iff.1 hl3).1, (World.putObj_heap_other (by omega)).trans (hgrow k3 (Nat.le_refl _) hk2 rfl)⟩⟩
end Go.Proofs.YtkfodkbgmpbmfaaGreat.Bg
