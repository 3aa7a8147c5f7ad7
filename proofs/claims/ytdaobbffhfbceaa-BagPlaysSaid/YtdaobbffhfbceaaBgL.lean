/- Chapter 6, plain: datagrams, links, a bag's state, and what each call makes of it. -/
import Derived.Test.YtdaobbffhfbceaaRow
namespace Go.Proofs.Ytdaobbffhfbceaa
open Go.RowKit
set_option linter.unusedVariables false
theorem add_z (p : Addr) : p.add 0 = p := by unfold Addr.add; split <;> simp_all
theorem add_next (a : Addr) (i : Nat) : a.add (i + 1) = ⟨a.block, a.off + (i + 1), none⟩ := by simp [Addr.add]
structure Dg where
  num : Int
  frm : Int
  dst : Int
  body : ByteArray
def Dg0 : Dg := ⟨0, 0, 0, ⟨#[]⟩⟩
def encD (d : Dg) : List Value := [.int .i64 d.num, .int .i64 d.frm, .int .i64 d.dst, .string d.body]
abbrev LK := Int × Int
def encL (x : LK) : List Value := [.int .i64 x.1, .int .i64 x.2]
theorem encD_len (d : Dg) : (encD d).length = 4 := rfl
theorem encL_len (d : LK) : (encL d).length = 2 := rfl
theorem encD_one (d : Dg) : ∀ u ∈ encD d, u.oneCell' = true := by
  intro u hu
  simp only [encD, List.mem_cons, List.not_mem_nil, or_false] at hu
  rcases hu with rfl | rfl | rfl | rfl <;> rfl
theorem encL_one (d : LK) : ∀ u ∈ encL d, u.oneCell' = true := by
  intro u hu
  simp only [encL, List.mem_cons, List.not_mem_nil, or_false] at hu
  rcases hu with rfl | rfl <;> rfl
abbrev dAgg (d : Dg) : Value := .agg #[.int .i64 d.num, .int .i64 d.frm, .int .i64 d.dst, .string d.body]
abbrev lAgg (x : LK) : Value := .agg #[.int .i64 x.1, .int .i64 x.2]
def i64B (x : Int) : Prop := -9223372036854775808 ≤ x ∧ x < 9223372036854775808
def lnk (a b : Int) : LK := (min a b, max a b)
theorem lnk_comm (a b : Int) : lnk a b = lnk b a := by unfold lnk; rw [Int.min_comm, Int.max_comm]
theorem lnk_lt {a b : Int} (h : a ≠ b) : (lnk a b).1 < (lnk a b).2 := by unfold lnk; simp only []; omega
theorem lnk_eq {a b c d : Int} (hcd : c ≠ d) : lnk a b = lnk c d ↔ (a = c ∧ b = d) ∨ (a = d ∧ b = c) := by
  unfold lnk
  rw [Prod.mk.injEq]
  omega
def ltL (x y : LK) : Bool := decide (x.1 < y.1) || (decide (x.1 = y.1) && decide (x.2 < y.2))
theorem ltL_irrefl (x : LK) : ltL x x = false := by unfold ltL; simp
theorem ltL_trans {x y z : LK} (h : ltL x y = true) (k : ltL y z = true) : ltL x z = true := by
  unfold ltL at *
  simp only [Bool.or_eq_true, Bool.and_eq_true, decide_eq_true_eq] at *
  omega
theorem ltL_total {x y : LK} (h : ltL x y = false) (k : ltL y x = false) : x = y := by
  unfold ltL at *
  simp only [Bool.or_eq_false_iff, Bool.and_eq_false_iff, decide_eq_false_iff_not] at *
  obtain ⟨a, b⟩ := x
  obtain ⟨c, d⟩ := y
  simp only [Prod.mk.injEq] at *
  omega
def RiseL (l : List LK) : Prop := l.Pairwise (fun x y => ltL x y = true)
theorem RiseL.nodup {l : List LK} (h : RiseL l) : l.Nodup := by
  refine List.Pairwise.imp ?_ h
  intro a b hab e
  subst e
  rw [ltL_irrefl] at hab
  cases hab
/-- Two rising lists with the same members are one. -/
theorem rise_ext : ∀ {l m : List LK}, RiseL l → RiseL m → (∀ x, x ∈ l ↔ x ∈ m) → l = m
  | [], [], _, _, _ => rfl
  | [], y :: m, _, _, h => absurd ((h y).2 (by simp)) (by simp)
  | x :: l, [], _, _, h => absurd ((h x).1 (by simp)) (by simp)
  | x :: l, y :: m, hl, hm, h => by
    obtain ⟨h1, h2⟩ := List.pairwise_cons.1 hl
    obtain ⟨k1, k2⟩ := List.pairwise_cons.1 hm
    have e : x = y := by
      rcases List.mem_cons.1 ((h x).1 (by simp)) with e | hx
      · exact e
      · rcases List.mem_cons.1 ((h y).2 (by simp)) with e | hy
        · exact e.symm
        · have a := k1 x hx
          have b := h1 y hy
          have := ltL_trans a b
          rw [ltL_irrefl] at this
          cases this
    subst e
    have hh : ∀ z, z ∈ l ↔ z ∈ m := fun z => by
      constructor
      · intro hz
        rcases List.mem_cons.1 ((h z).1 (List.mem_cons_of_mem _ hz)) with e | hm'
        · subst e
          have := h1 z hz
          rw [ltL_irrefl] at this
          cases this
        · exact hm'
      · intro hz
        rcases List.mem_cons.1 ((h z).2 (List.mem_cons_of_mem _ hz)) with e | hm'
        · subst e
          have := k1 z hz
          rw [ltL_irrefl] at this
          cases this
        · exact hm'
    rw [rise_ext h2 k2 hh]
structure BS where
  nx : Int
  ls : List Dg
  sv : List LK
def BS0 : BS := ⟨0, [], []⟩
def sevB (s : BS) (a b : Int) : Bool := s.sv.any (fun x => x == lnk a b)
def insL (x : LK) (l : List LK) : List LK := l.takeWhile (fun y => ltL y x) ++ x :: l.dropWhile (fun y => ltL y x)
def delL (x : LK) (l : List LK) : List LK := l.filter (fun y => !(y == x))
def putS (s : BS) (a b : Int) (t : ByteArray) : BS × Int × Int :=
  if sevB s a b then (s, 0, 34) else if 65536 ≤ s.ls.length ∨ 4611686018427387904 ≤ s.nx then (s, 0, 30) else (⟨s.nx + 1, s.ls ++ [⟨s.nx + 1, a, b, t⟩], s.sv⟩, s.nx + 1, 0)
def findN (l : List Dg) (k : Int) : Option Nat := l.findIdx? (fun d => d.num == k)
def takeS (s : BS) (k : Int) : BS × Dg × Int :=
  match findN s.ls k with
  | none => (s, Dg0, 31)
  | some i => (⟨s.nx, s.ls.eraseIdx i, s.sv⟩, (s.ls[i]?).getD Dg0, 0)
def doubS (s : BS) (k : Int) : BS × Int × Int :=
  match findN s.ls k with
  | none => (s, 0, 31)
  | some i => let d := (s.ls[i]?).getD Dg0; putS s d.frm d.dst d.body
def btwB (a b : Int) (d : Dg) : Bool := (a == -1 || d.frm == a) && (b == -1 || d.dst == b)
def btwS (s : BS) (a b : Int) : List Int := (s.ls.filter (btwB a b)).map Dg.num
def cutB (a b : Int) (d : Dg) : Bool := (d.frm == a && d.dst == b) || (d.frm == b && d.dst == a)
def svS (s : BS) (a b : Int) : List LK := if sevB s a b then s.sv else insL (lnk a b) s.sv
def sevS (s : BS) (a b : Int) : BS × Int :=
  if a = b then (s, 0) else (⟨s.nx, s.ls.filter (fun d => !cutB a b d), svS s a b⟩, (s.ls.length : Int) - (s.ls.filter (fun d => !cutB a b d)).length)
def mendS (s : BS) (a b : Int) : BS × Bool := if sevB s a b then (⟨s.nx, s.ls, delL (lnk a b) s.sv⟩, true) else (s, false)
def forS (s : BS) (b : Int) : BS × Int := (⟨s.nx, s.ls.filter (fun d => !(d.dst == b)), s.sv⟩, (s.ls.length : Int) - (s.ls.filter (fun d => !(d.dst == b))).length)
theorem sevB_iff {s : BS} {a b : Int} : sevB s a b = true ↔ lnk a b ∈ s.sv := by
  unfold sevB
  rw [List.any_eq_true]
  constructor
  · rintro ⟨x, hx, e⟩
    rw [beq_iff_eq] at e
    exact e ▸ hx
  · intro h
    exact ⟨_, h, by simp⟩
theorem tw_lt {x : LK} : ∀ {l : List LK}, ∀ y ∈ l.takeWhile (fun y => ltL y x), ltL y x = true
  | [], y, h => by cases h
  | z :: l, y, h => by
    by_cases hz : ltL z x = true
    · rw [List.takeWhile_cons_of_pos (p := fun y => ltL y x) hz] at h
      rcases List.mem_cons.1 h with rfl | h
      · exact hz
      · exact tw_lt y h
    · rw [List.takeWhile_cons_of_neg (p := fun y => ltL y x) hz] at h
      cases h
theorem dw_ge {x : LK} : ∀ {l : List LK}, RiseL l → ∀ y ∈ l.dropWhile (fun y => ltL y x), ltL y x = false
  | [], _, y, h => by cases h
  | z :: l, hl, y, h => by
    obtain ⟨h1, h2⟩ := List.pairwise_cons.1 hl
    by_cases hz : ltL z x = true
    · rw [List.dropWhile_cons_of_pos (p := fun y => ltL y x) hz] at h
      exact dw_ge h2 y h
    · rw [List.dropWhile_cons_of_neg (p := fun y => ltL y x) hz] at h
      rcases List.mem_cons.1 h with rfl | h
      · simpa using hz
      · cases hy : ltL y x with
        | false => rfl
        | true => exact absurd (ltL_trans (h1 y h) hy) hz
theorem insL_mem {x y : LK} {l : List LK} : y ∈ insL x l ↔ y = x ∨ y ∈ l := by
  unfold insL
  rw [List.mem_append, List.mem_cons]
  have e : y ∈ l ↔ y ∈ l.takeWhile (fun y => ltL y x) ∨ y ∈ l.dropWhile (fun y => ltL y x) := by
    rw [← List.mem_append, List.takeWhile_append_dropWhile]
  rw [e]
  constructor
  · rintro (h | h | h)
    · exact .inr (.inl h)
    · exact .inl h
    · exact .inr (.inr h)
  · rintro (h | h | h)
    · exact .inr (.inl h)
    · exact .inl h
    · exact .inr (.inr h)
theorem insL_rise {x : LK} {l : List LK} (hl : RiseL l) (hn : x ∉ l) : RiseL (insL x l) := by
  unfold insL RiseL
  have hd : ∀ y ∈ l.dropWhile (fun y => ltL y x), ltL x y = true := fun y hy => by
    have h1 := dw_ge hl y hy
    cases h2 : ltL x y with
    | true => rfl
    | false =>
      have := ltL_total h1 h2
      subst this
      exact absurd ((List.dropWhile_sublist _).subset hy) hn
  rw [List.pairwise_append]
  refine ⟨hl.sublist (List.takeWhile_sublist _), List.pairwise_cons.2 ⟨hd, hl.sublist (List.dropWhile_sublist _)⟩, fun a ha b hb => ?_⟩
  have h1 := tw_lt a ha
  rcases List.mem_cons.1 hb with rfl | hb
  · exact h1
  · exact ltL_trans h1 (hd b hb)
theorem insL_len (x : LK) (l : List LK) : (insL x l).length = l.length + 1 := by
  unfold insL
  have := congrArg List.length (List.takeWhile_append_dropWhile (p := fun y => ltL y x) (l := l))
  rw [List.length_append] at this ⊢
  rw [List.length_cons]
  omega
theorem delL_mem {x y : LK} {l : List LK} : y ∈ delL x l ↔ y ≠ x ∧ y ∈ l := by
  unfold delL
  rw [List.mem_filter]
  simp
  exact ⟨fun h => ⟨h.2, h.1⟩, fun h => ⟨h.2, h.1⟩⟩
theorem delL_rise {x : LK} {l : List LK} (hl : RiseL l) : RiseL (delL x l) := hl.sublist List.filter_sublist
def RiseD (l : List Dg) : Prop := l.Pairwise (fun x y => x.num < y.num)
/-- A state as the reference's Fit has it. -/
structure FitS (s : BS) : Prop where
  nx0 : 0 ≤ s.nx
  nx1 : s.nx ≤ 4611686018427387904
  len : s.ls.length ≤ 65536
  num : ∀ d ∈ s.ls, 1 ≤ d.num ∧ d.num ≤ s.nx
  rise : RiseD s.ls
  lt : ∀ x ∈ s.sv, x.1 < x.2
  sv : RiseL s.sv
/-- What the calls need of a state. -/
structure OkS (s : BS) : Prop where
  nx0 : 0 ≤ s.nx
  nx1 : s.nx ≤ 4611686018427387904
  len : s.ls.length ≤ 65536
  sv : RiseL s.sv
  i64 : ∀ x ∈ s.sv, i64B x.1 ∧ i64B x.2
  nm : ∀ d ∈ s.ls, i64B d.num ∧ i64B d.frm ∧ i64B d.dst
theorem lnk_i64 {a b : Int} (ha : i64B a) (hb : i64B b) : i64B (lnk a b).1 ∧ i64B (lnk a b).2 := by
  unfold lnk i64B at *
  simp only []
  omega
theorem fitS0 : FitS BS0 := ⟨by decide, by decide, by decide, fun _ h => (by cases h), List.Pairwise.nil, fun _ h => (by cases h), List.Pairwise.nil⟩
theorem okS0 : OkS BS0 := ⟨by decide, by decide, by decide, List.Pairwise.nil, fun _ h => (by cases h), fun _ h => (by cases h)⟩
theorem findN_some {l : List Dg} {k : Int} {i : Nat} (h : findN l k = some i) : ∃ d, l[i]? = some d ∧ d.num = k ∧ ∀ j, j < i → ∀ e, l[j]? = some e → e.num ≠ k := by
  unfold findN at h
  rw [List.findIdx?_eq_some_iff_getElem] at h
  obtain ⟨h1, h2, h3⟩ := h
  refine ⟨l[i], List.getElem?_eq_getElem h1, by simpa using h2, fun j hj e he => ?_⟩
  obtain ⟨hj2, e2⟩ := List.getElem?_eq_some_iff.1 he
  have := h3 j hj
  rw [e2] at this
  simpa using this
theorem findN_none {l : List Dg} {k : Int} : findN l k = none ↔ ∀ d ∈ l, d.num ≠ k := by
  unfold findN
  rw [List.findIdx?_eq_none_iff]
  simp
theorem findN_at {l : List Dg} {k : Int} {i : Nat} {d : Dg} (h : l[i]? = some d) (hk : d.num = k) (hn : ∀ j, j < i → ∀ e, l[j]? = some e → e.num ≠ k) : findN l k = some i := by
  unfold findN
  rw [List.findIdx?_eq_some_iff_getElem]
  obtain ⟨h1, h2⟩ := List.getElem?_eq_some_iff.1 h
  refine ⟨h1, by rw [h2, hk]; simp, fun j hj => ?_⟩
  have := hn j hj _ (List.getElem?_eq_getElem (by omega))
  simpa using this
theorem putS_ok {s : BS} {a b : Int} {t : ByteArray} (h : OkS s) (ha : i64B a) (hb : i64B b) : OkS (putS s a b t).1 := by
  unfold putS
  split
  · exact h
  · split
    · exact h
    · rename_i h2
      have h0 := h.nx0
      refine ⟨by simp only []; omega, by simp only []; omega, by simp only [List.length_append, List.length_singleton]; omega, h.sv, h.i64, fun d hd => ?_⟩
      rcases List.mem_append.1 hd with hd | hd
      · exact h.nm d hd
      · rw [List.mem_singleton] at hd
        subst hd
        exact ⟨by unfold i64B; simp only []; omega, ha, hb⟩
theorem putS_fit {s : BS} {a b : Int} {t : ByteArray} (h : FitS s) : FitS (putS s a b t).1 := by
  unfold putS
  split
  · exact h
  · split
    · exact h
    · rename_i h2
      have h0 := h.nx0
      refine ⟨by simp only []; omega, by simp only []; omega, by simp only [List.length_append, List.length_singleton]; omega, fun d hd => ?_, ?_, h.lt, h.sv⟩
      · rcases List.mem_append.1 hd with hd | hd
        · have := h.num d hd
          simp only []
          omega
        · rw [List.mem_singleton] at hd
          subst hd
          simp only []
          omega
      · refine List.pairwise_append.2 ⟨h.rise, List.pairwise_singleton .., fun x hx y hy => ?_⟩
        rw [List.mem_singleton] at hy
        subst hy
        have := h.num x hx
        simp only []
        omega
theorem takeS_ok {s : BS} {k : Int} (h : OkS s) : OkS (takeS s k).1 := by
  unfold takeS
  split
  · exact h
  · have hs := List.eraseIdx_sublist s.ls
    exact ⟨h.nx0, h.nx1, Nat.le_trans (hs _).length_le h.len, h.sv, h.i64, fun d hd => h.nm d ((hs _).subset hd)⟩
theorem takeS_fit {s : BS} {k : Int} (h : FitS s) : FitS (takeS s k).1 := by
  unfold takeS
  split
  · exact h
  · have hs := List.eraseIdx_sublist s.ls
    exact ⟨h.nx0, h.nx1, Nat.le_trans (hs _).length_le h.len, fun d hd => h.num d ((hs _).subset hd), h.rise.sublist (hs _), h.lt, h.sv⟩
theorem doubS_ok {s : BS} {k : Int} (h : OkS s) : OkS (doubS s k).1 := by
  unfold doubS
  split
  · exact h
  · rename_i i hi
    obtain ⟨d, hd, _⟩ := findN_some hi
    rw [hd]
    have := h.nm d (List.mem_of_getElem? hd)
    exact putS_ok h this.2.1 this.2.2
theorem doubS_fit {s : BS} {k : Int} (h : FitS s) : FitS (doubS s k).1 := by
  unfold doubS
  split
  · exact h
  · exact putS_fit h
theorem svS_mem {s : BS} {a b : Int} {x : LK} : x ∈ svS s a b ↔ x = lnk a b ∨ x ∈ s.sv := by
  unfold svS
  split
  · rename_i h
    rw [sevB_iff] at h
    constructor
    · exact .inr
    · rintro (rfl | hx)
      · exact h
      · exact hx
  · exact insL_mem
theorem svS_rise {s : BS} {a b : Int} (h : RiseL s.sv) : RiseL (svS s a b) := by
  unfold svS
  split
  · exact h
  · rename_i h2
    exact insL_rise h (fun hx => h2 (sevB_iff.2 hx))
theorem svS_len (s : BS) (a b : Int) : (svS s a b).length ≤ s.sv.length + 1 := by
  unfold svS
  split
  · omega
  · rw [insL_len]; omega
theorem sevS_ok {s : BS} {a b : Int} (h : OkS s) (ha : i64B a) (hb : i64B b) : OkS (sevS s a b).1 := by
  unfold sevS
  split
  · exact h
  · refine ⟨h.nx0, h.nx1, Nat.le_trans List.filter_sublist.length_le h.len, svS_rise h.sv, fun x hx => ?_, fun d hd => h.nm d (List.mem_filter.1 hd).1⟩
    rcases svS_mem.1 hx with rfl | hx
    · exact lnk_i64 ha hb
    · exact h.i64 x hx
theorem sevS_fit {s : BS} {a b : Int} (h : FitS s) : FitS (sevS s a b).1 := by
  unfold sevS
  split
  · exact h
  · rename_i hab
    refine ⟨h.nx0, h.nx1, Nat.le_trans List.filter_sublist.length_le h.len, fun d hd => h.num d (List.mem_filter.1 hd).1, h.rise.sublist List.filter_sublist, fun x hx => ?_, svS_rise h.sv⟩
    rcases svS_mem.1 hx with rfl | hx
    · exact lnk_lt hab
    · exact h.lt x hx
theorem mendS_ok {s : BS} {a b : Int} (h : OkS s) : OkS (mendS s a b).1 := by
  unfold mendS
  split
  · exact ⟨h.nx0, h.nx1, h.len, delL_rise h.sv, fun x hx => h.i64 x (delL_mem.1 hx).2, h.nm⟩
  · exact h
theorem mendS_fit {s : BS} {a b : Int} (h : FitS s) : FitS (mendS s a b).1 := by
  unfold mendS
  split
  · exact ⟨h.nx0, h.nx1, h.len, h.num, h.rise, fun x hx => h.lt x (delL_mem.1 hx).2, delL_rise h.sv⟩
  · exact h
theorem forS_ok {s : BS} {b : Int} (h : OkS s) : OkS (forS s b).1 :=
  ⟨h.nx0, h.nx1, Nat.le_trans List.filter_sublist.length_le h.len, h.sv, h.i64, fun d hd => h.nm d (List.mem_filter.1 hd).1⟩
theorem forS_fit {s : BS} {b : Int} (h : FitS s) : FitS (forS s b).1 :=
  ⟨h.nx0, h.nx1, Nat.le_trans List.filter_sublist.length_le h.len, fun d hd => h.num d (List.mem_filter.1 hd).1, h.rise.sublist List.filter_sublist, h.lt, h.sv⟩
end Go.Proofs.Ytdaobbffhfbceaa
