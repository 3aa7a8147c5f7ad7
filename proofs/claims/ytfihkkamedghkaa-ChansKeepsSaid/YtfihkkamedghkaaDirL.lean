/- dir.Learn: what the call computes, for every argument. -/
import Derived.Test.YtfihkkamedghkaaDirP
import Derived.Test.YtfihkkamedghkaaQuietI
import Derived.Test.YtfihkkamedghkaaDirC
import Derived.Maps.AppendAt
namespace Go.Proofs.Ytfihkkamedghkaa
open Go.RowKit Go.Shelf
set_option linter.unusedVariables false
attribute [local go_sem] Oper.semAt_some
def stepL (st : List Ch × Int) (x : Option Ch × Option Ch) : List Ch × Int := match x with
  | (none, some b) => (st.1 ++ [b], st.2)
  | (some a, none) => (st.1 ++ [a], st.2)
  | (some a, some b) => if stampB b.ep b.who a.ep a.who then (st.1 ++ [b], 3) else if stampB a.ep a.who b.ep b.who then (st.1 ++ [a], 1) else (st.1 ++ [a], 2)
  | (none, none) => st
def foldL (xs : List (Option Ch × Option Ch)) : List Ch × Int := xs.foldl stepL ([], 4)
/-- What Learn computes. -/
def learnT (ls : List Ch) (c : Ch) : List Ch × Int := if (foldL (pairs1 c ls true)).2 = 4 ∧ 8 ≤ ls.length then (ls, 5) else foldL (pairs1 c ls true)
theorem learnT_full {ls : List Ch} {c : Ch} (h : (foldL (pairs1 c ls true)).2 = 4) (h2 : 8 ≤ ls.length) : learnT ls c = (ls, 5) := if_pos ⟨h, h2⟩
theorem learnT_else {ls : List Ch} {c : Ch} {ol : List Ch} {wh : Int} (h1 : (foldL (pairs1 c ls true)).1 = ol) (h : (foldL (pairs1 c ls true)).2 = wh) (h2 : ¬ (wh = 4 ∧ 8 ≤ ls.length)) : learnT ls c = (ol, wh) := by
  unfold learnT
  rw [h, if_neg h2]
  exact Prod.ext h1 h
theorem foldL_snoc (xs : List (Option Ch × Option Ch)) (x : Option Ch × Option Ch) : foldL (xs ++ [x]) = stepL (foldL xs) x := by
  unfold foldL
  rw [List.foldl_append]
  rfl
theorem foldL_len : ∀ xs, (foldL xs).1.length ≤ xs.length := by
  intro xs
  have : ∀ (ys : List (Option Ch × Option Ch)) (st : List Ch × Int), (ys.foldl stepL st).1.length ≤ st.1.length + ys.length := by
    intro ys
    induction ys with
    | nil => intro st; simp
    | cons y ys ih =>
      intro st
      simp only [List.foldl_cons, List.length_cons]
      have h1 := ih (stepL st y)
      have h2 : (stepL st y).1.length ≤ st.1.length + 1 := by
        unfold stepL
        split
        · simp
        · simp
        · split
          · simp
          · split <;> simp
        · omega
      omega
  have := this xs ([], 4)
  simpa [foldL] using this
theorem cells_new (W : World) (c : Ch) : ∀ (j : Nat) (u : Value), (chV c)[j]? = some u → (W.alloc (Obj.cells #[.string c.name, .int .i64 c.ep, .int .i64 c.who, .bool c.al, .int .i64 c.kd, .int .i64 c.sc] 38)).cell? ((⟨W.heap.size, 0, none⟩ : Addr).add j) = some u := by
  intro j u hu
  have hj : j < 6 := by have := (List.getElem?_eq_some_iff.1 hu).1; simpa [chV] using this
  rw [Addr.add_lit]
  match j, hj with
  | 0, _ | 1, _ | 2, _ | 3, _ | 4, _ | 5, _ => simp [chV] at hu; subst hu; go_simp
theorem row_grown {W w1 : World} {base : Nat} {e : TypeId} {size : Nat} {v : Value} {n : Nat} {xs : List Value} (h : W.ownsRow base e size v n xs) (hg : W.grownBy w1 v.ownBlock) (hb : base ≤ W.heap.size) : Below base W w1 ∧ KeepsOthers W w1 := by
  refine ⟨(Below.refl base W).grown hg hb fun j ej => ?_, KeepsOthers.of_grownBy hg fun j o ej hj => ?_⟩
  · rcases h.2 with ⟨rfl, _⟩ | ⟨g, cap, cur, rfl, hb, _⟩
    · simp [Value.ownBlock] at ej
    · obtain rfl : g = j := by simpa [Value.ownBlock] using ej
      exact hb
  · rcases h.2 with ⟨rfl, _⟩ | ⟨g, cap, cur, rfl, _, hgb, _⟩
    · simp [Value.ownBlock] at ej
    · obtain rfl : g = j := by simpa [Value.ownBlock] using ej
      rw [hgb] at hj; cases hj; rfl
set_option maxHeartbeats 1000000 in
theorem pairs_in (n : Nat) (A : Option Addr) (k cp : Nat) (B : Option Addr) (k2 cp2 : Nat) (w : World) :
    CallsIn Fence.wide n Try.prog 87 #[.slice A k cp, .slice B k2 cp2] w fun e w' => e = .returned (.func (.func 104) #[] #[.pointer (some ⟨w.heap.size + 1, 0, none⟩), .pointer (some ⟨w.heap.size, 0, none⟩)]) ∧ w' = (w.alloc (.cells #[.slice A k cp] 46)).alloc (.cells #[.slice B k2 cp2] 46) := by
  refine callsIn_of_wp Try.func87 rfl trivial ?_ rfl
  simp only [Try.ntmps87, List.size_toArray, List.length_cons, List.length_nil, Nat.reduceAdd, Nat.reduceSub, Array.replicate_succ, Array.replicate_zero, List.push_toArray, List.append_toArray, List.nil_append, List.cons_append]
  gi_wp2
  go_ret
  exact ⟨rfl, rfl⟩
theorem step_append_in {ops : Array Oper} {o : Oper} {a : Act} {w : World} {K : Act → World → Prop} {Q : Exit → Act → World → Prop} {E : Prop} {lp n : Nat}
    (hg : o.guard = none) (s x : Operand) (t : TypeId) (hop : o.op = Op.call { callee := Callee.builtin Builtin.append, args := #[s, x], argTypes := #[t, t] })
    (base : Nat) (e : TypeId) (i : TypeInfo) (z : Value) (size bytes : Nat) (h1 : Try.prog.underlying t = some (.slice e)) (h2 : Try.prog.info? e = some i) (h3 : i.zero = some z) (h4 : i.size = size) (h5 : i.bytes = bytes) (h6 : z.cells.size = size) (h7 : 0 < size)
    (v : Value) (k : Nat) (xs : List Value) (hs : a.eval s = v) (hown : w.ownsRow base e size v k xs) (ad : Addr) (m c : Nat) (news : List Value) (hx : a.eval x = .slice (some ad) m c) (hn : news.length = m * size)
    (hc : ∀ j u, news[j]? = some u → w.cell? (ad.add j) = some u) (h1c : ∀ u ∈ news, u.oneCell' = true) (b1 : k + m ≤ maxLen) (b2 : (k + m) * bytes ≤ 140737488355328) (b3 : base ≤ w.heap.size)
    (hK : ∀ v' w', w'.ownsRow base e size v' (k + m) (xs ++ news) → w.grownBy w' v.ownBlock → (v'.ownBlock = v.ownBlock ∨ v'.ownBlock = some w.heap.size) → K (a.put o.dst v') w') :
    if Region.wanted o (yielded ops a.tmps) = true then Oper.wpIn (Fence.wide.inRound lp) n Try.prog o a w K Q else E := by
  have hw : Region.wanted o (yielded ops a.tmps) = true := by simp [Region.wanted, hg]
  rw [if_pos hw]
  obtain ⟨v', w', hrun, r1, r2, r3, r4⟩ := run_append_own_at (P := Try.prog) w base t o.type e i z size bytes h1 h2 h3 h4 h5 h6 h7 v k xs hown ad m c news hn hc h1c b1 b2 b3
  refine ⟨fun _ _ => trivial, ?_⟩
  rw [Oper.semAt_eq _ _ _ (by rw [hop]; intro c hc'; cases hc')]
  simp [execOp, hop, resolve, invoke, builtin, hs, hx, hrun, Result.andThen]
  exact hK v' w' r1 r2 r4
def learnA (A : Option Addr) (n cp : Nat) (s : ByteArray) (e m : Int) (al : Bool) (k0 sc : Int) (B : Nat) (x : PtrE) : Act :=
  { tmps := #[.slice A n cp, .agg #[.string s, .int .i64 e, .int .i64 m, .bool al, .int .i64 k0, .int .i64 sc], undef, .pointer (some ⟨B, 0, none⟩), .slice none 0 0, .int .i64 0, .pointer (some ⟨B + 1, 0, none⟩), .pointer (some ⟨B + 1 + 1, 0, none⟩), ptrV x.1, ptrV x.2, .slice A n cp, .agg #[.string s, .int .i64 e, .int .i64 m, .bool al, .int .i64 k0, .int .i64 sc], .slice (some ⟨B + 1 + 1 + 1, 0, none⟩) 1 1, .func (.func 104) #[] #[.pointer (some ⟨B + 1 + 1 + 1 + 1 + 1, 0, none⟩), .pointer (some ⟨B + 1 + 1 + 1 + 1, 0, none⟩)], ptrV x.1, ptrV x.2, undef, undef, undef, undef, undef, undef, undef, undef, undef, undef, undef, undef, undef, undef, undef, undef, undef, undef, undef, undef, undef, undef, undef, undef, undef, undef, undef, undef, undef, undef, undef, undef, undef, undef, undef, undef, undef, undef, undef, undef, undef, undef, undef, undef, undef, undef, undef, undef, undef, undef, undef, undef, undef, undef], defers := [] }
/-- Between two rounds of Learn. -/
def LrnI (w : World) (D : Nat) (xs : List PtrE) (W : World) : Prop :=
  Below w.heap.size w W ∧ D ≤ W.heap.size ∧ ∃ lv, W.cell? ⟨w.heap.size + 1, 0, none⟩ = some lv ∧ W.frozen? ⟨w.heap.size + 1, 0, none⟩ = false ∧ W.ownsRow D 38 6 lv (foldL (xs.map projP)).1.length (flatC (foldL (xs.map projP)).1) ∧
    W.cell? ⟨w.heap.size + 2, 0, none⟩ = some (.int .i64 (foldL (xs.map projP)).2) ∧ W.frozen? ⟨w.heap.size + 2, 0, none⟩ = false
theorem LrnI.row {w : World} {D : Nat} {xs : List PtrE} {W : World} (h : LrnI w D xs W) : D ≤ W.heap.size ∧ ∀ r, rowB (w.heap.size + 1) W = some r → D ≤ r ∧ (∃ o, W.heap[r]? = some o ∧ o.isCells = true) := by
  obtain ⟨_, h1, lv, h2, _, h3, _⟩ := h
  refine ⟨h1, fun r hr => ?_⟩
  unfold rowB at hr
  rw [h2] at hr
  rcases h3.2 with ⟨rfl, _⟩ | ⟨g, cap, cur, rfl, hb, hg, _⟩
  · simp [Value.ownBlock] at hr
  · obtain rfl : g = r := by simpa [Value.ownBlock] using hr
    exact ⟨hb, _, hg, rfl⟩
theorem LrnI.fr {w : World} {D : Nat} {xs : List PtrE} {A C : World} (hD : w.heap.size + 2 < D) (h : LrnI w D xs A) (hf : FrI D (w.heap.size + 1) A C) : LrnI w D xs C := by
  obtain ⟨h0, h1, lv, h2, h3, h4, h5, h6⟩ := h
  obtain ⟨f1, f2, f3⟩ := hf
  have e1 := f2 (w.heap.size + 1) (by omega) (.inl (by omega))
  have e2 := f2 (w.heap.size + 2) (by omega) (.inl (by omega))
  refine ⟨h0.trans ⟨f3.1, f3.2.1, f3.2.2, f1, fun k hk => f2 k (Nat.lt_of_lt_of_le hk h0.size) (.inl (by omega))⟩, Nat.le_trans h1 f1, lv, (heap_cell (p := ⟨w.heap.size + 1, 0, none⟩) e1).1.trans h2, (heap_cell (p := ⟨w.heap.size + 1, 0, none⟩) e1).2.trans h3, ⟨h4.1, ?_⟩, (heap_cell (p := ⟨w.heap.size + 2, 0, none⟩) e2).1.trans h5, (heap_cell (p := ⟨w.heap.size + 2, 0, none⟩) e2).2.trans h6⟩
  rcases h4.2 with hn | ⟨g, cap, cur, rfl, hb, hg, rest⟩
  · exact .inl hn
  · refine .inr ⟨g, cap, cur, rfl, hb, (f2 g (Array.getElem?_eq_some_iff.1 hg).1 (.inr ?_)).trans hg, rest⟩
    unfold rowB
    rw [h2]
    rfl
theorem PtP.kept {x : PtrE} {A C : World} (h : PtP x A) (hk : ∀ (b : Nat) (o : Obj), A.heap[b]? = some o → o.isCells = true → C.heap[b]? = some o) : PtP x C := by
  have hc : ∀ p c, cells6 A p c → cells6 C p c := fun p c hc => by
    refine heap_cells6 ?_ hc
    have h1 := hc.1
    unfold World.cell? at h1
    cases ho : A.heap[p.block]? with
    | none => rw [ho] at h1; cases h1
    | some o =>
      rw [ho] at h1
      exact hk _ o ho (by cases o <;> simp_all [Obj.isCells])
  exact ⟨fun p c e => hc p c (h.1 p c e), fun p c e => hc p c (h.2.1 p c e), h.2.2⟩
theorem keeps_of_below {W W' : World} {B : Nat} (hb : Below B W W') (h : W.heap.size ≤ B) : KeepsOthers W W' :=
  ⟨hb.size, fun k o hk _ => (hb.block k (Nat.lt_of_lt_of_le (Array.getElem?_eq_some_iff.1 hk).1 h)).trans hk⟩
theorem layIn {F : Fence} {n : Nat} {P : Program} {c : Code} {Q : Exit → Act → World → Prop} {a : Act} {W : World} (C : World → Prop) (hC : C W) (h : ∀ W', C W' → c.wpIn F n P Q a W') : c.wpIn F n P Q a W := h W hC
/-- Behind the store of what was learnt. -/
def Told (w W : World) (D : Nat) (A2 : Option Addr) (cp2 : Nat) (OL : List Ch) (wh : Int) (r : Addr) (x : Ch) (W' : World) : Prop :=
  KeepsFrom D W W' ∧ Kp D (w.heap.size + 1) (w.heap.size + 2) W W' ∧ Below w.heap.size w W' ∧ D ≤ W'.heap.size ∧ W'.cell? ⟨w.heap.size + 1, 0, none⟩ = some (.slice A2 OL.length cp2) ∧ W'.frozen? ⟨w.heap.size + 1, 0, none⟩ = false ∧
  W'.cell? ⟨w.heap.size + 2, 0, none⟩ = some (.int .i64 wh) ∧ W'.frozen? ⟨w.heap.size + 2, 0, none⟩ = false ∧ W'.ownsRow D 38 6 (.slice A2 OL.length cp2) OL.length (flatC OL) ∧ cells6 W' r x
theorem told_set {w W w1 : World} {D : Nat} {OL : List Ch} {WH wh : Int} {A2 : Option Addr} {cp2 : Nat} {r : Addr} {x : Ch} (hDe : D = w.heap.size + 6) (hb0 : Below w.heap.size w W) (hD : D ≤ W.heap.size) (i1 : W.cell? ⟨w.heap.size + 1, 0, none⟩ = some (.slice A2 OL.length cp2)) (i2 : W.frozen? ⟨w.heap.size + 1, 0, none⟩ = false)
    (i3 : W.cell? ⟨w.heap.size + 2, 0, none⟩ = some (.int .i64 WH)) (i4 : W.frozen? ⟨w.heap.size + 2, 0, none⟩ = false) (hrow : W.ownsRow D 38 6 (.slice A2 OL.length cp2) OL.length (flatC OL)) (hb : Below W.heap.size W w1) (hx : cells6 W r x) :
    Told w W D A2 cp2 OL wh r x (w1.setCell ⟨w.heap.size + 2, 0, none⟩ (.int .i64 wh)) := by
  have hset : ∀ b, b ≠ w.heap.size + 2 → (w1.setCell ⟨w.heap.size + 2, 0, none⟩ (.int .i64 wh)).heap[b]? = w1.heap[b]? := by
    intro b hb
    unfold World.setCell
    split <;> simp [Array.getElem?_modify, Ne.symm hb]
  have hbo : (w1.setCell ⟨w.heap.size + 2, 0, none⟩ (.int .i64 wh)).heap[w.heap.size + 1]? = W.heap[w.heap.size + 1]? := (hset _ (by omega)).trans (hb.block _ (by omega))
  have i3' := (hb.cell (p := ⟨w.heap.size + 2, 0, none⟩) (cell_lt i3)).trans i3
  have i4' := (hb.frozen (p := ⟨w.heap.size + 2, 0, none⟩) (cell_lt i3)).trans i4
  have hc : ∀ (a : Addr) (v : Value), W.cell? a = some v → a ≠ ⟨w.heap.size + 2, 0, none⟩ → (w1.setCell ⟨w.heap.size + 2, 0, none⟩ (.int .i64 wh)).cell? a = some v := fun a v h hne =>
    (World.cell?_setCell_other _ _ _ _ (fun e => hne e.symm)).trans ((hb.cell (cell_lt h)).trans h)
  refine ⟨((keeps_of_below hb (Nat.le_refl _)).trans (KeepsOthers.setCell _ _ _)).from _, ⟨by rw [setCell_sz]; exact hb.size, .inl (rowB_same hbo), fun b o h1 h2 h3 ho hcl => ?_⟩, (hb0.trans (hb.mono hb0.size)).setCell (by show w.heap.size ≤ w.heap.size + 2; omega) _, by rw [setCell_sz]; exact Nat.le_trans hD hb.size,
    (heap_cell (p := ⟨w.heap.size + 1, 0, none⟩) hbo).1.trans i1, (heap_cell (p := ⟨w.heap.size + 1, 0, none⟩) hbo).2.trans i2, by go_simp, by rw [World.frozen?_setCell]; exact i4', ?_, ?_⟩
  · rw [hset b h2]
    exact (hb.block b (Array.getElem?_eq_some_iff.1 ho).1).trans ho
  · refine ⟨hrow.1, ?_⟩
    rcases hrow.2 with h1 | ⟨g, cap, cur, h1, h2, h3, h4⟩
    · exact .inl h1
    · exact .inr ⟨g, cap, cur, h1, h2, (hset g (by omega)).trans ((hb.block g (Array.getElem?_eq_some_iff.1 h3).1).trans h3), h4⟩
  · obtain ⟨a0, a1, a2, a3, a4, a5⟩ := hx
    refine ⟨hc _ _ a0 (fun e => ?_), hc _ _ a1 (fun e => ?_), hc _ _ a2 (fun e => ?_), hc _ _ a3 (fun e => ?_), hc _ _ a4 (fun e => ?_), hc _ _ a5 (fun e => ?_)⟩
    · rw [e, i3] at a0; cases a0
    all_goals (simp at e)
theorem stepL_next {pre : List PtrE} {x : PtrE} {OL : List Ch} {WH : Int} (h1 : (foldL (pre.map projP)).1 = OL) (h2 : (foldL (pre.map projP)).2 = WH) : foldL ((pre ++ [x]).map projP) = stepL (OL, WH) (projP x) := by
  rw [List.map_append, List.map_singleton, foldL_snoc, ← h1, ← h2]
/-- A round's append: what is asked behind it. -/
theorem round_app {w W w6 : World} {D g' cap' : Nat} {xs : List PtrE} {OL : List Ch} {c : Ch} {WH : Int} {A2 : Option Addr} {cp2 : Nat} {o : Obj} (hDe : D = w.heap.size + 6) (hb0 : Below w.heap.size w W) (hD : D ≤ W.heap.size) (i1 : W.cell? ⟨w.heap.size + 1, 0, none⟩ = some (.slice A2 OL.length cp2)) (i2 : W.frozen? ⟨w.heap.size + 1, 0, none⟩ = false)
    (i3 : W.cell? ⟨w.heap.size + 2, 0, none⟩ = some (.int .i64 WH)) (i4 : W.frozen? ⟨w.heap.size + 2, 0, none⟩ = false) (hrow : W.ownsRow D 38 6 (.slice A2 OL.length cp2) OL.length (flatC OL))
    (hown : w6.ownsRow D 38 6 (.slice (some ⟨g', 0, none⟩) (OL.length + 1) cap') (OL.length + 1) (flatC OL ++ chV c)) (hgrow : (W.alloc o).drew.grownBy w6 (Value.slice A2 OL.length cp2).ownBlock)
    (hat : (Value.slice (some ⟨g', 0, none⟩) (OL.length + 1) cap').ownBlock = (Value.slice A2 OL.length cp2).ownBlock ∨ (Value.slice (some ⟨g', 0, none⟩) (OL.length + 1) cap').ownBlock = some (W.alloc o).drew.heap.size)
    (hres : foldL (xs.map projP) = (OL ++ [c], WH)) :
    KeepsFrom D W (w6.setCell ⟨w.heap.size + 1, 0, none⟩ (.slice (some ⟨g', 0, none⟩) (OL.length + 1) cap')) ∧ Kp D (w.heap.size + 1) (w.heap.size + 2) W (w6.setCell ⟨w.heap.size + 1, 0, none⟩ (.slice (some ⟨g', 0, none⟩) (OL.length + 1) cap')) ∧ LrnI w D xs (w6.setCell ⟨w.heap.size + 1, 0, none⟩ (.slice (some ⟨g', 0, none⟩) (OL.length + 1) cap')) := by
  have hra : (W.alloc o).drew.ownsRow D 38 6 (.slice A2 OL.length cp2) OL.length (flatC OL) := hrow.alloc _
  have hsz : (W.alloc o).drew.heap.size = W.heap.size + 1 := World.size_alloc ..
  obtain ⟨hb6, hk6⟩ := row_grown hra hgrow (by omega)
  have hbo6 : w6.cell? ⟨w.heap.size + 1, 0, none⟩ = some (.slice A2 OL.length cp2) := (hb6.cell (p := ⟨w.heap.size + 1, 0, none⟩) (by show w.heap.size + 1 < D; omega)).trans ((World.cell?_alloc_lt W o _ (by show w.heap.size + 1 < _; omega)).trans i1)
  have hfo6 : w6.frozen? ⟨w.heap.size + 1, 0, none⟩ = false := (hb6.frozen (p := ⟨w.heap.size + 1, 0, none⟩) (by show w.heap.size + 1 < D; omega)).trans ((heap_cell (p := ⟨w.heap.size + 1, 0, none⟩) (A := W) (C := W.alloc o) (Below.heap_alloc _ _ _ (by show w.heap.size + 1 < _; omega))).2.trans i2)
  have hbw6 : w6.heap[w.heap.size + 2]? = W.heap[w.heap.size + 2]? := (hb6.block _ (by omega)).trans (Below.heap_alloc _ _ _ (by omega))
  have hset : ∀ b, b ≠ w.heap.size + 1 → (w6.setCell ⟨w.heap.size + 1, 0, none⟩ (.slice (some ⟨g', 0, none⟩) (OL.length + 1) cap')).heap[b]? = w6.heap[b]? := by
    intro b hb
    unfold World.setCell
    split <;> simp [Array.getElem?_modify, Ne.symm hb]
  have hco : (w6.setCell ⟨w.heap.size + 1, 0, none⟩ (.slice (some ⟨g', 0, none⟩) (OL.length + 1) cap')).cell? ⟨w.heap.size + 1, 0, none⟩ = some (.slice (some ⟨g', 0, none⟩) (OL.length + 1) cap') := by go_simp
  have hrb : rowB (w.heap.size + 1) W = (Value.slice A2 OL.length cp2).ownBlock := by unfold rowB; rw [i1]
  have hgs := hgrow.size
  refine ⟨(((KeepsOthers.alloc _ _).trans (KeepsOthers.drew _)).trans (hk6.trans (KeepsOthers.setCell _ _ _))).from _, ⟨by rw [setCell_sz]; omega, ?_, fun b ob hb1 hb2 hb3 ho hc => ?_⟩, ?_⟩
  · unfold rowB
    rw [hco]
    rcases hat with h | h
    · left
      rw [← hrb] at h
      exact h
    · exact .inr ⟨_, h, by omega⟩
  · rw [hset b hb1]
    have hbl := (Array.getElem?_eq_some_iff.1 ho).1
    refine (hgrow.block b (by omega) ?_).trans ((Below.heap_alloc _ _ _ hbl).trans ho)
    rw [← hrb]
    rcases hb3 with h | h
    · intro e
      rw [hrb] at e
      rcases hrow.2 with ⟨h1, _⟩ | ⟨g, cap, cur, h1, h2, _⟩
      · rw [h1] at e; simp [Value.ownBlock] at e
      · rw [h1] at e
        simp [Value.ownBlock] at e
        omega
    · exact fun e => h e.symm
  · unfold LrnI
    rw [hres]
    refine ⟨?_, by rw [setCell_sz]; omega, _, hco, by rw [World.frozen?_setCell]; exact hfo6, ?_, ?_, ?_⟩
    · refine ((hb0.alloc (by omega) o).drew.trans (hb6.mono (by omega))).setCell (by show w.heap.size ≤ w.heap.size + 1; omega) _
    · rw [flatC_snoc, List.length_append]
      refine ⟨hown.1, ?_⟩
      rcases hown.2 with ⟨h1, _⟩ | ⟨g, cap, cur, h1, h2, h3, h4⟩
      · cases h1
      · exact .inr ⟨g, cap, cur, h1, h2, (hset g (by omega)).trans h3, h4⟩
    · exact (heap_cell (p := ⟨w.heap.size + 2, 0, none⟩) ((hset _ (by show w.heap.size + 2 ≠ _; omega)).trans hbw6)).1.trans i3
    · exact (heap_cell (p := ⟨w.heap.size + 2, 0, none⟩) ((hset _ (by show w.heap.size + 2 ≠ _; omega)).trans hbw6)).2.trans i4
set_option maxRecDepth 100000 in
set_option maxHeartbeats 8000000 in
theorem learn_any (A : Option Addr) (n cp : Nat) (ls : List Ch) (s : ByteArray) (e m : Int) (al : Bool) (k0 sc : Int) (w : World) (hr : ChsAt w w.heap.size A n ls) (hm : n * 56 ≤ 140737488351232) :
    Calls Try.prog 56 #[.slice A n cp, .agg #[.string s, .int .i64 e, .int .i64 m, .bool al, .int .i64 k0, .int .i64 sc]] w fun x w' => ∃ lv, x = .returned (.tuple #[lv, .int .i64 (learnT ls ⟨s, e, m, al, k0, sc⟩).2]) ∧ OwnC w' w.heap.size lv (learnT ls ⟨s, e, m, al, k0, sc⟩).1 ∧ Below w.heap.size w w' := by
  have HR := Lib.hid hr
  clear hr
  refine (callsIn_wide (n := 6)).1 ?_
  refine callsIn_of_wp_marks Try.func56 rfl trivial ?_ rfl
  simp only [Try.ntmps56, List.size_toArray, List.length_cons, List.length_nil, Nat.reduceAdd, Nat.reduceSub, Array.replicate_succ, Array.replicate_zero, List.push_toArray, List.append_toArray, List.nil_append, List.cons_append]
  have hmx : Try.prog.follows .mixedOrders = true := by kernel_rfl
  obtain ⟨j0, hi0, hy0, hy1, hy2⟩ := info_parts chan_inf
  refine wpIn_wide.2 ?_
  go_wp2_with (fail)
  refine callsIn_wide.1 ((pairs_in 5 A n cp _ 1 1 _).mono ?_); rintro x w2 ⟨rfl, rfl⟩
  go_wp2
  have hw0 : Below w.heap.size w (((((((w.alloc (Obj.cells #[.string s, .int .i64 e, .int .i64 m, .bool al, .int .i64 k0, .int .i64 sc] 38)).alloc (Obj.cells #[.slice none 0 0] 46)).alloc (Obj.cells #[.int .i64 4] 3)).alloc (Obj.cells #[.string s, .int .i64 e, .int .i64 m, .bool al, .int .i64 k0, .int .i64 sc] 38)).alloc (Obj.cells #[.slice A n cp] 46)).alloc (Obj.cells #[.slice (some ⟨w.heap.size + 3, 0, none⟩) 1 1] 46))) := (by repeat (first | with_reducible refine Below.setCell ?_ (by first | (simp; done) | (simp; omega) | omega) _ | with_reducible refine Below.alloc ?_ (by first | (simp; done) | (simp; omega) | omega) _ | with_reducible refine Below.drew ?_ | with_reducible refine below_drewN ?_ _ | with_reducible exact Below.refl _ _))
  have hc0 : (((((((w.alloc (Obj.cells #[.string s, .int .i64 e, .int .i64 m, .bool al, .int .i64 k0, .int .i64 sc] 38)).alloc (Obj.cells #[.slice none 0 0] 46)).alloc (Obj.cells #[.int .i64 4] 3)).alloc (Obj.cells #[.string s, .int .i64 e, .int .i64 m, .bool al, .int .i64 k0, .int .i64 sc] 38)).alloc (Obj.cells #[.slice A n cp] 46)).alloc (Obj.cells #[.slice (some ⟨w.heap.size + 3, 0, none⟩) 1 1] 46))).cell? ⟨w.heap.size + 1, 0, none⟩ = some (.slice none 0 0) ∧ (((((((w.alloc (Obj.cells #[.string s, .int .i64 e, .int .i64 m, .bool al, .int .i64 k0, .int .i64 sc] 38)).alloc (Obj.cells #[.slice none 0 0] 46)).alloc (Obj.cells #[.int .i64 4] 3)).alloc (Obj.cells #[.string s, .int .i64 e, .int .i64 m, .bool al, .int .i64 k0, .int .i64 sc] 38)).alloc (Obj.cells #[.slice A n cp] 46)).alloc (Obj.cells #[.slice (some ⟨w.heap.size + 3, 0, none⟩) 1 1] 46))).frozen? ⟨w.heap.size + 1, 0, none⟩ = false ∧ (((((((w.alloc (Obj.cells #[.string s, .int .i64 e, .int .i64 m, .bool al, .int .i64 k0, .int .i64 sc] 38)).alloc (Obj.cells #[.slice none 0 0] 46)).alloc (Obj.cells #[.int .i64 4] 3)).alloc (Obj.cells #[.string s, .int .i64 e, .int .i64 m, .bool al, .int .i64 k0, .int .i64 sc] 38)).alloc (Obj.cells #[.slice A n cp] 46)).alloc (Obj.cells #[.slice (some ⟨w.heap.size + 3, 0, none⟩) 1 1] 46))).cell? ⟨w.heap.size + 2, 0, none⟩ = some (.int .i64 4) ∧ (((((((w.alloc (Obj.cells #[.string s, .int .i64 e, .int .i64 m, .bool al, .int .i64 k0, .int .i64 sc] 38)).alloc (Obj.cells #[.slice none 0 0] 46)).alloc (Obj.cells #[.int .i64 4] 3)).alloc (Obj.cells #[.string s, .int .i64 e, .int .i64 m, .bool al, .int .i64 k0, .int .i64 sc] 38)).alloc (Obj.cells #[.slice A n cp] 46)).alloc (Obj.cells #[.slice (some ⟨w.heap.size + 3, 0, none⟩) 1 1] 46))).frozen? ⟨w.heap.size + 2, 0, none⟩ = false := ⟨by go_simp, by go_simp, by go_simp, by go_simp⟩
  have hc1 : (((((((w.alloc (Obj.cells #[.string s, .int .i64 e, .int .i64 m, .bool al, .int .i64 k0, .int .i64 sc] 38)).alloc (Obj.cells #[.slice none 0 0] 46)).alloc (Obj.cells #[.int .i64 4] 3)).alloc (Obj.cells #[.string s, .int .i64 e, .int .i64 m, .bool al, .int .i64 k0, .int .i64 sc] 38)).alloc (Obj.cells #[.slice A n cp] 46)).alloc (Obj.cells #[.slice (some ⟨w.heap.size + 3, 0, none⟩) 1 1] 46))).cell? ⟨w.heap.size + 5, 0, none⟩ = some (.slice (some ⟨w.heap.size + 3, 0, none⟩) 1 1) ∧ (((((((w.alloc (Obj.cells #[.string s, .int .i64 e, .int .i64 m, .bool al, .int .i64 k0, .int .i64 sc] 38)).alloc (Obj.cells #[.slice none 0 0] 46)).alloc (Obj.cells #[.int .i64 4] 3)).alloc (Obj.cells #[.string s, .int .i64 e, .int .i64 m, .bool al, .int .i64 k0, .int .i64 sc] 38)).alloc (Obj.cells #[.slice A n cp] 46)).alloc (Obj.cells #[.slice (some ⟨w.heap.size + 3, 0, none⟩) 1 1] 46))).cell? ⟨w.heap.size + 4, 0, none⟩ = some (.slice A n cp) ∧ cells6 (((((((w.alloc (Obj.cells #[.string s, .int .i64 e, .int .i64 m, .bool al, .int .i64 k0, .int .i64 sc] 38)).alloc (Obj.cells #[.slice none 0 0] 46)).alloc (Obj.cells #[.int .i64 4] 3)).alloc (Obj.cells #[.string s, .int .i64 e, .int .i64 m, .bool al, .int .i64 k0, .int .i64 sc] 38)).alloc (Obj.cells #[.slice A n cp] 46)).alloc (Obj.cells #[.slice (some ⟨w.heap.size + 3, 0, none⟩) 1 1] 46))) ⟨w.heap.size + 3, 0, none⟩ ⟨s, e, m, al, k0, sc⟩ := ⟨by go_simp, by go_simp, by go_simp, by go_simp, by go_simp, by go_simp, by go_simp, by go_simp⟩
  have hz : (((((((w.alloc (Obj.cells #[.string s, .int .i64 e, .int .i64 m, .bool al, .int .i64 k0, .int .i64 sc] 38)).alloc (Obj.cells #[.slice none 0 0] 46)).alloc (Obj.cells #[.int .i64 4] 3)).alloc (Obj.cells #[.string s, .int .i64 e, .int .i64 m, .bool al, .int .i64 k0, .int .i64 sc] 38)).alloc (Obj.cells #[.slice A n cp] 46)).alloc (Obj.cells #[.slice (some ⟨w.heap.size + 3, 0, none⟩) 1 1] 46))).heap.size = w.heap.size + 6 := by simp
  have hch := ((HR.out.below hw0).more (B' := w.heap.size + 6) (by omega))
  generalize (((((((w.alloc (Obj.cells #[.string s, .int .i64 e, .int .i64 m, .bool al, .int .i64 k0, .int .i64 sc] 38)).alloc (Obj.cells #[.slice none 0 0] 46)).alloc (Obj.cells #[.int .i64 4] 3)).alloc (Obj.cells #[.string s, .int .i64 e, .int .i64 m, .bool al, .int .i64 k0, .int .i64 sc] 38)).alloc (Obj.cells #[.slice A n cp] 46)).alloc (Obj.cells #[.slice (some ⟨w.heap.size + 3, 0, none⟩) 1 1] 46))) = W0 at *
  rw [← hz] at hch
  have HC0 := Lib.hid hc0; have HC1 := Lib.hid hc1; have HW0 := Lib.hid hw0
  clear hc0 hc1 hw0
  have hla : 0 < ls.length → ∀ ad, A = some ad → ad.block ≠ w.heap.size + 1 ∧ ad.block ≠ w.heap.size + 2 := fun hn ad ea => by
    obtain ⟨ad2, e2, hb2, _⟩ := HR.out.2.2 (by rw [← HR.out.1]; exact hn)
    obtain rfl : ad = ad2 := by rw [ea] at e2; exact Option.some.inj e2
    exact ⟨by omega, by omega⟩
  refine (wpIn_wide (n := 6)).1 ?_
  refine wpIn_range_p (by omega) (gf := 104) (lb := #[.pointer (some ⟨w.heap.size + 5, 0, none⟩), .pointer (some ⟨w.heap.size + 4, 0, none⟩)]) rfl (enters_of Try.func104 (by kernel_rfl) rfl)
    (encs := encsP) (Pt := PtP) (Bo := w.heap.size + 1) (Bw := w.heap.size + 2) (by omega) (pairs_seq 5 (by omega) (w.heap.size + 5) (w.heap.size + 4) (w.heap.size + 3) (w.heap.size + 1) (w.heap.size + 2) A n cp ls s e m al k0 sc W0 (by omega) (by omega) hm HC1.out.1 HC1.out.2.1 HC1.out.2.2 hch ⟨by omega, by omega⟩ hla) (fun _ => rfl)
    (LrnI w W0.heap.size) (fun _ _ h => h.row) (fun _ _ _ h hf => h.fr (by omega) hf) (fun _ _ _ h hk => h.kept hk) ⟨HW0.out, Nat.le_refl _, _, HC0.out.1, HC0.out.2.1, ⟨rfl, .inl ⟨rfl, rfl⟩⟩, HC0.out.2.2.1, HC0.out.2.2.2⟩
    (fun x => learnA A n cp s e m al k0 sc w.heap.size x) ?assign ?body ?done
  case assign =>
    intro l x W K hK
    unfold encsP
    gi_wp2
    exact hK
  case body =>
    simp only [hz]
    intro l pre x W hl hlen hI hP
    obtain ⟨hb0, hD, lv, i1, i2, hrow, i3, i4⟩ := hI
    obtain ⟨OL, hOL⟩ : ∃ OL, (foldL (pre.map projP)).1 = OL := ⟨_, rfl⟩
    obtain ⟨WH, hWH⟩ : ∃ WH, (foldL (pre.map projP)).2 = WH := ⟨_, rfl⟩
    have hll := foldL_len (pre.map projP)
    rw [List.length_map, hOL] at hll
    rw [hOL] at hrow
    rw [hWH] at i3
    have hl2 : OL.length ≤ 2513169434844 := by omega
    have HOL := Lib.hid hOL; have HWH := Lib.hid hWH
    clear hOL hWH
    unfold learnA
    obtain ⟨x1, x2⟩ := x
    cases x1 with
    | none =>
      cases x2 with
      | none => exact absurd hP.2.2 (by simp)
      | some q =>
        obtain ⟨q, ⟨s2, e2, m2, al2, k2, sc2⟩⟩ := q
        obtain ⟨c0, c1, c2, c3, c4, c5⟩ := hP.2.1 q _ rfl
        simp only [ptrV, Option.map]
        have hqw := cell_lt c0
        obtain ⟨A2, cp2, rfl⟩ := row_slice hrow
        have hBW : w.heap.size + 1 < W.heap.size := cell_lt i1
        have HRA : Hid ((W.alloc (Obj.cells #[.string s2, .int .i64 e2, .int .i64 m2, .bool al2, .int .i64 k2, .int .i64 sc2] 38)).drew.ownsRow (w.heap.size + 6) 38 6 (.slice A2 OL.length cp2) OL.length (flatC OL)) := hrow.alloc _
        have hcw := cells_new W.drew ⟨s2, e2, m2, al2, k2, sc2⟩
        gi_wp2
        refine wpIn_region_any hmx ?_
        change wpAnyIn _ _ _ _ _ _ _ _ _ (World.drew _)
        refine wpAnyIn_ready (rs := [0, 1]) (by kernel_rfl) (by simp) ?_
        refine AllReadyIn.cons rfl (fun K hK => ?_) ?_
        · go_simp; refine hK _ _ ?_; clear hK K
          refine wpAnyIn_ready (rs := [1]) (by kernel_rfl) (by simp) ?_
          refine AllReadyIn.cons rfl (fun K hK => ?_) ?_
          · go_simp; refine hK _ _ ?_; clear hK K
            refine wpAnyIn_ready (rs := [2]) (by kernel_rfl) (by simp) ?_
            refine AllReadyIn.cons rfl (fun K hK => ?_) ?_
            · go_simp; refine hK _ _ ?_; clear hK K
              refine wpAnyIn_ready (rs := [3]) (by kernel_rfl) (by simp) ?_
              refine AllReadyIn.cons rfl (fun K hK => ?_) ?_
              · go_simp; refine hK _ _ ?_; clear hK K
                refine wpAnyIn_ready (rs := [4]) (by kernel_rfl) (by simp) ?_
                refine AllReadyIn.cons rfl (fun K hK => ?_) ?_
                · go_simp; refine hK _ _ ?_; clear hK K
                  refine wpAnyIn_ready (rs := [5]) (by kernel_rfl) (by simp) ?_
                  refine AllReadyIn.cons rfl (fun K hK => ?_) ?_
                  · refine step_append_in rfl _ _ 46 rfl (w.heap.size + 6) 38 j0 _ 6 56 Try.underlying46 hi0 hy0 hy1 hy2 rfl (by decide) (.slice A2 OL.length cp2) OL.length (flatC OL) rfl HRA.out ⟨W.heap.size, 0, none⟩ 1 1 (chV ⟨s2, e2, m2, al2, k2, sc2⟩) rfl rfl hcw (chV_one _) (by simp only [maxLen]; omega) (by omega) (by simp; omega) ?_; intro v' w6 hown hgrow hat; obtain ⟨g', cap', rfl⟩ := ownsRow_succ hown; refine hK _ _ ?_; clear hK K; obtain ⟨hb6, hk6⟩ := row_grown HRA.out hgrow (by simp; omega); have hbo6 : w6.cell? ⟨w.heap.size + 1, 0, none⟩ = some (.slice A2 OL.length cp2) := (hb6.cell (p := ⟨w.heap.size + 1, 0, none⟩) (by simp)).trans (by go_simp); have hfo6 : w6.frozen? ⟨w.heap.size + 1, 0, none⟩ = false := (hb6.frozen (p := ⟨w.heap.size + 1, 0, none⟩) (by simp)).trans (by go_simp)
                    refine wpAnyIn_ready (rs := [6]) (by kernel_rfl) (by simp) ?_
                    refine AllReadyIn.cons rfl (fun K hK => ?_) ?_
                    · go_simp; refine hK _ _ ?_; clear hK K
                      refine wpAnyIn_done (by kernel_rfl) ?_ _
                      gi_wp2
                      exact round_app (c := ⟨s2, e2, m2, al2, k2, sc2⟩) rfl hb0 (by omega) i1 i2 i3 i4 hrow hown hgrow hat (stepL_next HOL.out HWH.out)
                    exact AllReadyIn.nil
                  exact AllReadyIn.nil
                exact AllReadyIn.nil
              exact AllReadyIn.nil
            exact AllReadyIn.nil
          exact AllReadyIn.nil
        refine AllReadyIn.cons rfl (fun K hK => ?_) ?_
        · go_simp; refine hK _ _ ?_; clear hK K
          refine wpAnyIn_ready (rs := [0, 2]) (by kernel_rfl) (by simp) ?_
          refine AllReadyIn.cons rfl (fun K hK => ?_) ?_
          · go_simp; refine hK _ _ ?_; clear hK K
            refine wpAnyIn_ready (rs := [2]) (by kernel_rfl) (by simp) ?_
            refine AllReadyIn.cons rfl (fun K hK => ?_) ?_
            · go_simp; refine hK _ _ ?_; clear hK K
              refine wpAnyIn_ready (rs := [3]) (by kernel_rfl) (by simp) ?_
              refine AllReadyIn.cons rfl (fun K hK => ?_) ?_
              · go_simp; refine hK _ _ ?_; clear hK K
                refine wpAnyIn_ready (rs := [4]) (by kernel_rfl) (by simp) ?_
                refine AllReadyIn.cons rfl (fun K hK => ?_) ?_
                · go_simp; refine hK _ _ ?_; clear hK K
                  refine wpAnyIn_ready (rs := [5]) (by kernel_rfl) (by simp) ?_
                  refine AllReadyIn.cons rfl (fun K hK => ?_) ?_
                  · refine step_append_in rfl _ _ 46 rfl (w.heap.size + 6) 38 j0 _ 6 56 Try.underlying46 hi0 hy0 hy1 hy2 rfl (by decide) (.slice A2 OL.length cp2) OL.length (flatC OL) rfl HRA.out ⟨W.heap.size, 0, none⟩ 1 1 (chV ⟨s2, e2, m2, al2, k2, sc2⟩) rfl rfl hcw (chV_one _) (by simp only [maxLen]; omega) (by omega) (by simp; omega) ?_; intro v' w6 hown hgrow hat; obtain ⟨g', cap', rfl⟩ := ownsRow_succ hown; refine hK _ _ ?_; clear hK K; obtain ⟨hb6, hk6⟩ := row_grown HRA.out hgrow (by simp; omega); have hbo6 : w6.cell? ⟨w.heap.size + 1, 0, none⟩ = some (.slice A2 OL.length cp2) := (hb6.cell (p := ⟨w.heap.size + 1, 0, none⟩) (by simp)).trans (by go_simp); have hfo6 : w6.frozen? ⟨w.heap.size + 1, 0, none⟩ = false := (hb6.frozen (p := ⟨w.heap.size + 1, 0, none⟩) (by simp)).trans (by go_simp)
                    refine wpAnyIn_ready (rs := [6]) (by kernel_rfl) (by simp) ?_
                    refine AllReadyIn.cons rfl (fun K hK => ?_) ?_
                    · go_simp; refine hK _ _ ?_; clear hK K
                      refine wpAnyIn_done (by kernel_rfl) ?_ _
                      gi_wp2
                      exact round_app (c := ⟨s2, e2, m2, al2, k2, sc2⟩) rfl hb0 (by omega) i1 i2 i3 i4 hrow hown hgrow hat (stepL_next HOL.out HWH.out)
                    exact AllReadyIn.nil
                  exact AllReadyIn.nil
                exact AllReadyIn.nil
              exact AllReadyIn.nil
            exact AllReadyIn.nil
          refine AllReadyIn.cons rfl (fun K hK => ?_) ?_
          · go_simp; refine hK _ _ ?_; clear hK K
            refine wpAnyIn_ready (rs := [0, 3]) (by kernel_rfl) (by simp) ?_
            refine AllReadyIn.cons rfl (fun K hK => ?_) ?_
            · go_simp; refine hK _ _ ?_; clear hK K
              refine wpAnyIn_ready (rs := [3]) (by kernel_rfl) (by simp) ?_
              refine AllReadyIn.cons rfl (fun K hK => ?_) ?_
              · go_simp; refine hK _ _ ?_; clear hK K
                refine wpAnyIn_ready (rs := [4]) (by kernel_rfl) (by simp) ?_
                refine AllReadyIn.cons rfl (fun K hK => ?_) ?_
                · go_simp; refine hK _ _ ?_; clear hK K
                  refine wpAnyIn_ready (rs := [5]) (by kernel_rfl) (by simp) ?_
                  refine AllReadyIn.cons rfl (fun K hK => ?_) ?_
                  · refine step_append_in rfl _ _ 46 rfl (w.heap.size + 6) 38 j0 _ 6 56 Try.underlying46 hi0 hy0 hy1 hy2 rfl (by decide) (.slice A2 OL.length cp2) OL.length (flatC OL) rfl HRA.out ⟨W.heap.size, 0, none⟩ 1 1 (chV ⟨s2, e2, m2, al2, k2, sc2⟩) rfl rfl hcw (chV_one _) (by simp only [maxLen]; omega) (by omega) (by simp; omega) ?_; intro v' w6 hown hgrow hat; obtain ⟨g', cap', rfl⟩ := ownsRow_succ hown; refine hK _ _ ?_; clear hK K; obtain ⟨hb6, hk6⟩ := row_grown HRA.out hgrow (by simp; omega); have hbo6 : w6.cell? ⟨w.heap.size + 1, 0, none⟩ = some (.slice A2 OL.length cp2) := (hb6.cell (p := ⟨w.heap.size + 1, 0, none⟩) (by simp)).trans (by go_simp); have hfo6 : w6.frozen? ⟨w.heap.size + 1, 0, none⟩ = false := (hb6.frozen (p := ⟨w.heap.size + 1, 0, none⟩) (by simp)).trans (by go_simp)
                    refine wpAnyIn_ready (rs := [6]) (by kernel_rfl) (by simp) ?_
                    refine AllReadyIn.cons rfl (fun K hK => ?_) ?_
                    · go_simp; refine hK _ _ ?_; clear hK K
                      refine wpAnyIn_done (by kernel_rfl) ?_ _
                      gi_wp2
                      exact round_app (c := ⟨s2, e2, m2, al2, k2, sc2⟩) rfl hb0 (by omega) i1 i2 i3 i4 hrow hown hgrow hat (stepL_next HOL.out HWH.out)
                    exact AllReadyIn.nil
                  exact AllReadyIn.nil
                exact AllReadyIn.nil
              exact AllReadyIn.nil
            refine AllReadyIn.cons rfl (fun K hK => ?_) ?_
            · go_simp; refine hK _ _ ?_; clear hK K
              refine wpAnyIn_ready (rs := [0, 4]) (by kernel_rfl) (by simp) ?_
              refine AllReadyIn.cons rfl (fun K hK => ?_) ?_
              · go_simp; refine hK _ _ ?_; clear hK K
                refine wpAnyIn_ready (rs := [4]) (by kernel_rfl) (by simp) ?_
                refine AllReadyIn.cons rfl (fun K hK => ?_) ?_
                · go_simp; refine hK _ _ ?_; clear hK K
                  refine wpAnyIn_ready (rs := [5]) (by kernel_rfl) (by simp) ?_
                  refine AllReadyIn.cons rfl (fun K hK => ?_) ?_
                  · refine step_append_in rfl _ _ 46 rfl (w.heap.size + 6) 38 j0 _ 6 56 Try.underlying46 hi0 hy0 hy1 hy2 rfl (by decide) (.slice A2 OL.length cp2) OL.length (flatC OL) rfl HRA.out ⟨W.heap.size, 0, none⟩ 1 1 (chV ⟨s2, e2, m2, al2, k2, sc2⟩) rfl rfl hcw (chV_one _) (by simp only [maxLen]; omega) (by omega) (by simp; omega) ?_; intro v' w6 hown hgrow hat; obtain ⟨g', cap', rfl⟩ := ownsRow_succ hown; refine hK _ _ ?_; clear hK K; obtain ⟨hb6, hk6⟩ := row_grown HRA.out hgrow (by simp; omega); have hbo6 : w6.cell? ⟨w.heap.size + 1, 0, none⟩ = some (.slice A2 OL.length cp2) := (hb6.cell (p := ⟨w.heap.size + 1, 0, none⟩) (by simp)).trans (by go_simp); have hfo6 : w6.frozen? ⟨w.heap.size + 1, 0, none⟩ = false := (hb6.frozen (p := ⟨w.heap.size + 1, 0, none⟩) (by simp)).trans (by go_simp)
                    refine wpAnyIn_ready (rs := [6]) (by kernel_rfl) (by simp) ?_
                    refine AllReadyIn.cons rfl (fun K hK => ?_) ?_
                    · go_simp; refine hK _ _ ?_; clear hK K
                      refine wpAnyIn_done (by kernel_rfl) ?_ _
                      gi_wp2
                      exact round_app (c := ⟨s2, e2, m2, al2, k2, sc2⟩) rfl hb0 (by omega) i1 i2 i3 i4 hrow hown hgrow hat (stepL_next HOL.out HWH.out)
                    exact AllReadyIn.nil
                  exact AllReadyIn.nil
                exact AllReadyIn.nil
              refine AllReadyIn.cons rfl (fun K hK => ?_) ?_
              · go_simp; refine hK _ _ ?_; clear hK K
                refine wpAnyIn_ready (rs := [0]) (by kernel_rfl) (by simp) ?_
                refine AllReadyIn.cons rfl (fun K hK => ?_) ?_
                · go_simp; refine hK _ _ ?_; clear hK K
                  refine wpAnyIn_ready (rs := [5]) (by kernel_rfl) (by simp) ?_
                  refine AllReadyIn.cons rfl (fun K hK => ?_) ?_
                  · refine step_append_in rfl _ _ 46 rfl (w.heap.size + 6) 38 j0 _ 6 56 Try.underlying46 hi0 hy0 hy1 hy2 rfl (by decide) (.slice A2 OL.length cp2) OL.length (flatC OL) rfl HRA.out ⟨W.heap.size, 0, none⟩ 1 1 (chV ⟨s2, e2, m2, al2, k2, sc2⟩) rfl rfl hcw (chV_one _) (by simp only [maxLen]; omega) (by omega) (by simp; omega) ?_; intro v' w6 hown hgrow hat; obtain ⟨g', cap', rfl⟩ := ownsRow_succ hown; refine hK _ _ ?_; clear hK K; obtain ⟨hb6, hk6⟩ := row_grown HRA.out hgrow (by simp; omega); have hbo6 : w6.cell? ⟨w.heap.size + 1, 0, none⟩ = some (.slice A2 OL.length cp2) := (hb6.cell (p := ⟨w.heap.size + 1, 0, none⟩) (by simp)).trans (by go_simp); have hfo6 : w6.frozen? ⟨w.heap.size + 1, 0, none⟩ = false := (hb6.frozen (p := ⟨w.heap.size + 1, 0, none⟩) (by simp)).trans (by go_simp)
                    refine wpAnyIn_ready (rs := [6]) (by kernel_rfl) (by simp) ?_
                    refine AllReadyIn.cons rfl (fun K hK => ?_) ?_
                    · go_simp; refine hK _ _ ?_; clear hK K
                      refine wpAnyIn_done (by kernel_rfl) ?_ _
                      gi_wp2
                      exact round_app (c := ⟨s2, e2, m2, al2, k2, sc2⟩) rfl hb0 (by omega) i1 i2 i3 i4 hrow hown hgrow hat (stepL_next HOL.out HWH.out)
                    exact AllReadyIn.nil
                  exact AllReadyIn.nil
                exact AllReadyIn.nil
              exact AllReadyIn.nil
            exact AllReadyIn.nil
          exact AllReadyIn.nil
        exact AllReadyIn.nil

    | some p =>
      obtain ⟨p, ⟨s1, e1, m1, al1, k1, sc1⟩⟩ := p
      obtain ⟨b0, b1, b2, b3, b4, b5⟩ := hP.1 p _ rfl
      have hpw := cell_lt b0
      obtain ⟨A2, cp2, rfl⟩ := row_slice hrow
      have hBW : w.heap.size + 1 < W.heap.size := cell_lt i1
      cases x2 with
      | none =>
        simp only [ptrV, Option.map]
        have HRA : Hid ((W.alloc (Obj.cells #[.string s1, .int .i64 e1, .int .i64 m1, .bool al1, .int .i64 k1, .int .i64 sc1] 38)).drew.ownsRow (w.heap.size + 6) 38 6 (.slice A2 OL.length cp2) OL.length (flatC OL)) := hrow.alloc _
        have hcw := cells_new W.drew ⟨s1, e1, m1, al1, k1, sc1⟩
        gi_wp2
        refine wpIn_region_any hmx ?_
        change wpAnyIn _ _ _ _ _ _ _ _ _ (World.drew _)
        refine wpAnyIn_ready (rs := [0, 1]) (by kernel_rfl) (by simp) ?_
        refine AllReadyIn.cons rfl (fun K hK => ?_) ?_
        · go_simp; refine hK _ _ ?_; clear hK K
          refine wpAnyIn_ready (rs := [1]) (by kernel_rfl) (by simp) ?_
          refine AllReadyIn.cons rfl (fun K hK => ?_) ?_
          · go_simp; refine hK _ _ ?_; clear hK K
            refine wpAnyIn_ready (rs := [2]) (by kernel_rfl) (by simp) ?_
            refine AllReadyIn.cons rfl (fun K hK => ?_) ?_
            · go_simp; refine hK _ _ ?_; clear hK K
              refine wpAnyIn_ready (rs := [3]) (by kernel_rfl) (by simp) ?_
              refine AllReadyIn.cons rfl (fun K hK => ?_) ?_
              · go_simp; refine hK _ _ ?_; clear hK K
                refine wpAnyIn_ready (rs := [4]) (by kernel_rfl) (by simp) ?_
                refine AllReadyIn.cons rfl (fun K hK => ?_) ?_
                · go_simp; refine hK _ _ ?_; clear hK K
                  refine wpAnyIn_ready (rs := [5]) (by kernel_rfl) (by simp) ?_
                  refine AllReadyIn.cons rfl (fun K hK => ?_) ?_
                  · refine step_append_in rfl _ _ 46 rfl (w.heap.size + 6) 38 j0 _ 6 56 Try.underlying46 hi0 hy0 hy1 hy2 rfl (by decide) (.slice A2 OL.length cp2) OL.length (flatC OL) rfl HRA.out ⟨W.heap.size, 0, none⟩ 1 1 (chV ⟨s1, e1, m1, al1, k1, sc1⟩) rfl rfl hcw (chV_one _) (by simp only [maxLen]; omega) (by omega) (by simp; omega) ?_; intro v' w6 hown hgrow hat; obtain ⟨g', cap', rfl⟩ := ownsRow_succ hown; refine hK _ _ ?_; clear hK K; obtain ⟨hb6, hk6⟩ := row_grown HRA.out hgrow (by simp; omega); have hbo6 : w6.cell? ⟨w.heap.size + 1, 0, none⟩ = some (.slice A2 OL.length cp2) := (hb6.cell (p := ⟨w.heap.size + 1, 0, none⟩) (by simp)).trans (by go_simp); have hfo6 : w6.frozen? ⟨w.heap.size + 1, 0, none⟩ = false := (hb6.frozen (p := ⟨w.heap.size + 1, 0, none⟩) (by simp)).trans (by go_simp)
                    refine wpAnyIn_ready (rs := [6]) (by kernel_rfl) (by simp) ?_
                    refine AllReadyIn.cons rfl (fun K hK => ?_) ?_
                    · go_simp; refine hK _ _ ?_; clear hK K
                      refine wpAnyIn_done (by kernel_rfl) ?_ _
                      gi_wp2
                      exact round_app (c := ⟨s1, e1, m1, al1, k1, sc1⟩) rfl hb0 (by omega) i1 i2 i3 i4 hrow hown hgrow hat (stepL_next HOL.out HWH.out)
                    exact AllReadyIn.nil
                  exact AllReadyIn.nil
                exact AllReadyIn.nil
              exact AllReadyIn.nil
            exact AllReadyIn.nil
          exact AllReadyIn.nil
        refine AllReadyIn.cons rfl (fun K hK => ?_) ?_
        · go_simp; refine hK _ _ ?_; clear hK K
          refine wpAnyIn_ready (rs := [0, 2]) (by kernel_rfl) (by simp) ?_
          refine AllReadyIn.cons rfl (fun K hK => ?_) ?_
          · go_simp; refine hK _ _ ?_; clear hK K
            refine wpAnyIn_ready (rs := [2]) (by kernel_rfl) (by simp) ?_
            refine AllReadyIn.cons rfl (fun K hK => ?_) ?_
            · go_simp; refine hK _ _ ?_; clear hK K
              refine wpAnyIn_ready (rs := [3]) (by kernel_rfl) (by simp) ?_
              refine AllReadyIn.cons rfl (fun K hK => ?_) ?_
              · go_simp; refine hK _ _ ?_; clear hK K
                refine wpAnyIn_ready (rs := [4]) (by kernel_rfl) (by simp) ?_
                refine AllReadyIn.cons rfl (fun K hK => ?_) ?_
                · go_simp; refine hK _ _ ?_; clear hK K
                  refine wpAnyIn_ready (rs := [5]) (by kernel_rfl) (by simp) ?_
                  refine AllReadyIn.cons rfl (fun K hK => ?_) ?_
                  · refine step_append_in rfl _ _ 46 rfl (w.heap.size + 6) 38 j0 _ 6 56 Try.underlying46 hi0 hy0 hy1 hy2 rfl (by decide) (.slice A2 OL.length cp2) OL.length (flatC OL) rfl HRA.out ⟨W.heap.size, 0, none⟩ 1 1 (chV ⟨s1, e1, m1, al1, k1, sc1⟩) rfl rfl hcw (chV_one _) (by simp only [maxLen]; omega) (by omega) (by simp; omega) ?_; intro v' w6 hown hgrow hat; obtain ⟨g', cap', rfl⟩ := ownsRow_succ hown; refine hK _ _ ?_; clear hK K; obtain ⟨hb6, hk6⟩ := row_grown HRA.out hgrow (by simp; omega); have hbo6 : w6.cell? ⟨w.heap.size + 1, 0, none⟩ = some (.slice A2 OL.length cp2) := (hb6.cell (p := ⟨w.heap.size + 1, 0, none⟩) (by simp)).trans (by go_simp); have hfo6 : w6.frozen? ⟨w.heap.size + 1, 0, none⟩ = false := (hb6.frozen (p := ⟨w.heap.size + 1, 0, none⟩) (by simp)).trans (by go_simp)
                    refine wpAnyIn_ready (rs := [6]) (by kernel_rfl) (by simp) ?_
                    refine AllReadyIn.cons rfl (fun K hK => ?_) ?_
                    · go_simp; refine hK _ _ ?_; clear hK K
                      refine wpAnyIn_done (by kernel_rfl) ?_ _
                      gi_wp2
                      exact round_app (c := ⟨s1, e1, m1, al1, k1, sc1⟩) rfl hb0 (by omega) i1 i2 i3 i4 hrow hown hgrow hat (stepL_next HOL.out HWH.out)
                    exact AllReadyIn.nil
                  exact AllReadyIn.nil
                exact AllReadyIn.nil
              exact AllReadyIn.nil
            exact AllReadyIn.nil
          refine AllReadyIn.cons rfl (fun K hK => ?_) ?_
          · go_simp; refine hK _ _ ?_; clear hK K
            refine wpAnyIn_ready (rs := [0, 3]) (by kernel_rfl) (by simp) ?_
            refine AllReadyIn.cons rfl (fun K hK => ?_) ?_
            · go_simp; refine hK _ _ ?_; clear hK K
              refine wpAnyIn_ready (rs := [3]) (by kernel_rfl) (by simp) ?_
              refine AllReadyIn.cons rfl (fun K hK => ?_) ?_
              · go_simp; refine hK _ _ ?_; clear hK K
                refine wpAnyIn_ready (rs := [4]) (by kernel_rfl) (by simp) ?_
                refine AllReadyIn.cons rfl (fun K hK => ?_) ?_
                · go_simp; refine hK _ _ ?_; clear hK K
                  refine wpAnyIn_ready (rs := [5]) (by kernel_rfl) (by simp) ?_
                  refine AllReadyIn.cons rfl (fun K hK => ?_) ?_
                  · refine step_append_in rfl _ _ 46 rfl (w.heap.size + 6) 38 j0 _ 6 56 Try.underlying46 hi0 hy0 hy1 hy2 rfl (by decide) (.slice A2 OL.length cp2) OL.length (flatC OL) rfl HRA.out ⟨W.heap.size, 0, none⟩ 1 1 (chV ⟨s1, e1, m1, al1, k1, sc1⟩) rfl rfl hcw (chV_one _) (by simp only [maxLen]; omega) (by omega) (by simp; omega) ?_; intro v' w6 hown hgrow hat; obtain ⟨g', cap', rfl⟩ := ownsRow_succ hown; refine hK _ _ ?_; clear hK K; obtain ⟨hb6, hk6⟩ := row_grown HRA.out hgrow (by simp; omega); have hbo6 : w6.cell? ⟨w.heap.size + 1, 0, none⟩ = some (.slice A2 OL.length cp2) := (hb6.cell (p := ⟨w.heap.size + 1, 0, none⟩) (by simp)).trans (by go_simp); have hfo6 : w6.frozen? ⟨w.heap.size + 1, 0, none⟩ = false := (hb6.frozen (p := ⟨w.heap.size + 1, 0, none⟩) (by simp)).trans (by go_simp)
                    refine wpAnyIn_ready (rs := [6]) (by kernel_rfl) (by simp) ?_
                    refine AllReadyIn.cons rfl (fun K hK => ?_) ?_
                    · go_simp; refine hK _ _ ?_; clear hK K
                      refine wpAnyIn_done (by kernel_rfl) ?_ _
                      gi_wp2
                      exact round_app (c := ⟨s1, e1, m1, al1, k1, sc1⟩) rfl hb0 (by omega) i1 i2 i3 i4 hrow hown hgrow hat (stepL_next HOL.out HWH.out)
                    exact AllReadyIn.nil
                  exact AllReadyIn.nil
                exact AllReadyIn.nil
              exact AllReadyIn.nil
            refine AllReadyIn.cons rfl (fun K hK => ?_) ?_
            · go_simp; refine hK _ _ ?_; clear hK K
              refine wpAnyIn_ready (rs := [0, 4]) (by kernel_rfl) (by simp) ?_
              refine AllReadyIn.cons rfl (fun K hK => ?_) ?_
              · go_simp; refine hK _ _ ?_; clear hK K
                refine wpAnyIn_ready (rs := [4]) (by kernel_rfl) (by simp) ?_
                refine AllReadyIn.cons rfl (fun K hK => ?_) ?_
                · go_simp; refine hK _ _ ?_; clear hK K
                  refine wpAnyIn_ready (rs := [5]) (by kernel_rfl) (by simp) ?_
                  refine AllReadyIn.cons rfl (fun K hK => ?_) ?_
                  · refine step_append_in rfl _ _ 46 rfl (w.heap.size + 6) 38 j0 _ 6 56 Try.underlying46 hi0 hy0 hy1 hy2 rfl (by decide) (.slice A2 OL.length cp2) OL.length (flatC OL) rfl HRA.out ⟨W.heap.size, 0, none⟩ 1 1 (chV ⟨s1, e1, m1, al1, k1, sc1⟩) rfl rfl hcw (chV_one _) (by simp only [maxLen]; omega) (by omega) (by simp; omega) ?_; intro v' w6 hown hgrow hat; obtain ⟨g', cap', rfl⟩ := ownsRow_succ hown; refine hK _ _ ?_; clear hK K; obtain ⟨hb6, hk6⟩ := row_grown HRA.out hgrow (by simp; omega); have hbo6 : w6.cell? ⟨w.heap.size + 1, 0, none⟩ = some (.slice A2 OL.length cp2) := (hb6.cell (p := ⟨w.heap.size + 1, 0, none⟩) (by simp)).trans (by go_simp); have hfo6 : w6.frozen? ⟨w.heap.size + 1, 0, none⟩ = false := (hb6.frozen (p := ⟨w.heap.size + 1, 0, none⟩) (by simp)).trans (by go_simp)
                    refine wpAnyIn_ready (rs := [6]) (by kernel_rfl) (by simp) ?_
                    refine AllReadyIn.cons rfl (fun K hK => ?_) ?_
                    · go_simp; refine hK _ _ ?_; clear hK K
                      refine wpAnyIn_done (by kernel_rfl) ?_ _
                      gi_wp2
                      exact round_app (c := ⟨s1, e1, m1, al1, k1, sc1⟩) rfl hb0 (by omega) i1 i2 i3 i4 hrow hown hgrow hat (stepL_next HOL.out HWH.out)
                    exact AllReadyIn.nil
                  exact AllReadyIn.nil
                exact AllReadyIn.nil
              refine AllReadyIn.cons rfl (fun K hK => ?_) ?_
              · go_simp; refine hK _ _ ?_; clear hK K
                refine wpAnyIn_ready (rs := [0]) (by kernel_rfl) (by simp) ?_
                refine AllReadyIn.cons rfl (fun K hK => ?_) ?_
                · go_simp; refine hK _ _ ?_; clear hK K
                  refine wpAnyIn_ready (rs := [5]) (by kernel_rfl) (by simp) ?_
                  refine AllReadyIn.cons rfl (fun K hK => ?_) ?_
                  · refine step_append_in rfl _ _ 46 rfl (w.heap.size + 6) 38 j0 _ 6 56 Try.underlying46 hi0 hy0 hy1 hy2 rfl (by decide) (.slice A2 OL.length cp2) OL.length (flatC OL) rfl HRA.out ⟨W.heap.size, 0, none⟩ 1 1 (chV ⟨s1, e1, m1, al1, k1, sc1⟩) rfl rfl hcw (chV_one _) (by simp only [maxLen]; omega) (by omega) (by simp; omega) ?_; intro v' w6 hown hgrow hat; obtain ⟨g', cap', rfl⟩ := ownsRow_succ hown; refine hK _ _ ?_; clear hK K; obtain ⟨hb6, hk6⟩ := row_grown HRA.out hgrow (by simp; omega); have hbo6 : w6.cell? ⟨w.heap.size + 1, 0, none⟩ = some (.slice A2 OL.length cp2) := (hb6.cell (p := ⟨w.heap.size + 1, 0, none⟩) (by simp)).trans (by go_simp); have hfo6 : w6.frozen? ⟨w.heap.size + 1, 0, none⟩ = false := (hb6.frozen (p := ⟨w.heap.size + 1, 0, none⟩) (by simp)).trans (by go_simp)
                    refine wpAnyIn_ready (rs := [6]) (by kernel_rfl) (by simp) ?_
                    refine AllReadyIn.cons rfl (fun K hK => ?_) ?_
                    · go_simp; refine hK _ _ ?_; clear hK K
                      refine wpAnyIn_done (by kernel_rfl) ?_ _
                      gi_wp2
                      exact round_app (c := ⟨s1, e1, m1, al1, k1, sc1⟩) rfl hb0 (by omega) i1 i2 i3 i4 hrow hown hgrow hat (stepL_next HOL.out HWH.out)
                    exact AllReadyIn.nil
                  exact AllReadyIn.nil
                exact AllReadyIn.nil
              exact AllReadyIn.nil
            exact AllReadyIn.nil
          exact AllReadyIn.nil
        exact AllReadyIn.nil

      | some q =>
        obtain ⟨q, ⟨s2, e2, m2, al2, k2, sc2⟩⟩ := q
        obtain ⟨c0, c1, c2, c3, c4, c5⟩ := hP.2.1 q _ rfl
        simp only [ptrV, Option.map]
        have hqw := cell_lt c0
        have hBX : w.heap.size + 2 < W.heap.size := cell_lt i3
        have cs := fun w => stamp_any e2 m2 e1 m1 w
        have ct := fun w => stamp_any e1 m1 e2 m2 w
        cases h1 : stampB e2 m2 e1 m1 with
        | true =>
          rw [h1] at cs
          have CS := Lib.hid cs; have H1 := Lib.hid h1
          clear cs ct h1
          gi_wp2
          refine wpIn_region_quietC (KeptC W [(p, .string s1), (⟨p.block, p.off + 1, none⟩, .int .i64 e1), (⟨p.block, p.off + 2, none⟩, .int .i64 m1), (⟨p.block, p.off + 3, none⟩, .bool al1), (⟨p.block, p.off + 4, none⟩, .int .i64 k1), (⟨p.block, p.off + 5, none⟩, .int .i64 sc1), (q, .string s2), (⟨q.block, q.off + 1, none⟩, .int .i64 e2), (⟨q.block, q.off + 2, none⟩, .int .i64 m2), (⟨q.block, q.off + 3, none⟩, .bool al2), (⟨q.block, q.off + 4, none⟩, .int .i64 k2), (⟨q.block, q.off + 5, none⟩, .int .i64 sc2), (⟨w.heap.size + 1, 0, none⟩, .slice A2 OL.length cp2), (⟨w.heap.size + 2, 0, none⟩, .int .i64 WH)] [⟨w.heap.size + 1, 0, none⟩, ⟨w.heap.size + 2, 0, none⟩]) (by kernel_rfl) (by kernel_rfl) (by kernel_rfl) ?_ ?_
          · refine KeptC.drewn ?_
            repeat' (first | refine KeptC.cons ?_ ?_ | refine KeptC.consF ?_ ?_ ?_ | refine KeptC.mk0 ?_)
            all_goals (first | with_reducible assumption | (go_simp; done) | (simp; omega) | exact (by repeat (first | with_reducible refine Below.setCell ?_ (by first | (simp; done) | (simp; omega) | omega) _ | with_reducible refine Below.alloc ?_ (by first | (simp; done) | (simp; omega) | omega) _ | with_reducible refine Below.drew ?_ | with_reducible refine below_drewN ?_ _ | with_reducible exact Below.refl _ _)))
          repeat (first
            | go_big_quiet_skip
            | (go_big_quiet_want; (refine quietC_run (v := .agg #[.int .i64 e2, .int .i64 m2]) ?_ ?_); (· intro w' hw'; (have hk' := hw'; simp only [KeptC, List.forall_mem_cons] at hk'; go_split_ands); go_simp; first | done | rfl); (simp only [Act.put, List.setIfInBounds_toArray, List.set_cons_zero, List.set_cons_succ]; go_big_quiet_on))
             | (go_big_quiet_want; (refine quietC_run (v := .agg #[.int .i64 e1, .int .i64 m1]) ?_ ?_); (· intro w' hw'; (have hk' := hw'; simp only [KeptC, List.forall_mem_cons] at hk'; go_split_ands); go_simp; first | done | rfl); (simp only [Act.put, List.setIfInBounds_toArray, List.set_cons_zero, List.set_cons_succ]; go_big_quiet_on))
            | (go_big_quiet_want; (apply quietC_run); (· intro w' hw'; (have hk' := hw'; simp only [KeptC, List.forall_mem_cons] at hk'; go_split_ands); go_simp; first | done | rfl); (simp only [Act.put, List.setIfInBounds_toArray, List.set_cons_zero, List.set_cons_succ]; go_big_quiet_on))
            | (go_big_quiet_want; (apply quietC_call); (· intro w' hw'; go_simp; first | done | exact ⟨rfl, rfl⟩ | rfl); (· intro w' hw'; first | ((with_reducible refine (of_any _ _ _ _ _ _ _).mono ?_); rintro e w2 ⟨rfl, hb⟩; exact ⟨rfl, hw'.below hb⟩) | ((with_reducible refine (CS.out _).mono ?_); rintro e w2 ⟨rfl, hb⟩; exact ⟨rfl, hw'.below hb⟩)); (simp only [Act.put, List.setIfInBounds_toArray, List.set_cons_zero, List.set_cons_succ]; go_big_quiet_on)))
          refine wpQuiet_nil ?_
          intro w21 hk21
          (have hk' := hk21; simp only [KeptC, List.forall_mem_cons] at hk'; go_split_ands); have hkB21 := hk21.1
          gi_wp2_with (fail)
          refine layIn (Told w W (w.heap.size + 6) A2 cp2 OL 3 q ⟨s2, e2, m2, al2, k2, sc2⟩) (told_set rfl hb0 hD i1 i2 i3 i4 hrow hkB21 ⟨c0, c1, c2, c3, c4, c5⟩) ?_
          intro W' ⟨hkf, hkp, hb0', hD', j1, j2, j3, j4, hrow', d0, d1, d2, d3, d4, d5⟩
          clear i1 i2 i3 i4 hrow b0 b1 b2 b3 b4 b5 c0 c1 c2 c3 c4 c5 hkB21 hk21 hBW hBX
          have hpw' := cell_lt d0
          have hBW : w.heap.size + 1 < W'.heap.size := cell_lt j1
          have HRA : Hid ((W'.alloc (Obj.cells #[.string s2, .int .i64 e2, .int .i64 m2, .bool al2, .int .i64 k2, .int .i64 sc2] 38)).drew.ownsRow (w.heap.size + 6) 38 6 (.slice A2 OL.length cp2) OL.length (flatC OL)) := hrow'.alloc _
          have hcw := cells_new W'.drew ⟨s2, e2, m2, al2, k2, sc2⟩
          gi_wp2_with (fail)
          refine wpIn_region_any hmx ?_
          change wpAnyIn _ _ _ _ _ _ _ _ _ (World.drew _)
          refine wpAnyIn_ready (rs := [0, 1]) (by kernel_rfl) (by simp) ?_
          refine AllReadyIn.cons rfl (fun K hK => ?_) ?_
          · go_simp; refine hK _ _ ?_; clear hK K
            refine wpAnyIn_ready (rs := [1]) (by kernel_rfl) (by simp) ?_
            refine AllReadyIn.cons rfl (fun K hK => ?_) ?_
            · go_simp; refine hK _ _ ?_; clear hK K
              refine wpAnyIn_ready (rs := [2]) (by kernel_rfl) (by simp) ?_
              refine AllReadyIn.cons rfl (fun K hK => ?_) ?_
              · go_simp; refine hK _ _ ?_; clear hK K
                refine wpAnyIn_ready (rs := [3]) (by kernel_rfl) (by simp) ?_
                refine AllReadyIn.cons rfl (fun K hK => ?_) ?_
                · go_simp; refine hK _ _ ?_; clear hK K
                  refine wpAnyIn_ready (rs := [4]) (by kernel_rfl) (by simp) ?_
                  refine AllReadyIn.cons rfl (fun K hK => ?_) ?_
                  · go_simp; refine hK _ _ ?_; clear hK K
                    refine wpAnyIn_ready (rs := [5]) (by kernel_rfl) (by simp) ?_
                    refine AllReadyIn.cons rfl (fun K hK => ?_) ?_
                    · refine step_append_in rfl _ _ 46 rfl (w.heap.size + 6) 38 j0 _ 6 56 Try.underlying46 hi0 hy0 hy1 hy2 rfl (by decide) (.slice A2 OL.length cp2) OL.length (flatC OL) rfl HRA.out ⟨W'.heap.size, 0, none⟩ 1 1 (chV ⟨s2, e2, m2, al2, k2, sc2⟩) rfl rfl hcw (chV_one _) (by simp only [maxLen]; omega) (by omega) (by simp; omega) ?_; intro v' w6 hown hgrow hat; obtain ⟨g', cap', rfl⟩ := ownsRow_succ hown; refine hK _ _ ?_; clear hK K; obtain ⟨hb6, hk6⟩ := row_grown HRA.out hgrow (by simp; omega); have hbo6 : w6.cell? ⟨w.heap.size + 1, 0, none⟩ = some (.slice A2 OL.length cp2) := (hb6.cell (p := ⟨w.heap.size + 1, 0, none⟩) (by simp)).trans (by go_simp); have hfo6 : w6.frozen? ⟨w.heap.size + 1, 0, none⟩ = false := (hb6.frozen (p := ⟨w.heap.size + 1, 0, none⟩) (by simp)).trans (by go_simp)
                      refine wpAnyIn_ready (rs := [6]) (by kernel_rfl) (by simp) ?_
                      refine AllReadyIn.cons rfl (fun K hK => ?_) ?_
                      · go_simp; refine hK _ _ ?_; clear hK K
                        refine wpAnyIn_done (by kernel_rfl) ?_ _
                        gi_wp2
                        exact (fun h => ⟨hkf.trans h.1, hkp.trans h.2.1, h.2.2⟩) (round_app (c := ⟨s2, e2, m2, al2, k2, sc2⟩) rfl hb0' hD' j1 j2 j3 j4 hrow' hown hgrow hat ((stepL_next HOL.out HWH.out).trans (by simp [stepL, projP, H1.out])))
                      exact AllReadyIn.nil
                    exact AllReadyIn.nil
                  exact AllReadyIn.nil
                exact AllReadyIn.nil
              exact AllReadyIn.nil
            exact AllReadyIn.nil
          refine AllReadyIn.cons rfl (fun K hK => ?_) ?_
          · go_simp; refine hK _ _ ?_; clear hK K
            refine wpAnyIn_ready (rs := [0, 2]) (by kernel_rfl) (by simp) ?_
            refine AllReadyIn.cons rfl (fun K hK => ?_) ?_
            · go_simp; refine hK _ _ ?_; clear hK K
              refine wpAnyIn_ready (rs := [2]) (by kernel_rfl) (by simp) ?_
              refine AllReadyIn.cons rfl (fun K hK => ?_) ?_
              · go_simp; refine hK _ _ ?_; clear hK K
                refine wpAnyIn_ready (rs := [3]) (by kernel_rfl) (by simp) ?_
                refine AllReadyIn.cons rfl (fun K hK => ?_) ?_
                · go_simp; refine hK _ _ ?_; clear hK K
                  refine wpAnyIn_ready (rs := [4]) (by kernel_rfl) (by simp) ?_
                  refine AllReadyIn.cons rfl (fun K hK => ?_) ?_
                  · go_simp; refine hK _ _ ?_; clear hK K
                    refine wpAnyIn_ready (rs := [5]) (by kernel_rfl) (by simp) ?_
                    refine AllReadyIn.cons rfl (fun K hK => ?_) ?_
                    · refine step_append_in rfl _ _ 46 rfl (w.heap.size + 6) 38 j0 _ 6 56 Try.underlying46 hi0 hy0 hy1 hy2 rfl (by decide) (.slice A2 OL.length cp2) OL.length (flatC OL) rfl HRA.out ⟨W'.heap.size, 0, none⟩ 1 1 (chV ⟨s2, e2, m2, al2, k2, sc2⟩) rfl rfl hcw (chV_one _) (by simp only [maxLen]; omega) (by omega) (by simp; omega) ?_; intro v' w6 hown hgrow hat; obtain ⟨g', cap', rfl⟩ := ownsRow_succ hown; refine hK _ _ ?_; clear hK K; obtain ⟨hb6, hk6⟩ := row_grown HRA.out hgrow (by simp; omega); have hbo6 : w6.cell? ⟨w.heap.size + 1, 0, none⟩ = some (.slice A2 OL.length cp2) := (hb6.cell (p := ⟨w.heap.size + 1, 0, none⟩) (by simp)).trans (by go_simp); have hfo6 : w6.frozen? ⟨w.heap.size + 1, 0, none⟩ = false := (hb6.frozen (p := ⟨w.heap.size + 1, 0, none⟩) (by simp)).trans (by go_simp)
                      refine wpAnyIn_ready (rs := [6]) (by kernel_rfl) (by simp) ?_
                      refine AllReadyIn.cons rfl (fun K hK => ?_) ?_
                      · go_simp; refine hK _ _ ?_; clear hK K
                        refine wpAnyIn_done (by kernel_rfl) ?_ _
                        gi_wp2
                        exact (fun h => ⟨hkf.trans h.1, hkp.trans h.2.1, h.2.2⟩) (round_app (c := ⟨s2, e2, m2, al2, k2, sc2⟩) rfl hb0' hD' j1 j2 j3 j4 hrow' hown hgrow hat ((stepL_next HOL.out HWH.out).trans (by simp [stepL, projP, H1.out])))
                      exact AllReadyIn.nil
                    exact AllReadyIn.nil
                  exact AllReadyIn.nil
                exact AllReadyIn.nil
              exact AllReadyIn.nil
            refine AllReadyIn.cons rfl (fun K hK => ?_) ?_
            · go_simp; refine hK _ _ ?_; clear hK K
              refine wpAnyIn_ready (rs := [0, 3]) (by kernel_rfl) (by simp) ?_
              refine AllReadyIn.cons rfl (fun K hK => ?_) ?_
              · go_simp; refine hK _ _ ?_; clear hK K
                refine wpAnyIn_ready (rs := [3]) (by kernel_rfl) (by simp) ?_
                refine AllReadyIn.cons rfl (fun K hK => ?_) ?_
                · go_simp; refine hK _ _ ?_; clear hK K
                  refine wpAnyIn_ready (rs := [4]) (by kernel_rfl) (by simp) ?_
                  refine AllReadyIn.cons rfl (fun K hK => ?_) ?_
                  · go_simp; refine hK _ _ ?_; clear hK K
                    refine wpAnyIn_ready (rs := [5]) (by kernel_rfl) (by simp) ?_
                    refine AllReadyIn.cons rfl (fun K hK => ?_) ?_
                    · refine step_append_in rfl _ _ 46 rfl (w.heap.size + 6) 38 j0 _ 6 56 Try.underlying46 hi0 hy0 hy1 hy2 rfl (by decide) (.slice A2 OL.length cp2) OL.length (flatC OL) rfl HRA.out ⟨W'.heap.size, 0, none⟩ 1 1 (chV ⟨s2, e2, m2, al2, k2, sc2⟩) rfl rfl hcw (chV_one _) (by simp only [maxLen]; omega) (by omega) (by simp; omega) ?_; intro v' w6 hown hgrow hat; obtain ⟨g', cap', rfl⟩ := ownsRow_succ hown; refine hK _ _ ?_; clear hK K; obtain ⟨hb6, hk6⟩ := row_grown HRA.out hgrow (by simp; omega); have hbo6 : w6.cell? ⟨w.heap.size + 1, 0, none⟩ = some (.slice A2 OL.length cp2) := (hb6.cell (p := ⟨w.heap.size + 1, 0, none⟩) (by simp)).trans (by go_simp); have hfo6 : w6.frozen? ⟨w.heap.size + 1, 0, none⟩ = false := (hb6.frozen (p := ⟨w.heap.size + 1, 0, none⟩) (by simp)).trans (by go_simp)
                      refine wpAnyIn_ready (rs := [6]) (by kernel_rfl) (by simp) ?_
                      refine AllReadyIn.cons rfl (fun K hK => ?_) ?_
                      · go_simp; refine hK _ _ ?_; clear hK K
                        refine wpAnyIn_done (by kernel_rfl) ?_ _
                        gi_wp2
                        exact (fun h => ⟨hkf.trans h.1, hkp.trans h.2.1, h.2.2⟩) (round_app (c := ⟨s2, e2, m2, al2, k2, sc2⟩) rfl hb0' hD' j1 j2 j3 j4 hrow' hown hgrow hat ((stepL_next HOL.out HWH.out).trans (by simp [stepL, projP, H1.out])))
                      exact AllReadyIn.nil
                    exact AllReadyIn.nil
                  exact AllReadyIn.nil
                exact AllReadyIn.nil
              refine AllReadyIn.cons rfl (fun K hK => ?_) ?_
              · go_simp; refine hK _ _ ?_; clear hK K
                refine wpAnyIn_ready (rs := [0, 4]) (by kernel_rfl) (by simp) ?_
                refine AllReadyIn.cons rfl (fun K hK => ?_) ?_
                · go_simp; refine hK _ _ ?_; clear hK K
                  refine wpAnyIn_ready (rs := [4]) (by kernel_rfl) (by simp) ?_
                  refine AllReadyIn.cons rfl (fun K hK => ?_) ?_
                  · go_simp; refine hK _ _ ?_; clear hK K
                    refine wpAnyIn_ready (rs := [5]) (by kernel_rfl) (by simp) ?_
                    refine AllReadyIn.cons rfl (fun K hK => ?_) ?_
                    · refine step_append_in rfl _ _ 46 rfl (w.heap.size + 6) 38 j0 _ 6 56 Try.underlying46 hi0 hy0 hy1 hy2 rfl (by decide) (.slice A2 OL.length cp2) OL.length (flatC OL) rfl HRA.out ⟨W'.heap.size, 0, none⟩ 1 1 (chV ⟨s2, e2, m2, al2, k2, sc2⟩) rfl rfl hcw (chV_one _) (by simp only [maxLen]; omega) (by omega) (by simp; omega) ?_; intro v' w6 hown hgrow hat; obtain ⟨g', cap', rfl⟩ := ownsRow_succ hown; refine hK _ _ ?_; clear hK K; obtain ⟨hb6, hk6⟩ := row_grown HRA.out hgrow (by simp; omega); have hbo6 : w6.cell? ⟨w.heap.size + 1, 0, none⟩ = some (.slice A2 OL.length cp2) := (hb6.cell (p := ⟨w.heap.size + 1, 0, none⟩) (by simp)).trans (by go_simp); have hfo6 : w6.frozen? ⟨w.heap.size + 1, 0, none⟩ = false := (hb6.frozen (p := ⟨w.heap.size + 1, 0, none⟩) (by simp)).trans (by go_simp)
                      refine wpAnyIn_ready (rs := [6]) (by kernel_rfl) (by simp) ?_
                      refine AllReadyIn.cons rfl (fun K hK => ?_) ?_
                      · go_simp; refine hK _ _ ?_; clear hK K
                        refine wpAnyIn_done (by kernel_rfl) ?_ _
                        gi_wp2
                        exact (fun h => ⟨hkf.trans h.1, hkp.trans h.2.1, h.2.2⟩) (round_app (c := ⟨s2, e2, m2, al2, k2, sc2⟩) rfl hb0' hD' j1 j2 j3 j4 hrow' hown hgrow hat ((stepL_next HOL.out HWH.out).trans (by simp [stepL, projP, H1.out])))
                      exact AllReadyIn.nil
                    exact AllReadyIn.nil
                  exact AllReadyIn.nil
                refine AllReadyIn.cons rfl (fun K hK => ?_) ?_
                · go_simp; refine hK _ _ ?_; clear hK K
                  refine wpAnyIn_ready (rs := [0]) (by kernel_rfl) (by simp) ?_
                  refine AllReadyIn.cons rfl (fun K hK => ?_) ?_
                  · go_simp; refine hK _ _ ?_; clear hK K
                    refine wpAnyIn_ready (rs := [5]) (by kernel_rfl) (by simp) ?_
                    refine AllReadyIn.cons rfl (fun K hK => ?_) ?_
                    · refine step_append_in rfl _ _ 46 rfl (w.heap.size + 6) 38 j0 _ 6 56 Try.underlying46 hi0 hy0 hy1 hy2 rfl (by decide) (.slice A2 OL.length cp2) OL.length (flatC OL) rfl HRA.out ⟨W'.heap.size, 0, none⟩ 1 1 (chV ⟨s2, e2, m2, al2, k2, sc2⟩) rfl rfl hcw (chV_one _) (by simp only [maxLen]; omega) (by omega) (by simp; omega) ?_; intro v' w6 hown hgrow hat; obtain ⟨g', cap', rfl⟩ := ownsRow_succ hown; refine hK _ _ ?_; clear hK K; obtain ⟨hb6, hk6⟩ := row_grown HRA.out hgrow (by simp; omega); have hbo6 : w6.cell? ⟨w.heap.size + 1, 0, none⟩ = some (.slice A2 OL.length cp2) := (hb6.cell (p := ⟨w.heap.size + 1, 0, none⟩) (by simp)).trans (by go_simp); have hfo6 : w6.frozen? ⟨w.heap.size + 1, 0, none⟩ = false := (hb6.frozen (p := ⟨w.heap.size + 1, 0, none⟩) (by simp)).trans (by go_simp)
                      refine wpAnyIn_ready (rs := [6]) (by kernel_rfl) (by simp) ?_
                      refine AllReadyIn.cons rfl (fun K hK => ?_) ?_
                      · go_simp; refine hK _ _ ?_; clear hK K
                        refine wpAnyIn_done (by kernel_rfl) ?_ _
                        gi_wp2
                        exact (fun h => ⟨hkf.trans h.1, hkp.trans h.2.1, h.2.2⟩) (round_app (c := ⟨s2, e2, m2, al2, k2, sc2⟩) rfl hb0' hD' j1 j2 j3 j4 hrow' hown hgrow hat ((stepL_next HOL.out HWH.out).trans (by simp [stepL, projP, H1.out])))
                      exact AllReadyIn.nil
                    exact AllReadyIn.nil
                  exact AllReadyIn.nil
                exact AllReadyIn.nil
              exact AllReadyIn.nil
            exact AllReadyIn.nil
          exact AllReadyIn.nil
          | false =>
          rw [h1] at cs
          cases h2 : stampB e1 m1 e2 m2 with
          | true =>
            rw [h2] at ct
            have CS := Lib.hid cs; have CT := Lib.hid ct; have H1 := Lib.hid h1; have H2 := Lib.hid h2
            clear cs ct h1 h2
            gi_wp2
            refine wpIn_region_quietC (KeptC W [(p, .string s1), (⟨p.block, p.off + 1, none⟩, .int .i64 e1), (⟨p.block, p.off + 2, none⟩, .int .i64 m1), (⟨p.block, p.off + 3, none⟩, .bool al1), (⟨p.block, p.off + 4, none⟩, .int .i64 k1), (⟨p.block, p.off + 5, none⟩, .int .i64 sc1), (q, .string s2), (⟨q.block, q.off + 1, none⟩, .int .i64 e2), (⟨q.block, q.off + 2, none⟩, .int .i64 m2), (⟨q.block, q.off + 3, none⟩, .bool al2), (⟨q.block, q.off + 4, none⟩, .int .i64 k2), (⟨q.block, q.off + 5, none⟩, .int .i64 sc2), (⟨w.heap.size + 1, 0, none⟩, .slice A2 OL.length cp2), (⟨w.heap.size + 2, 0, none⟩, .int .i64 WH)] [⟨w.heap.size + 1, 0, none⟩, ⟨w.heap.size + 2, 0, none⟩]) (by kernel_rfl) (by kernel_rfl) (by kernel_rfl) ?_ ?_
            · refine KeptC.drewn ?_
              repeat' (first | refine KeptC.cons ?_ ?_ | refine KeptC.consF ?_ ?_ ?_ | refine KeptC.mk0 ?_)
              all_goals (first | with_reducible assumption | (go_simp; done) | (simp; omega) | exact (by repeat (first | with_reducible refine Below.setCell ?_ (by first | (simp; done) | (simp; omega) | omega) _ | with_reducible refine Below.alloc ?_ (by first | (simp; done) | (simp; omega) | omega) _ | with_reducible refine Below.drew ?_ | with_reducible refine below_drewN ?_ _ | with_reducible exact Below.refl _ _)))
            repeat (first
              | go_big_quiet_skip
              | (go_big_quiet_want; (refine quietC_run (v := .agg #[.int .i64 e2, .int .i64 m2]) ?_ ?_); (· intro w' hw'; (have hk' := hw'; simp only [KeptC, List.forall_mem_cons] at hk'; go_split_ands); go_simp; first | done | rfl); (simp only [Act.put, List.setIfInBounds_toArray, List.set_cons_zero, List.set_cons_succ]; go_big_quiet_on))
               | (go_big_quiet_want; (refine quietC_run (v := .agg #[.int .i64 e1, .int .i64 m1]) ?_ ?_); (· intro w' hw'; (have hk' := hw'; simp only [KeptC, List.forall_mem_cons] at hk'; go_split_ands); go_simp; first | done | rfl); (simp only [Act.put, List.setIfInBounds_toArray, List.set_cons_zero, List.set_cons_succ]; go_big_quiet_on))
              | (go_big_quiet_want; (apply quietC_run); (· intro w' hw'; (have hk' := hw'; simp only [KeptC, List.forall_mem_cons] at hk'; go_split_ands); go_simp; first | done | rfl); (simp only [Act.put, List.setIfInBounds_toArray, List.set_cons_zero, List.set_cons_succ]; go_big_quiet_on))
              | (go_big_quiet_want; (apply quietC_call); (· intro w' hw'; go_simp; first | done | exact ⟨rfl, rfl⟩ | rfl); (· intro w' hw'; first | ((with_reducible refine (of_any _ _ _ _ _ _ _).mono ?_); rintro e w2 ⟨rfl, hb⟩; exact ⟨rfl, hw'.below hb⟩) | ((with_reducible refine (CS.out _).mono ?_); rintro e w2 ⟨rfl, hb⟩; exact ⟨rfl, hw'.below hb⟩)); (simp only [Act.put, List.setIfInBounds_toArray, List.set_cons_zero, List.set_cons_succ]; go_big_quiet_on)))
            refine wpQuiet_nil ?_
            intro w21 hk21
            (have hk' := hk21; simp only [KeptC, List.forall_mem_cons] at hk'; go_split_ands); have hkB21 := hk21.1
            gi_wp2_with (fail)
            refine wpIn_region_quietC (KeptC W [(p, .string s1), (⟨p.block, p.off + 1, none⟩, .int .i64 e1), (⟨p.block, p.off + 2, none⟩, .int .i64 m1), (⟨p.block, p.off + 3, none⟩, .bool al1), (⟨p.block, p.off + 4, none⟩, .int .i64 k1), (⟨p.block, p.off + 5, none⟩, .int .i64 sc1), (q, .string s2), (⟨q.block, q.off + 1, none⟩, .int .i64 e2), (⟨q.block, q.off + 2, none⟩, .int .i64 m2), (⟨q.block, q.off + 3, none⟩, .bool al2), (⟨q.block, q.off + 4, none⟩, .int .i64 k2), (⟨q.block, q.off + 5, none⟩, .int .i64 sc2), (⟨w.heap.size + 1, 0, none⟩, .slice A2 OL.length cp2), (⟨w.heap.size + 2, 0, none⟩, .int .i64 WH)] [⟨w.heap.size + 1, 0, none⟩, ⟨w.heap.size + 2, 0, none⟩]) (by kernel_rfl) (by kernel_rfl) (by kernel_rfl) ?_ ?_
            · refine KeptC.drewn ?_
              repeat' (first | refine KeptC.cons ?_ ?_ | refine KeptC.consF ?_ ?_ ?_ | refine KeptC.mk0 ?_)
              all_goals (first | with_reducible assumption | (go_simp; done) | (simp; omega) | exact (by repeat (first | with_reducible refine Below.setCell ?_ (by first | (simp; done) | (simp; omega) | omega) _ | with_reducible refine Below.alloc ?_ (by first | (simp; done) | (simp; omega) | omega) _ | with_reducible refine Below.drew ?_ | with_reducible refine below_drewN ?_ _ | with_reducible exact Below.refl _ _ | with_reducible refine Below.trans ?_ (Below.mono hkB21 (by first | (simp; done) | (simp; omega) | omega)))))
            repeat (first
              | go_big_quiet_skip
              | (go_big_quiet_want; (refine quietC_run (v := .agg #[.int .i64 e2, .int .i64 m2]) ?_ ?_); (· intro w' hw'; (have hk' := hw'; simp only [KeptC, List.forall_mem_cons] at hk'; go_split_ands); go_simp; first | done | rfl); (simp only [Act.put, List.setIfInBounds_toArray, List.set_cons_zero, List.set_cons_succ]; go_big_quiet_on))
               | (go_big_quiet_want; (refine quietC_run (v := .agg #[.int .i64 e1, .int .i64 m1]) ?_ ?_); (· intro w' hw'; (have hk' := hw'; simp only [KeptC, List.forall_mem_cons] at hk'; go_split_ands); go_simp; first | done | rfl); (simp only [Act.put, List.setIfInBounds_toArray, List.set_cons_zero, List.set_cons_succ]; go_big_quiet_on))
              | (go_big_quiet_want; (apply quietC_run); (· intro w' hw'; (have hk' := hw'; simp only [KeptC, List.forall_mem_cons] at hk'; go_split_ands); go_simp; first | done | rfl); (simp only [Act.put, List.setIfInBounds_toArray, List.set_cons_zero, List.set_cons_succ]; go_big_quiet_on))
              | (go_big_quiet_want; (apply quietC_call); (· intro w' hw'; go_simp; first | done | exact ⟨rfl, rfl⟩ | rfl); (· intro w' hw'; first | ((with_reducible refine (of_any _ _ _ _ _ _ _).mono ?_); rintro e w2 ⟨rfl, hb⟩; exact ⟨rfl, hw'.below hb⟩) | ((with_reducible refine (CT.out _).mono ?_); rintro e w2 ⟨rfl, hb⟩; exact ⟨rfl, hw'.below hb⟩)); (simp only [Act.put, List.setIfInBounds_toArray, List.set_cons_zero, List.set_cons_succ]; go_big_quiet_on)))
            refine wpQuiet_nil ?_
            intro w22 hk22
            (have hk' := hk22; simp only [KeptC, List.forall_mem_cons] at hk'; go_split_ands); have hkB22 := hk22.1
            gi_wp2_with (fail)
            refine layIn (Told w W (w.heap.size + 6) A2 cp2 OL 1 p ⟨s1, e1, m1, al1, k1, sc1⟩) (told_set rfl hb0 hD i1 i2 i3 i4 hrow hkB22 ⟨b0, b1, b2, b3, b4, b5⟩) ?_
            intro W' ⟨hkf, hkp, hb0', hD', j1, j2, j3, j4, hrow', d0, d1, d2, d3, d4, d5⟩
            clear i1 i2 i3 i4 hrow b0 b1 b2 b3 b4 b5 c0 c1 c2 c3 c4 c5 hkB22 hk22 hBW hBX
            have hpw' := cell_lt d0
            have hBW : w.heap.size + 1 < W'.heap.size := cell_lt j1
            have HRA : Hid ((W'.alloc (Obj.cells #[.string s1, .int .i64 e1, .int .i64 m1, .bool al1, .int .i64 k1, .int .i64 sc1] 38)).drew.ownsRow (w.heap.size + 6) 38 6 (.slice A2 OL.length cp2) OL.length (flatC OL)) := hrow'.alloc _
            have hcw := cells_new W'.drew ⟨s1, e1, m1, al1, k1, sc1⟩
            gi_wp2_with (fail)
            refine wpIn_region_any hmx ?_
            change wpAnyIn _ _ _ _ _ _ _ _ _ (World.drew _)
            refine wpAnyIn_ready (rs := [0, 1]) (by kernel_rfl) (by simp) ?_
            refine AllReadyIn.cons rfl (fun K hK => ?_) ?_
            · go_simp; refine hK _ _ ?_; clear hK K
              refine wpAnyIn_ready (rs := [1]) (by kernel_rfl) (by simp) ?_
              refine AllReadyIn.cons rfl (fun K hK => ?_) ?_
              · go_simp; refine hK _ _ ?_; clear hK K
                refine wpAnyIn_ready (rs := [2]) (by kernel_rfl) (by simp) ?_
                refine AllReadyIn.cons rfl (fun K hK => ?_) ?_
                · go_simp; refine hK _ _ ?_; clear hK K
                  refine wpAnyIn_ready (rs := [3]) (by kernel_rfl) (by simp) ?_
                  refine AllReadyIn.cons rfl (fun K hK => ?_) ?_
                  · go_simp; refine hK _ _ ?_; clear hK K
                    refine wpAnyIn_ready (rs := [4]) (by kernel_rfl) (by simp) ?_
                    refine AllReadyIn.cons rfl (fun K hK => ?_) ?_
                    · go_simp; refine hK _ _ ?_; clear hK K
                      refine wpAnyIn_ready (rs := [5]) (by kernel_rfl) (by simp) ?_
                      refine AllReadyIn.cons rfl (fun K hK => ?_) ?_
                      · refine step_append_in rfl _ _ 46 rfl (w.heap.size + 6) 38 j0 _ 6 56 Try.underlying46 hi0 hy0 hy1 hy2 rfl (by decide) (.slice A2 OL.length cp2) OL.length (flatC OL) rfl HRA.out ⟨W'.heap.size, 0, none⟩ 1 1 (chV ⟨s1, e1, m1, al1, k1, sc1⟩) rfl rfl hcw (chV_one _) (by simp only [maxLen]; omega) (by omega) (by simp; omega) ?_; intro v' w6 hown hgrow hat; obtain ⟨g', cap', rfl⟩ := ownsRow_succ hown; refine hK _ _ ?_; clear hK K; obtain ⟨hb6, hk6⟩ := row_grown HRA.out hgrow (by simp; omega); have hbo6 : w6.cell? ⟨w.heap.size + 1, 0, none⟩ = some (.slice A2 OL.length cp2) := (hb6.cell (p := ⟨w.heap.size + 1, 0, none⟩) (by simp)).trans (by go_simp); have hfo6 : w6.frozen? ⟨w.heap.size + 1, 0, none⟩ = false := (hb6.frozen (p := ⟨w.heap.size + 1, 0, none⟩) (by simp)).trans (by go_simp)
                        refine wpAnyIn_ready (rs := [6]) (by kernel_rfl) (by simp) ?_
                        refine AllReadyIn.cons rfl (fun K hK => ?_) ?_
                        · go_simp; refine hK _ _ ?_; clear hK K
                          refine wpAnyIn_done (by kernel_rfl) ?_ _
                          gi_wp2
                          exact (fun h => ⟨hkf.trans h.1, hkp.trans h.2.1, h.2.2⟩) (round_app (c := ⟨s1, e1, m1, al1, k1, sc1⟩) rfl hb0' hD' j1 j2 j3 j4 hrow' hown hgrow hat ((stepL_next HOL.out HWH.out).trans (by simp [stepL, projP, H1.out, H2.out])))
                        exact AllReadyIn.nil
                      exact AllReadyIn.nil
                    exact AllReadyIn.nil
                  exact AllReadyIn.nil
                exact AllReadyIn.nil
              exact AllReadyIn.nil
            refine AllReadyIn.cons rfl (fun K hK => ?_) ?_
            · go_simp; refine hK _ _ ?_; clear hK K
              refine wpAnyIn_ready (rs := [0, 2]) (by kernel_rfl) (by simp) ?_
              refine AllReadyIn.cons rfl (fun K hK => ?_) ?_
              · go_simp; refine hK _ _ ?_; clear hK K
                refine wpAnyIn_ready (rs := [2]) (by kernel_rfl) (by simp) ?_
                refine AllReadyIn.cons rfl (fun K hK => ?_) ?_
                · go_simp; refine hK _ _ ?_; clear hK K
                  refine wpAnyIn_ready (rs := [3]) (by kernel_rfl) (by simp) ?_
                  refine AllReadyIn.cons rfl (fun K hK => ?_) ?_
                  · go_simp; refine hK _ _ ?_; clear hK K
                    refine wpAnyIn_ready (rs := [4]) (by kernel_rfl) (by simp) ?_
                    refine AllReadyIn.cons rfl (fun K hK => ?_) ?_
                    · go_simp; refine hK _ _ ?_; clear hK K
                      refine wpAnyIn_ready (rs := [5]) (by kernel_rfl) (by simp) ?_
                      refine AllReadyIn.cons rfl (fun K hK => ?_) ?_
                      · refine step_append_in rfl _ _ 46 rfl (w.heap.size + 6) 38 j0 _ 6 56 Try.underlying46 hi0 hy0 hy1 hy2 rfl (by decide) (.slice A2 OL.length cp2) OL.length (flatC OL) rfl HRA.out ⟨W'.heap.size, 0, none⟩ 1 1 (chV ⟨s1, e1, m1, al1, k1, sc1⟩) rfl rfl hcw (chV_one _) (by simp only [maxLen]; omega) (by omega) (by simp; omega) ?_; intro v' w6 hown hgrow hat; obtain ⟨g', cap', rfl⟩ := ownsRow_succ hown; refine hK _ _ ?_; clear hK K; obtain ⟨hb6, hk6⟩ := row_grown HRA.out hgrow (by simp; omega); have hbo6 : w6.cell? ⟨w.heap.size + 1, 0, none⟩ = some (.slice A2 OL.length cp2) := (hb6.cell (p := ⟨w.heap.size + 1, 0, none⟩) (by simp)).trans (by go_simp); have hfo6 : w6.frozen? ⟨w.heap.size + 1, 0, none⟩ = false := (hb6.frozen (p := ⟨w.heap.size + 1, 0, none⟩) (by simp)).trans (by go_simp)
                        refine wpAnyIn_ready (rs := [6]) (by kernel_rfl) (by simp) ?_
                        refine AllReadyIn.cons rfl (fun K hK => ?_) ?_
                        · go_simp; refine hK _ _ ?_; clear hK K
                          refine wpAnyIn_done (by kernel_rfl) ?_ _
                          gi_wp2
                          exact (fun h => ⟨hkf.trans h.1, hkp.trans h.2.1, h.2.2⟩) (round_app (c := ⟨s1, e1, m1, al1, k1, sc1⟩) rfl hb0' hD' j1 j2 j3 j4 hrow' hown hgrow hat ((stepL_next HOL.out HWH.out).trans (by simp [stepL, projP, H1.out, H2.out])))
                        exact AllReadyIn.nil
                      exact AllReadyIn.nil
                    exact AllReadyIn.nil
                  exact AllReadyIn.nil
                exact AllReadyIn.nil
              refine AllReadyIn.cons rfl (fun K hK => ?_) ?_
              · go_simp; refine hK _ _ ?_; clear hK K
                refine wpAnyIn_ready (rs := [0, 3]) (by kernel_rfl) (by simp) ?_
                refine AllReadyIn.cons rfl (fun K hK => ?_) ?_
                · go_simp; refine hK _ _ ?_; clear hK K
                  refine wpAnyIn_ready (rs := [3]) (by kernel_rfl) (by simp) ?_
                  refine AllReadyIn.cons rfl (fun K hK => ?_) ?_
                  · go_simp; refine hK _ _ ?_; clear hK K
                    refine wpAnyIn_ready (rs := [4]) (by kernel_rfl) (by simp) ?_
                    refine AllReadyIn.cons rfl (fun K hK => ?_) ?_
                    · go_simp; refine hK _ _ ?_; clear hK K
                      refine wpAnyIn_ready (rs := [5]) (by kernel_rfl) (by simp) ?_
                      refine AllReadyIn.cons rfl (fun K hK => ?_) ?_
                      · refine step_append_in rfl _ _ 46 rfl (w.heap.size + 6) 38 j0 _ 6 56 Try.underlying46 hi0 hy0 hy1 hy2 rfl (by decide) (.slice A2 OL.length cp2) OL.length (flatC OL) rfl HRA.out ⟨W'.heap.size, 0, none⟩ 1 1 (chV ⟨s1, e1, m1, al1, k1, sc1⟩) rfl rfl hcw (chV_one _) (by simp only [maxLen]; omega) (by omega) (by simp; omega) ?_; intro v' w6 hown hgrow hat; obtain ⟨g', cap', rfl⟩ := ownsRow_succ hown; refine hK _ _ ?_; clear hK K; obtain ⟨hb6, hk6⟩ := row_grown HRA.out hgrow (by simp; omega); have hbo6 : w6.cell? ⟨w.heap.size + 1, 0, none⟩ = some (.slice A2 OL.length cp2) := (hb6.cell (p := ⟨w.heap.size + 1, 0, none⟩) (by simp)).trans (by go_simp); have hfo6 : w6.frozen? ⟨w.heap.size + 1, 0, none⟩ = false := (hb6.frozen (p := ⟨w.heap.size + 1, 0, none⟩) (by simp)).trans (by go_simp)
                        refine wpAnyIn_ready (rs := [6]) (by kernel_rfl) (by simp) ?_
                        refine AllReadyIn.cons rfl (fun K hK => ?_) ?_
                        · go_simp; refine hK _ _ ?_; clear hK K
                          refine wpAnyIn_done (by kernel_rfl) ?_ _
                          gi_wp2
                          exact (fun h => ⟨hkf.trans h.1, hkp.trans h.2.1, h.2.2⟩) (round_app (c := ⟨s1, e1, m1, al1, k1, sc1⟩) rfl hb0' hD' j1 j2 j3 j4 hrow' hown hgrow hat ((stepL_next HOL.out HWH.out).trans (by simp [stepL, projP, H1.out, H2.out])))
                        exact AllReadyIn.nil
                      exact AllReadyIn.nil
                    exact AllReadyIn.nil
                  exact AllReadyIn.nil
                refine AllReadyIn.cons rfl (fun K hK => ?_) ?_
                · go_simp; refine hK _ _ ?_; clear hK K
                  refine wpAnyIn_ready (rs := [0, 4]) (by kernel_rfl) (by simp) ?_
                  refine AllReadyIn.cons rfl (fun K hK => ?_) ?_
                  · go_simp; refine hK _ _ ?_; clear hK K
                    refine wpAnyIn_ready (rs := [4]) (by kernel_rfl) (by simp) ?_
                    refine AllReadyIn.cons rfl (fun K hK => ?_) ?_
                    · go_simp; refine hK _ _ ?_; clear hK K
                      refine wpAnyIn_ready (rs := [5]) (by kernel_rfl) (by simp) ?_
                      refine AllReadyIn.cons rfl (fun K hK => ?_) ?_
                      · refine step_append_in rfl _ _ 46 rfl (w.heap.size + 6) 38 j0 _ 6 56 Try.underlying46 hi0 hy0 hy1 hy2 rfl (by decide) (.slice A2 OL.length cp2) OL.length (flatC OL) rfl HRA.out ⟨W'.heap.size, 0, none⟩ 1 1 (chV ⟨s1, e1, m1, al1, k1, sc1⟩) rfl rfl hcw (chV_one _) (by simp only [maxLen]; omega) (by omega) (by simp; omega) ?_; intro v' w6 hown hgrow hat; obtain ⟨g', cap', rfl⟩ := ownsRow_succ hown; refine hK _ _ ?_; clear hK K; obtain ⟨hb6, hk6⟩ := row_grown HRA.out hgrow (by simp; omega); have hbo6 : w6.cell? ⟨w.heap.size + 1, 0, none⟩ = some (.slice A2 OL.length cp2) := (hb6.cell (p := ⟨w.heap.size + 1, 0, none⟩) (by simp)).trans (by go_simp); have hfo6 : w6.frozen? ⟨w.heap.size + 1, 0, none⟩ = false := (hb6.frozen (p := ⟨w.heap.size + 1, 0, none⟩) (by simp)).trans (by go_simp)
                        refine wpAnyIn_ready (rs := [6]) (by kernel_rfl) (by simp) ?_
                        refine AllReadyIn.cons rfl (fun K hK => ?_) ?_
                        · go_simp; refine hK _ _ ?_; clear hK K
                          refine wpAnyIn_done (by kernel_rfl) ?_ _
                          gi_wp2
                          exact (fun h => ⟨hkf.trans h.1, hkp.trans h.2.1, h.2.2⟩) (round_app (c := ⟨s1, e1, m1, al1, k1, sc1⟩) rfl hb0' hD' j1 j2 j3 j4 hrow' hown hgrow hat ((stepL_next HOL.out HWH.out).trans (by simp [stepL, projP, H1.out, H2.out])))
                        exact AllReadyIn.nil
                      exact AllReadyIn.nil
                    exact AllReadyIn.nil
                  refine AllReadyIn.cons rfl (fun K hK => ?_) ?_
                  · go_simp; refine hK _ _ ?_; clear hK K
                    refine wpAnyIn_ready (rs := [0]) (by kernel_rfl) (by simp) ?_
                    refine AllReadyIn.cons rfl (fun K hK => ?_) ?_
                    · go_simp; refine hK _ _ ?_; clear hK K
                      refine wpAnyIn_ready (rs := [5]) (by kernel_rfl) (by simp) ?_
                      refine AllReadyIn.cons rfl (fun K hK => ?_) ?_
                      · refine step_append_in rfl _ _ 46 rfl (w.heap.size + 6) 38 j0 _ 6 56 Try.underlying46 hi0 hy0 hy1 hy2 rfl (by decide) (.slice A2 OL.length cp2) OL.length (flatC OL) rfl HRA.out ⟨W'.heap.size, 0, none⟩ 1 1 (chV ⟨s1, e1, m1, al1, k1, sc1⟩) rfl rfl hcw (chV_one _) (by simp only [maxLen]; omega) (by omega) (by simp; omega) ?_; intro v' w6 hown hgrow hat; obtain ⟨g', cap', rfl⟩ := ownsRow_succ hown; refine hK _ _ ?_; clear hK K; obtain ⟨hb6, hk6⟩ := row_grown HRA.out hgrow (by simp; omega); have hbo6 : w6.cell? ⟨w.heap.size + 1, 0, none⟩ = some (.slice A2 OL.length cp2) := (hb6.cell (p := ⟨w.heap.size + 1, 0, none⟩) (by simp)).trans (by go_simp); have hfo6 : w6.frozen? ⟨w.heap.size + 1, 0, none⟩ = false := (hb6.frozen (p := ⟨w.heap.size + 1, 0, none⟩) (by simp)).trans (by go_simp)
                        refine wpAnyIn_ready (rs := [6]) (by kernel_rfl) (by simp) ?_
                        refine AllReadyIn.cons rfl (fun K hK => ?_) ?_
                        · go_simp; refine hK _ _ ?_; clear hK K
                          refine wpAnyIn_done (by kernel_rfl) ?_ _
                          gi_wp2
                          exact (fun h => ⟨hkf.trans h.1, hkp.trans h.2.1, h.2.2⟩) (round_app (c := ⟨s1, e1, m1, al1, k1, sc1⟩) rfl hb0' hD' j1 j2 j3 j4 hrow' hown hgrow hat ((stepL_next HOL.out HWH.out).trans (by simp [stepL, projP, H1.out, H2.out])))
                        exact AllReadyIn.nil
                      exact AllReadyIn.nil
                    exact AllReadyIn.nil
                  exact AllReadyIn.nil
                exact AllReadyIn.nil
              exact AllReadyIn.nil
            exact AllReadyIn.nil
    
          | false =>
            rw [h2] at ct
            have CS := Lib.hid cs; have CT := Lib.hid ct; have H1 := Lib.hid h1; have H2 := Lib.hid h2
            clear cs ct h1 h2
            gi_wp2
            refine wpIn_region_quietC (KeptC W [(p, .string s1), (⟨p.block, p.off + 1, none⟩, .int .i64 e1), (⟨p.block, p.off + 2, none⟩, .int .i64 m1), (⟨p.block, p.off + 3, none⟩, .bool al1), (⟨p.block, p.off + 4, none⟩, .int .i64 k1), (⟨p.block, p.off + 5, none⟩, .int .i64 sc1), (q, .string s2), (⟨q.block, q.off + 1, none⟩, .int .i64 e2), (⟨q.block, q.off + 2, none⟩, .int .i64 m2), (⟨q.block, q.off + 3, none⟩, .bool al2), (⟨q.block, q.off + 4, none⟩, .int .i64 k2), (⟨q.block, q.off + 5, none⟩, .int .i64 sc2), (⟨w.heap.size + 1, 0, none⟩, .slice A2 OL.length cp2), (⟨w.heap.size + 2, 0, none⟩, .int .i64 WH)] [⟨w.heap.size + 1, 0, none⟩, ⟨w.heap.size + 2, 0, none⟩]) (by kernel_rfl) (by kernel_rfl) (by kernel_rfl) ?_ ?_
            · refine KeptC.drewn ?_
              repeat' (first | refine KeptC.cons ?_ ?_ | refine KeptC.consF ?_ ?_ ?_ | refine KeptC.mk0 ?_)
              all_goals (first | with_reducible assumption | (go_simp; done) | (simp; omega) | exact (by repeat (first | with_reducible refine Below.setCell ?_ (by first | (simp; done) | (simp; omega) | omega) _ | with_reducible refine Below.alloc ?_ (by first | (simp; done) | (simp; omega) | omega) _ | with_reducible refine Below.drew ?_ | with_reducible refine below_drewN ?_ _ | with_reducible exact Below.refl _ _)))
            repeat (first
              | go_big_quiet_skip
              | (go_big_quiet_want; (refine quietC_run (v := .agg #[.int .i64 e2, .int .i64 m2]) ?_ ?_); (· intro w' hw'; (have hk' := hw'; simp only [KeptC, List.forall_mem_cons] at hk'; go_split_ands); go_simp; first | done | rfl); (simp only [Act.put, List.setIfInBounds_toArray, List.set_cons_zero, List.set_cons_succ]; go_big_quiet_on))
               | (go_big_quiet_want; (refine quietC_run (v := .agg #[.int .i64 e1, .int .i64 m1]) ?_ ?_); (· intro w' hw'; (have hk' := hw'; simp only [KeptC, List.forall_mem_cons] at hk'; go_split_ands); go_simp; first | done | rfl); (simp only [Act.put, List.setIfInBounds_toArray, List.set_cons_zero, List.set_cons_succ]; go_big_quiet_on))
              | (go_big_quiet_want; (apply quietC_run); (· intro w' hw'; (have hk' := hw'; simp only [KeptC, List.forall_mem_cons] at hk'; go_split_ands); go_simp; first | done | rfl); (simp only [Act.put, List.setIfInBounds_toArray, List.set_cons_zero, List.set_cons_succ]; go_big_quiet_on))
              | (go_big_quiet_want; (apply quietC_call); (· intro w' hw'; go_simp; first | done | exact ⟨rfl, rfl⟩ | rfl); (· intro w' hw'; first | ((with_reducible refine (of_any _ _ _ _ _ _ _).mono ?_); rintro e w2 ⟨rfl, hb⟩; exact ⟨rfl, hw'.below hb⟩) | ((with_reducible refine (CS.out _).mono ?_); rintro e w2 ⟨rfl, hb⟩; exact ⟨rfl, hw'.below hb⟩)); (simp only [Act.put, List.setIfInBounds_toArray, List.set_cons_zero, List.set_cons_succ]; go_big_quiet_on)))
            refine wpQuiet_nil ?_
            intro w21 hk21
            (have hk' := hk21; simp only [KeptC, List.forall_mem_cons] at hk'; go_split_ands); have hkB21 := hk21.1
            gi_wp2_with (fail)
            refine wpIn_region_quietC (KeptC W [(p, .string s1), (⟨p.block, p.off + 1, none⟩, .int .i64 e1), (⟨p.block, p.off + 2, none⟩, .int .i64 m1), (⟨p.block, p.off + 3, none⟩, .bool al1), (⟨p.block, p.off + 4, none⟩, .int .i64 k1), (⟨p.block, p.off + 5, none⟩, .int .i64 sc1), (q, .string s2), (⟨q.block, q.off + 1, none⟩, .int .i64 e2), (⟨q.block, q.off + 2, none⟩, .int .i64 m2), (⟨q.block, q.off + 3, none⟩, .bool al2), (⟨q.block, q.off + 4, none⟩, .int .i64 k2), (⟨q.block, q.off + 5, none⟩, .int .i64 sc2), (⟨w.heap.size + 1, 0, none⟩, .slice A2 OL.length cp2), (⟨w.heap.size + 2, 0, none⟩, .int .i64 WH)] [⟨w.heap.size + 1, 0, none⟩, ⟨w.heap.size + 2, 0, none⟩]) (by kernel_rfl) (by kernel_rfl) (by kernel_rfl) ?_ ?_
            · refine KeptC.drewn ?_
              repeat' (first | refine KeptC.cons ?_ ?_ | refine KeptC.consF ?_ ?_ ?_ | refine KeptC.mk0 ?_)
              all_goals (first | with_reducible assumption | (go_simp; done) | (simp; omega) | exact (by repeat (first | with_reducible refine Below.setCell ?_ (by first | (simp; done) | (simp; omega) | omega) _ | with_reducible refine Below.alloc ?_ (by first | (simp; done) | (simp; omega) | omega) _ | with_reducible refine Below.drew ?_ | with_reducible refine below_drewN ?_ _ | with_reducible exact Below.refl _ _ | with_reducible refine Below.trans ?_ (Below.mono hkB21 (by first | (simp; done) | (simp; omega) | omega)))))
            repeat (first
              | go_big_quiet_skip
              | (go_big_quiet_want; (refine quietC_run (v := .agg #[.int .i64 e2, .int .i64 m2]) ?_ ?_); (· intro w' hw'; (have hk' := hw'; simp only [KeptC, List.forall_mem_cons] at hk'; go_split_ands); go_simp; first | done | rfl); (simp only [Act.put, List.setIfInBounds_toArray, List.set_cons_zero, List.set_cons_succ]; go_big_quiet_on))
               | (go_big_quiet_want; (refine quietC_run (v := .agg #[.int .i64 e1, .int .i64 m1]) ?_ ?_); (· intro w' hw'; (have hk' := hw'; simp only [KeptC, List.forall_mem_cons] at hk'; go_split_ands); go_simp; first | done | rfl); (simp only [Act.put, List.setIfInBounds_toArray, List.set_cons_zero, List.set_cons_succ]; go_big_quiet_on))
              | (go_big_quiet_want; (apply quietC_run); (· intro w' hw'; (have hk' := hw'; simp only [KeptC, List.forall_mem_cons] at hk'; go_split_ands); go_simp; first | done | rfl); (simp only [Act.put, List.setIfInBounds_toArray, List.set_cons_zero, List.set_cons_succ]; go_big_quiet_on))
              | (go_big_quiet_want; (apply quietC_call); (· intro w' hw'; go_simp; first | done | exact ⟨rfl, rfl⟩ | rfl); (· intro w' hw'; first | ((with_reducible refine (of_any _ _ _ _ _ _ _).mono ?_); rintro e w2 ⟨rfl, hb⟩; exact ⟨rfl, hw'.below hb⟩) | ((with_reducible refine (CT.out _).mono ?_); rintro e w2 ⟨rfl, hb⟩; exact ⟨rfl, hw'.below hb⟩)); (simp only [Act.put, List.setIfInBounds_toArray, List.set_cons_zero, List.set_cons_succ]; go_big_quiet_on)))
            refine wpQuiet_nil ?_
            intro w22 hk22
            (have hk' := hk22; simp only [KeptC, List.forall_mem_cons] at hk'; go_split_ands); have hkB22 := hk22.1
            gi_wp2_with (fail)
            refine layIn (Told w W (w.heap.size + 6) A2 cp2 OL 2 p ⟨s1, e1, m1, al1, k1, sc1⟩) (told_set rfl hb0 hD i1 i2 i3 i4 hrow hkB22 ⟨b0, b1, b2, b3, b4, b5⟩) ?_
            intro W' ⟨hkf, hkp, hb0', hD', j1, j2, j3, j4, hrow', d0, d1, d2, d3, d4, d5⟩
            clear i1 i2 i3 i4 hrow b0 b1 b2 b3 b4 b5 c0 c1 c2 c3 c4 c5 hkB22 hk22 hBW hBX
            have hpw' := cell_lt d0
            have hBW : w.heap.size + 1 < W'.heap.size := cell_lt j1
            have HRA : Hid ((W'.alloc (Obj.cells #[.string s1, .int .i64 e1, .int .i64 m1, .bool al1, .int .i64 k1, .int .i64 sc1] 38)).drew.ownsRow (w.heap.size + 6) 38 6 (.slice A2 OL.length cp2) OL.length (flatC OL)) := hrow'.alloc _
            have hcw := cells_new W'.drew ⟨s1, e1, m1, al1, k1, sc1⟩
            gi_wp2_with (fail)
            refine wpIn_region_any hmx ?_
            change wpAnyIn _ _ _ _ _ _ _ _ _ (World.drew _)
            refine wpAnyIn_ready (rs := [0, 1]) (by kernel_rfl) (by simp) ?_
            refine AllReadyIn.cons rfl (fun K hK => ?_) ?_
            · go_simp; refine hK _ _ ?_; clear hK K
              refine wpAnyIn_ready (rs := [1]) (by kernel_rfl) (by simp) ?_
              refine AllReadyIn.cons rfl (fun K hK => ?_) ?_
              · go_simp; refine hK _ _ ?_; clear hK K
                refine wpAnyIn_ready (rs := [2]) (by kernel_rfl) (by simp) ?_
                refine AllReadyIn.cons rfl (fun K hK => ?_) ?_
                · go_simp; refine hK _ _ ?_; clear hK K
                  refine wpAnyIn_ready (rs := [3]) (by kernel_rfl) (by simp) ?_
                  refine AllReadyIn.cons rfl (fun K hK => ?_) ?_
                  · go_simp; refine hK _ _ ?_; clear hK K
                    refine wpAnyIn_ready (rs := [4]) (by kernel_rfl) (by simp) ?_
                    refine AllReadyIn.cons rfl (fun K hK => ?_) ?_
                    · go_simp; refine hK _ _ ?_; clear hK K
                      refine wpAnyIn_ready (rs := [5]) (by kernel_rfl) (by simp) ?_
                      refine AllReadyIn.cons rfl (fun K hK => ?_) ?_
                      · refine step_append_in rfl _ _ 46 rfl (w.heap.size + 6) 38 j0 _ 6 56 Try.underlying46 hi0 hy0 hy1 hy2 rfl (by decide) (.slice A2 OL.length cp2) OL.length (flatC OL) rfl HRA.out ⟨W'.heap.size, 0, none⟩ 1 1 (chV ⟨s1, e1, m1, al1, k1, sc1⟩) rfl rfl hcw (chV_one _) (by simp only [maxLen]; omega) (by omega) (by simp; omega) ?_; intro v' w6 hown hgrow hat; obtain ⟨g', cap', rfl⟩ := ownsRow_succ hown; refine hK _ _ ?_; clear hK K; obtain ⟨hb6, hk6⟩ := row_grown HRA.out hgrow (by simp; omega); have hbo6 : w6.cell? ⟨w.heap.size + 1, 0, none⟩ = some (.slice A2 OL.length cp2) := (hb6.cell (p := ⟨w.heap.size + 1, 0, none⟩) (by simp)).trans (by go_simp); have hfo6 : w6.frozen? ⟨w.heap.size + 1, 0, none⟩ = false := (hb6.frozen (p := ⟨w.heap.size + 1, 0, none⟩) (by simp)).trans (by go_simp)
                        refine wpAnyIn_ready (rs := [6]) (by kernel_rfl) (by simp) ?_
                        refine AllReadyIn.cons rfl (fun K hK => ?_) ?_
                        · go_simp; refine hK _ _ ?_; clear hK K
                          refine wpAnyIn_done (by kernel_rfl) ?_ _
                          gi_wp2
                          exact (fun h => ⟨hkf.trans h.1, hkp.trans h.2.1, h.2.2⟩) (round_app (c := ⟨s1, e1, m1, al1, k1, sc1⟩) rfl hb0' hD' j1 j2 j3 j4 hrow' hown hgrow hat ((stepL_next HOL.out HWH.out).trans (by simp [stepL, projP, H1.out, H2.out])))
                        exact AllReadyIn.nil
                      exact AllReadyIn.nil
                    exact AllReadyIn.nil
                  exact AllReadyIn.nil
                exact AllReadyIn.nil
              exact AllReadyIn.nil
            refine AllReadyIn.cons rfl (fun K hK => ?_) ?_
            · go_simp; refine hK _ _ ?_; clear hK K
              refine wpAnyIn_ready (rs := [0, 2]) (by kernel_rfl) (by simp) ?_
              refine AllReadyIn.cons rfl (fun K hK => ?_) ?_
              · go_simp; refine hK _ _ ?_; clear hK K
                refine wpAnyIn_ready (rs := [2]) (by kernel_rfl) (by simp) ?_
                refine AllReadyIn.cons rfl (fun K hK => ?_) ?_
                · go_simp; refine hK _ _ ?_; clear hK K
                  refine wpAnyIn_ready (rs := [3]) (by kernel_rfl) (by simp) ?_
                  refine AllReadyIn.cons rfl (fun K hK => ?_) ?_
                  · go_simp; refine hK _ _ ?_; clear hK K
                    refine wpAnyIn_ready (rs := [4]) (by kernel_rfl) (by simp) ?_
                    refine AllReadyIn.cons rfl (fun K hK => ?_) ?_
                    · go_simp; refine hK _ _ ?_; clear hK K
                      refine wpAnyIn_ready (rs := [5]) (by kernel_rfl) (by simp) ?_
                      refine AllReadyIn.cons rfl (fun K hK => ?_) ?_
                      · refine step_append_in rfl _ _ 46 rfl (w.heap.size + 6) 38 j0 _ 6 56 Try.underlying46 hi0 hy0 hy1 hy2 rfl (by decide) (.slice A2 OL.length cp2) OL.length (flatC OL) rfl HRA.out ⟨W'.heap.size, 0, none⟩ 1 1 (chV ⟨s1, e1, m1, al1, k1, sc1⟩) rfl rfl hcw (chV_one _) (by simp only [maxLen]; omega) (by omega) (by simp; omega) ?_; intro v' w6 hown hgrow hat; obtain ⟨g', cap', rfl⟩ := ownsRow_succ hown; refine hK _ _ ?_; clear hK K; obtain ⟨hb6, hk6⟩ := row_grown HRA.out hgrow (by simp; omega); have hbo6 : w6.cell? ⟨w.heap.size + 1, 0, none⟩ = some (.slice A2 OL.length cp2) := (hb6.cell (p := ⟨w.heap.size + 1, 0, none⟩) (by simp)).trans (by go_simp); have hfo6 : w6.frozen? ⟨w.heap.size + 1, 0, none⟩ = false := (hb6.frozen (p := ⟨w.heap.size + 1, 0, none⟩) (by simp)).trans (by go_simp)
                        refine wpAnyIn_ready (rs := [6]) (by kernel_rfl) (by simp) ?_
                        refine AllReadyIn.cons rfl (fun K hK => ?_) ?_
                        · go_simp; refine hK _ _ ?_; clear hK K
                          refine wpAnyIn_done (by kernel_rfl) ?_ _
                          gi_wp2
                          exact (fun h => ⟨hkf.trans h.1, hkp.trans h.2.1, h.2.2⟩) (round_app (c := ⟨s1, e1, m1, al1, k1, sc1⟩) rfl hb0' hD' j1 j2 j3 j4 hrow' hown hgrow hat ((stepL_next HOL.out HWH.out).trans (by simp [stepL, projP, H1.out, H2.out])))
                        exact AllReadyIn.nil
                      exact AllReadyIn.nil
                    exact AllReadyIn.nil
                  exact AllReadyIn.nil
                exact AllReadyIn.nil
              refine AllReadyIn.cons rfl (fun K hK => ?_) ?_
              · go_simp; refine hK _ _ ?_; clear hK K
                refine wpAnyIn_ready (rs := [0, 3]) (by kernel_rfl) (by simp) ?_
                refine AllReadyIn.cons rfl (fun K hK => ?_) ?_
                · go_simp; refine hK _ _ ?_; clear hK K
                  refine wpAnyIn_ready (rs := [3]) (by kernel_rfl) (by simp) ?_
                  refine AllReadyIn.cons rfl (fun K hK => ?_) ?_
                  · go_simp; refine hK _ _ ?_; clear hK K
                    refine wpAnyIn_ready (rs := [4]) (by kernel_rfl) (by simp) ?_
                    refine AllReadyIn.cons rfl (fun K hK => ?_) ?_
                    · go_simp; refine hK _ _ ?_; clear hK K
                      refine wpAnyIn_ready (rs := [5]) (by kernel_rfl) (by simp) ?_
                      refine AllReadyIn.cons rfl (fun K hK => ?_) ?_
                      · refine step_append_in rfl _ _ 46 rfl (w.heap.size + 6) 38 j0 _ 6 56 Try.underlying46 hi0 hy0 hy1 hy2 rfl (by decide) (.slice A2 OL.length cp2) OL.length (flatC OL) rfl HRA.out ⟨W'.heap.size, 0, none⟩ 1 1 (chV ⟨s1, e1, m1, al1, k1, sc1⟩) rfl rfl hcw (chV_one _) (by simp only [maxLen]; omega) (by omega) (by simp; omega) ?_; intro v' w6 hown hgrow hat; obtain ⟨g', cap', rfl⟩ := ownsRow_succ hown; refine hK _ _ ?_; clear hK K; obtain ⟨hb6, hk6⟩ := row_grown HRA.out hgrow (by simp; omega); have hbo6 : w6.cell? ⟨w.heap.size + 1, 0, none⟩ = some (.slice A2 OL.length cp2) := (hb6.cell (p := ⟨w.heap.size + 1, 0, none⟩) (by simp)).trans (by go_simp); have hfo6 : w6.frozen? ⟨w.heap.size + 1, 0, none⟩ = false := (hb6.frozen (p := ⟨w.heap.size + 1, 0, none⟩) (by simp)).trans (by go_simp)
                        refine wpAnyIn_ready (rs := [6]) (by kernel_rfl) (by simp) ?_
                        refine AllReadyIn.cons rfl (fun K hK => ?_) ?_
                        · go_simp; refine hK _ _ ?_; clear hK K
                          refine wpAnyIn_done (by kernel_rfl) ?_ _
                          gi_wp2
                          exact (fun h => ⟨hkf.trans h.1, hkp.trans h.2.1, h.2.2⟩) (round_app (c := ⟨s1, e1, m1, al1, k1, sc1⟩) rfl hb0' hD' j1 j2 j3 j4 hrow' hown hgrow hat ((stepL_next HOL.out HWH.out).trans (by simp [stepL, projP, H1.out, H2.out])))
                        exact AllReadyIn.nil
                      exact AllReadyIn.nil
                    exact AllReadyIn.nil
                  exact AllReadyIn.nil
                refine AllReadyIn.cons rfl (fun K hK => ?_) ?_
                · go_simp; refine hK _ _ ?_; clear hK K
                  refine wpAnyIn_ready (rs := [0, 4]) (by kernel_rfl) (by simp) ?_
                  refine AllReadyIn.cons rfl (fun K hK => ?_) ?_
                  · go_simp; refine hK _ _ ?_; clear hK K
                    refine wpAnyIn_ready (rs := [4]) (by kernel_rfl) (by simp) ?_
                    refine AllReadyIn.cons rfl (fun K hK => ?_) ?_
                    · go_simp; refine hK _ _ ?_; clear hK K
                      refine wpAnyIn_ready (rs := [5]) (by kernel_rfl) (by simp) ?_
                      refine AllReadyIn.cons rfl (fun K hK => ?_) ?_
                      · refine step_append_in rfl _ _ 46 rfl (w.heap.size + 6) 38 j0 _ 6 56 Try.underlying46 hi0 hy0 hy1 hy2 rfl (by decide) (.slice A2 OL.length cp2) OL.length (flatC OL) rfl HRA.out ⟨W'.heap.size, 0, none⟩ 1 1 (chV ⟨s1, e1, m1, al1, k1, sc1⟩) rfl rfl hcw (chV_one _) (by simp only [maxLen]; omega) (by omega) (by simp; omega) ?_; intro v' w6 hown hgrow hat; obtain ⟨g', cap', rfl⟩ := ownsRow_succ hown; refine hK _ _ ?_; clear hK K; obtain ⟨hb6, hk6⟩ := row_grown HRA.out hgrow (by simp; omega); have hbo6 : w6.cell? ⟨w.heap.size + 1, 0, none⟩ = some (.slice A2 OL.length cp2) := (hb6.cell (p := ⟨w.heap.size + 1, 0, none⟩) (by simp)).trans (by go_simp); have hfo6 : w6.frozen? ⟨w.heap.size + 1, 0, none⟩ = false := (hb6.frozen (p := ⟨w.heap.size + 1, 0, none⟩) (by simp)).trans (by go_simp)
                        refine wpAnyIn_ready (rs := [6]) (by kernel_rfl) (by simp) ?_
                        refine AllReadyIn.cons rfl (fun K hK => ?_) ?_
                        · go_simp; refine hK _ _ ?_; clear hK K
                          refine wpAnyIn_done (by kernel_rfl) ?_ _
                          gi_wp2
                          exact (fun h => ⟨hkf.trans h.1, hkp.trans h.2.1, h.2.2⟩) (round_app (c := ⟨s1, e1, m1, al1, k1, sc1⟩) rfl hb0' hD' j1 j2 j3 j4 hrow' hown hgrow hat ((stepL_next HOL.out HWH.out).trans (by simp [stepL, projP, H1.out, H2.out])))
                        exact AllReadyIn.nil
                      exact AllReadyIn.nil
                    exact AllReadyIn.nil
                  refine AllReadyIn.cons rfl (fun K hK => ?_) ?_
                  · go_simp; refine hK _ _ ?_; clear hK K
                    refine wpAnyIn_ready (rs := [0]) (by kernel_rfl) (by simp) ?_
                    refine AllReadyIn.cons rfl (fun K hK => ?_) ?_
                    · go_simp; refine hK _ _ ?_; clear hK K
                      refine wpAnyIn_ready (rs := [5]) (by kernel_rfl) (by simp) ?_
                      refine AllReadyIn.cons rfl (fun K hK => ?_) ?_
                      · refine step_append_in rfl _ _ 46 rfl (w.heap.size + 6) 38 j0 _ 6 56 Try.underlying46 hi0 hy0 hy1 hy2 rfl (by decide) (.slice A2 OL.length cp2) OL.length (flatC OL) rfl HRA.out ⟨W'.heap.size, 0, none⟩ 1 1 (chV ⟨s1, e1, m1, al1, k1, sc1⟩) rfl rfl hcw (chV_one _) (by simp only [maxLen]; omega) (by omega) (by simp; omega) ?_; intro v' w6 hown hgrow hat; obtain ⟨g', cap', rfl⟩ := ownsRow_succ hown; refine hK _ _ ?_; clear hK K; obtain ⟨hb6, hk6⟩ := row_grown HRA.out hgrow (by simp; omega); have hbo6 : w6.cell? ⟨w.heap.size + 1, 0, none⟩ = some (.slice A2 OL.length cp2) := (hb6.cell (p := ⟨w.heap.size + 1, 0, none⟩) (by simp)).trans (by go_simp); have hfo6 : w6.frozen? ⟨w.heap.size + 1, 0, none⟩ = false := (hb6.frozen (p := ⟨w.heap.size + 1, 0, none⟩) (by simp)).trans (by go_simp)
                        refine wpAnyIn_ready (rs := [6]) (by kernel_rfl) (by simp) ?_
                        refine AllReadyIn.cons rfl (fun K hK => ?_) ?_
                        · go_simp; refine hK _ _ ?_; clear hK K
                          refine wpAnyIn_done (by kernel_rfl) ?_ _
                          gi_wp2
                          exact (fun h => ⟨hkf.trans h.1, hkp.trans h.2.1, h.2.2⟩) (round_app (c := ⟨s1, e1, m1, al1, k1, sc1⟩) rfl hb0' hD' j1 j2 j3 j4 hrow' hown hgrow hat ((stepL_next HOL.out HWH.out).trans (by simp [stepL, projP, H1.out, H2.out])))
                        exact AllReadyIn.nil
                      exact AllReadyIn.nil
                    exact AllReadyIn.nil
                  exact AllReadyIn.nil
                exact AllReadyIn.nil
              exact AllReadyIn.nil
            exact AllReadyIn.nil
    
  case done =>
    simp only [hz]
    intro D xs W hDw hS hI hDd
    unfold LrnI at hI
    rw [hS] at hI
    obtain ⟨OL, hOL⟩ : ∃ OL, (foldL (pairs1 ⟨s, e, m, al, k0, sc⟩ ls true)).1 = OL := ⟨_, rfl⟩
    obtain ⟨WH, hWH⟩ : ∃ WH, (foldL (pairs1 ⟨s, e, m, al, k0, sc⟩ ls true)).2 = WH := ⟨_, rfl⟩
    rw [hOL, hWH] at hI
    obtain ⟨hb0, hD, lv, i1, i2, hrow, i3, i4⟩ := hI
    have HOL := Lib.hid hOL; have HWH := Lib.hid hWH
    clear hOL hWH hS
    simp only [Exit.inBlock, Exit.then]
    have hch2 := (HR.out.below hb0).more hb0.size
    have hlt : ∀ (lv : Value) (W2 : World), Below w.heap.size w W2 → W2.heap[D]? = some (Obj.deferred (some [])) → Below w.heap.size w (W2.putObj D (.deferred none)) := fun lv W2 h1 h2 => h1.trans (belowK_b (w := w) (Nat.le_refl _) W2 D _ _ (by omega) h2 rfl rfl)
    by_cases h4 : WH = 4 ∧ 8 ≤ n
    · obtain ⟨rfl, h8⟩ := h4
      have h8' : (8 : Int) ≤ (n : Int) := by omega
      go_wp2_with (fail)
      refine (clone_any A n cp ls _ hch2 hm).mono ?_; rintro x w1 ⟨lv1, rfl, hown, hb1⟩
      have hK1 : w1.heap[D]? = some (Obj.deferred (some [])) := (hb1.block D (Array.getElem?_eq_some_iff.1 hDd).1).trans hDd
      go_wp2
      refine ⟨by simp, .inl ⟨_, _, rfl, run_takeDeferred hK1, ?_⟩⟩
      refine ⟨.tuple #[lv1, .int .i64 5], by simp [results, Try.results56, go_sem, *], lv1, ?_, ?_, hlt lv1 _ (hb0.trans (hb1.mono hb0.size)) hK1⟩
      · rw [learnT_full HWH.out (by rw [HR.out.1]; exact h8)]
      · rw [learnT_full HWH.out (by rw [HR.out.1]; exact h8)]
        exact (show OwnC _ _ _ _ from ownsRow_putObj hown _ hK1 rfl).less hb0.size
    · have hres : Hid (learnT ls ⟨s, e, m, al, k0, sc⟩ = (OL, WH)) := Lib.hid (learnT_else HOL.out HWH.out (by rw [HR.out.1]; exact h4))
      by_cases h5 : WH = 4
      · subst h5
        have h8' : ¬ (8 : Int) ≤ (n : Int) := by omega
        go_wp2
        go_region
        go_wp2
        refine ⟨by simp, .inl ⟨_, _, rfl, run_takeDeferred (w := W.drew) hDd, ?_⟩⟩
        refine ⟨.tuple #[lv, .int .i64 4], by simp [results, Try.results56, go_sem, *], lv, by rw [hres.out], ?_, hlt lv W.drew hb0.drew hDd⟩
        rw [hres.out]
        exact (show OwnC _ _ _ _ from ownsRow_putObj (W := W.drew) hrow _ hDd rfl).less (by omega)
      · go_wp2
        go_region
        go_wp2
        refine ⟨by simp, .inl ⟨_, _, rfl, run_takeDeferred (w := W.drew) hDd, ?_⟩⟩
        refine ⟨.tuple #[lv, .int .i64 WH], by simp [results, Try.results56, go_sem, *], lv, by rw [hres.out], ?_, hlt lv W.drew hb0.drew hDd⟩
        rw [hres.out]
        exact (show OwnC _ _ _ _ from ownsRow_putObj (W := W.drew) hrow _ hDd rfl).less (by omega)
end Go.Proofs.Ytfihkkamedghkaa
