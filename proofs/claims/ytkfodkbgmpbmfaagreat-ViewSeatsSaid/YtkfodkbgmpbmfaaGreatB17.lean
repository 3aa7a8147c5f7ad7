/- Chapter 22, parts on the way: QuietS -/
import Derived.Test.YtkfodkbgmpbmfaaGreatB01
set_option linter.unusedVariables false
set_option linter.unusedSimpArgs false
namespace Go.Proofs.YtkfodkbgmpbmfaaGreat
open Go.RowKit
section
variable {P : Program} {ops : Array Oper} {md : Region.Mode} {CB : Bool × Bool → World → Prop} {s : Nat × Nat}
def sgS (s : Nat × Nat) (i : Nat) (b : Bool × Bool) : Bool × Bool := (b.1 || (i == s.1), b.2 || (i == s.2))
def offS (s : Nat × Nat) (i : Nat) : Bool := !(i == s.1) && !(i == s.2)
theorem sgS_off {s : Nat × Nat} {i : Nat} (h : offS s i = true) (b : Bool × Bool) : sgS s i b = b := by
 unfold offS at h
 unfold sgS
 simp only [Bool.and_eq_true, Bool.not_eq_true'] at h
 rw [h.1, h.2, Bool.or_false, Bool.or_false]
def upS (P : Program) (C' : World → Prop) (w : World) (v : Value) : Result Next → Prop
 | .ok (.value u) w' => C' w' ∧ u = v
 | .ok .skip w' => C' w' ∧ v = undef
 | .ok (.enter f args) w' => w' = w ∧ Calls P f args w (fun e w'' => e = .returned v ∧ C' w'')
 | _ => False
def atS (P : Program) (CB : Bool × Bool → World → Prop) (s : Nat × Nat) (i : Nat) (o : Oper) (a : Act) (v : Value) : Prop := ∀ b w, CB b w → upS P (CB (sgS s i b)) w v ((execOp a.eval o).run P w)
def qS (P : Program) (ops : Array Oper) (CB : Bool × Bool → World → Prop) (s : Nat × Nat) (i : Nat) (K : Act → Prop) (a : Act) : Prop :=
 match ops[i]? with
 | none => K a
 | some o => if Region.wanted o (yielded ops a.tmps) then ∃ v, atS P CB s i o a v ∧ K (a.put o.dst v) else offS s i = true ∧ K (a.put o.dst undef)
def wpAnyS (P : Program) (md : Region.Mode) (ops : Array Oper) (CB : Bool × Bool → World → Prop) (s : Nat × Nat) (Q : Act → Prop) : Nat → Array Bool → Act → Prop
 | 0, listed, a => Region.ready md ops listed = [] ∧ (listed.getD s.1 true = true ∧ listed.getD s.2 true = true) ∧ Q a
 | fuel + 1, listed, a => Region.ready md ops listed ≠ [] ∧ ∀ i ∈ Region.ready md ops listed, qS P ops CB s i (wpAnyS P md ops CB s Q fuel (listed.setIfInBounds i true)) a
theorem getD_sg1 {listed : Array Bool} {i s : Nat} (hi : i < listed.size) : (listed.setIfInBounds i true).getD s true = (listed.getD s true || (i == s)) := by
 by_cases h : i = s
 · subst h
   simp [Array.getD, hi]
 · rw [getD_set_ne true h]
   simp [h]
theorem getD_sgS {listed : Array Bool} {i : Nat} {s : Nat × Nat} (hi : i < listed.size) : ((listed.setIfInBounds i true).getD s.1 true, (listed.setIfInBounds i true).getD s.2 true) = sgS s i (listed.getD s.1 true, listed.getD s.2 true) := by
 rw [getD_sg1 hi, getD_sg1 hi]
 rfl
theorem wpAny_of_S {Q : Act → Prop} {Q' : Exit → Act → World → Prop} (hQ : ∀ a w, CB (true, true) w → Q a → Q' .normal a w) : ∀ (fuel : Nat) (listed : Array Bool) (a : Act) (b : Bool × Bool) (w : World), listed.size = ops.size → b = (listed.getD s.1 true, listed.getD s.2 true) → CB b w →
    wpAnyS P md ops CB s Q fuel listed a → wpAny P md ops Q' fuel listed a w
 | 0, _, _, _, _, _, hb, hw, h => ⟨h.1, hQ _ _ (by rw [hb, h.2.1.1, h.2.1.2] at hw; exact hw) h.2.2⟩
 | fuel + 1, listed, a, b, w, hsz, hb, hw, h => ⟨fun h0 => absurd h0 h.1, fun i hi => by
  obtain ⟨_, o, ho, _⟩ := mem_ready.1 hi
  have hil : i < listed.size := by rw [hsz]; exact (Array.getElem?_eq_some_iff.1 ho).1
  have IH : ∀ a' w', CB (sgS s i b) w' → wpAnyS P md ops CB s Q fuel (listed.setIfInBounds i true) a' → wpAny P md ops Q' fuel (listed.setIfInBounds i true) a' w' := fun a' w' hw' h' =>
   wpAny_of_S hQ fuel _ a' _ w' (by simpa using hsz) (by rw [getD_sgS hil, hb]) hw' h'
  have h1 := h.2 i hi
  unfold qS at h1
  unfold wpOp
  simp only [ho] at h1 ⊢
  split
  · rename_i hwn
    simp only [hwn, if_true] at h1
    obtain ⟨v, h2, h3⟩ := h1
    have h4 := h2 b w hw
    refine .inl ?_
    unfold Oper.wp
    generalize (execOp a.eval o).run P w = r at h4 ⊢
    cases r with
    | ok n w' =>
     cases n <;> simp only [upS] at h4 <;> simp only [Oper.upon]
     case value u => exact IH _ _ h4.1 (by rw [h4.2]; exact h3)
     case skip => exact IH _ _ h4.1 (by rw [← h4.2]; exact h3)
     case enter f args =>
      obtain ⟨e1, hc⟩ := h4
      rw [e1]
      exact hc.mono fun e w'' ⟨he, hw''⟩ => by subst he; exact IH _ _ hw'' h3
    | halt x w' => simp only [upS] at h4
  · rename_i hwn
    simp only [hwn] at h1
    have e : sgS s i b = b := sgS_off h1.1 b
    exact IH _ _ (by rw [e]; exact hw) h1.2⟩
def YieldsS (P : Program) (ops : Array Oper) (CB : Bool × Bool → World → Prop) (s : Nat × Nat) (i : Nat) (o : Oper) (v : Value) (a : Act) : Prop :=
 (Region.wanted o (yielded ops a.tmps) = true ∧ atS P CB s i o a v) ∨ (Region.wanted o (yielded ops a.tmps) = false ∧ v = undef ∧ offS s i = true)
theorem YieldsS.q {i : Nat} {o : Oper} {v : Value} {a : Act} (hi : ops[i]? = some o) (hy : YieldsS P ops CB s i o v a) {K : Act → Prop} (h : K (a.put o.dst v)) : qS P ops CB s i K a := by
 unfold qS
 simp only [hi]
 rcases hy with ⟨hw, hv⟩ | ⟨hw, rfl, hn⟩
 · simp only [hw, if_true]; exact ⟨v, hv, h⟩
 · simp only [hw, Bool.false_eq_true, if_false]; exact ⟨hn, h⟩
theorem YieldsS.of_same {i : Nat} {o : Oper} {v : Value} {a a' : Act} (hy : YieldsS P ops CB s i o v a) (he : execOp a'.eval o = execOp a.eval o)
    (hw : Region.wanted o (yielded ops a'.tmps) = Region.wanted o (yielded ops a.tmps)) : YieldsS P ops CB s i o v a' := by
 unfold YieldsS atS at *
 rw [he, hw]
 exact hy
theorem yieldsS_of {i : Nat} {o : Oper} {a : Act} {K : Act → Prop} (hi : ops[i]? = some o) (h : qS P ops CB s i K a) : ∃ v, YieldsS P ops CB s i o v a ∧ K (a.put o.dst v) := by
 unfold qS at h
 simp only [hi] at h
 by_cases hw : Region.wanted o (yielded ops a.tmps) = true
 · simp only [hw, if_true] at h
   obtain ⟨v, h1, h2⟩ := h
   exact ⟨v, .inl ⟨hw, h1⟩, h2⟩
 · simp only [hw] at h
   exact ⟨undef, .inr ⟨by simpa using hw, rfl, h.1⟩, h.2⟩
theorem qS_mono {i : Nat} {a : Act} {K K' : Act → Prop} (h : ∀ a, K a → K' a) (hh : qS P ops CB s i K a) : qS P ops CB s i K' a := by
 unfold qS at *
 split
 · rename_i ho; simp only [ho] at hh; exact h _ hh
 · rename_i o ho
   simp only [ho] at hh
   split
   · rename_i hw; simp only [hw, if_true] at hh; obtain ⟨v, h1, h2⟩ := hh; exact ⟨v, h1, h _ h2⟩
   · rename_i hw; simp only [hw] at hh; exact ⟨hh.1, h _ hh.2⟩
theorem qS_put {i j : Nat} {oi oj : Oper} {v : Value} (hj : ops[j]? = some oj) (hap : oi.apart ops oj = true)
    (hsi : ∀ cs b, oi.op ≠ .select cs b) (hsj : ∀ cs b, oj.op ≠ .select cs b) {K : Act → Prop} {a : Act}
    (hy : YieldsS P ops CB s i oi v a) (h : qS P ops CB s j K (a.put oi.dst v)) :
    qS P ops CB s j (fun a' => YieldsS P ops CB s i oi v a' ∧ K (a'.put oi.dst v)) a := by
 obtain ⟨h1, h2, h3⟩ := Oper.apart_spec hap
 have keep : ∀ (a : Act), YieldsS P ops CB s i oi v a → ∀ u, YieldsS P ops CB s i oi v (a.put oj.dst u) := fun a hy u =>
  hy.of_same (execOp_put oi hsi a oj.dst u h3) (wanted_put oi a oj.dst u h3)
 unfold qS at *
 simp only [hj] at *
 rw [wanted_put oj a oi.dst v h1] at h
 split
 · rename_i hw
   simp only [hw, if_true] at h
   obtain ⟨u, hu, hn⟩ := h
   refine ⟨u, fun b w hw' => ?_, keep a hy u, by rw [← Act.put_comm a v u h2]; exact hn⟩
   have := hu b w hw'
   rwa [execOp_put oj hsj a oi.dst v h1] at this
 · rename_i hw
   simp only [hw] at h
   exact ⟨h.1, keep a hy _, by rw [← Act.put_comm a v undef h2]; exact h.2⟩
theorem wpAnyS_first {Q : Act → Prop} {i : Nat} {oi : Oper} {v : Value} (hi : ops[i]? = some oi) (hsel : ∀ (j : Nat) (o : Oper) cs b, ops[j]? = some o → o.op ≠ .select cs b) :
    ∀ (fuel : Nat) (listed : Array Bool) (a : Act),
     (∀ j oj, ops[j]? = some oj → j ≠ i → listed.getD j true = false → (∀ e ∈ oj.after, Region.binds md e = true → e.on ≠ i) → oi.apart ops oj = true) →
     i ∈ Region.ready md ops listed → YieldsS P ops CB s i oi v a →
     wpAnyS P md ops CB s Q fuel (listed.setIfInBounds i true) (a.put oi.dst v) → wpAnyS P md ops CB s Q (fuel + 1) listed a := by
 intro fuel
 induction fuel with
 | zero =>
  intro listed a _ hr hy H
  refine ⟨fun h => (by rw [h] at hr; cases hr), fun j hj => ?_⟩
  by_cases hji : j = i
  · subst hji; exact hy.q hi H
  · have := ready_mono hj hji
    rw [H.1] at this
    cases this
 | succ fuel ih =>
  intro listed a hfree hr hy H
  refine ⟨fun h => (by rw [h] at hr; cases hr), fun j hj => ?_⟩
  by_cases hji : j = i
  · subst hji; exact hy.q hi H
  · have h1 := H.2 j (ready_mono hj hji)
    obtain ⟨hjun, oj, hoj, hall⟩ := mem_ready.1 hj
    have hnot : ∀ e ∈ oj.after, Region.binds md e = true → e.on ≠ i := fun e he hb heq => by
     have h1 := hall e he hb
     have h0 := (mem_ready.1 hr).1
     rw [heq] at h1
     rcases Nat.lt_or_ge i listed.size with h' | h'
     · simp [h'] at h0 h1; rw [h0] at h1; cases h1
     · simp [Array.getElem?_eq_none h'] at h1
    have h2 := qS_put hoj (hfree j oj hoj hji hjun hnot) (fun cs b => hsel i oi cs b hi) (fun cs b => hsel j oj cs b hoj) hy h1
    have hfree' : ∀ k ok, ops[k]? = some ok → k ≠ i → (listed.setIfInBounds j true).getD k true = false →
        (∀ e ∈ ok.after, Region.binds md e = true → e.on ≠ i) → oi.apart ops ok = true := fun k ok hk hki hun hno => by
     refine hfree k ok hk hki ?_ hno
     by_cases hjk : j = k
     · subst hjk; exact hjun
     · rw [getD_set_ne true hjk] at hun; exact hun
    refine qS_mono (fun a' h3 => ih (listed.setIfInBounds j true) a' hfree' (ready_mono hr (Ne.symm hji)) h3.1 ?_) h2
    rw [Array.setIfInBounds_comm _ _ hji]
    exact h3.2
def wpQuietS (P : Program) (ops : Array Oper) (CB : Bool × Bool → World → Prop) (s : Nat × Nat) (Q : Act → Prop) : Nat → List Oper → Act → Prop
 | _, [], a => Q a
 | k, o :: rest, a => if Region.wanted o (yielded ops a.tmps) then ∃ v, atS P CB s k o a v ∧ wpQuietS P ops CB s Q (k + 1) rest (a.put o.dst v) else offS s k = true ∧ wpQuietS P ops CB s Q (k + 1) rest (a.put o.dst undef)
theorem wpAnyS_lex {Q : Act → Prop} (hs : Region.noSelect ops = true) (hsz : s.1 < ops.size ∧ s.2 < ops.size) : ∀ (l : List Oper) (k : Nat) (listed : Array Bool) (a : Act), (∀ j, l[j]? = ops[k + j]?) → k + l.length = ops.size → listed.size = ops.size → (∀ j, j < k → listed.getD j true = true) →
    Region.lexFrom md ops l.length k listed = true → wpQuietS P ops CB s Q k l a → wpAnyS P md ops CB s Q l.length listed a
 | [], k, _, _, _, hk, _, hd, hB, h => ⟨by simpa [Region.lexFrom] using hB, ⟨hd s.1 (by have h9 := hk; simp only [List.length_nil, Nat.add_zero] at h9; omega), hd s.2 (by have h9 := hk; simp only [List.length_nil, Nat.add_zero] at h9; omega)⟩, h⟩
 | o :: l, k, listed, a, hl, hk, hls, hd, hB, h => by
  have h0 : ops[k]? = some o := by simpa using (hl 0).symm
  simp only [List.length_cons, Region.lexFrom, Bool.and_eq_true] at hB hk
  obtain ⟨⟨hr, hf⟩, hB'⟩ := hB
  have hst : qS P ops CB s k (wpQuietS P ops CB s Q (k + 1) l) a := by unfold qS; simp only [h0]; exact h
  obtain ⟨v, hy, hK⟩ := yieldsS_of h0 hst
  exact wpAnyS_first h0 (Region.noSelect_spec hs) l.length listed a (Region.free_spec h0 hf) (by simpa using hr) hy
   (wpAnyS_lex hs hsz l (k + 1) _ _ (fun j => by have := hl (j + 1); simpa [Nat.add_assoc, Nat.add_comm 1 j] using this) (by omega) (by simpa using hls) (fun j hj => by
    by_cases e : k = j
    · subst e
      simp [Array.getD, hls, show k < ops.size by omega]
    · rw [getD_set_ne true e]; exact hd j (by omega)) hB' hK)
theorem wp_region_S {id : Nat} {Q : Exit → Act → World → Prop} {a : Act} {w : World} {l : List Oper} (CB : Bool × Bool → World → Prop) (s : Nat × Nat) (hm : P.follows .mixedOrders = true) (hB : Region.lexB .any l.toArray = true) (hs : s.1 < l.length ∧ s.2 < l.length) (hC : CB (false, false) { w with drawn := w.drawn + 1 })
    (h : wpQuietS P l.toArray CB s (fun a' => ∀ w', CB (true, true) w' → Q .normal a' w') 0 l a) : (Code.region id l.toArray true).wp P Q a w := by
 simp only [Region.lexB, Bool.and_eq_true] at hB
 refine wp_region_any hm (wpAny_of_S (Q := fun a' => ∀ w', CB (true, true) w' → Q .normal a' w') (s := s) (fun _ w' hw' h => h w' hw') _ _ _ (false, false) _ (by simp) ?_ hC ?_)
 · simp [Array.getD, hs.1, hs.2]
 · have := wpAnyS_lex (CB := CB) (s := s) (md := .any) hB.1 (by simpa using hs) l 0 (Array.replicate l.toArray.size false) a (by simp) (by simp) (by simp) (fun j hj => by omega) (by simpa using hB.2) h
   simpa using this
end
section
variable {P : Program} {ops : Array Oper} {CB : Bool × Bool → World → Prop} {s : Nat × Nat} {k : Nat} {Q : Act → Prop} {a : Act} {o : Oper} {rest : List Oper} {v : Value}
theorem S_skip (hw : Region.wanted o (yielded ops a.tmps) = false) (hk : offS s k = true) (h : wpQuietS P ops CB s Q (k + 1) rest (a.put o.dst undef)) : wpQuietS P ops CB s Q k (o :: rest) a := by
 unfold wpQuietS
 rw [if_neg (by rw [hw]; exact Bool.false_ne_true)]
 exact ⟨hk, h⟩
theorem S_run (hw : Region.wanted o (yielded ops a.tmps) = true) (hk : offS s k = true) (hr : ∀ b w, CB b w → (execOp a.eval o).run P w = .ok (.value v) w) (h : wpQuietS P ops CB s Q (k + 1) rest (a.put o.dst v)) : wpQuietS P ops CB s Q k (o :: rest) a := by
 unfold wpQuietS
 rw [if_pos hw]
 exact ⟨v, fun b w hb => by rw [hr b w hb]; exact ⟨by rw [sgS_off hk]; exact hb, rfl⟩, h⟩
theorem S_call {f : FuncId} {args : Array Value} (hw : Region.wanted o (yielded ops a.tmps) = true) (hk : offS s k = true) (hr : ∀ b w, CB b w → (execOp a.eval o).run P w = .ok (.enter f args) w)
    (hc : ∀ b w, CB b w → Calls P f args w fun e w' => e = .returned v ∧ CB b w') (h : wpQuietS P ops CB s Q (k + 1) rest (a.put o.dst v)) : wpQuietS P ops CB s Q k (o :: rest) a := by
 unfold wpQuietS
 rw [if_pos hw]
 exact ⟨v, fun b w hb => by rw [hr b w hb]; exact ⟨rfl, by rw [sgS_off hk]; exact hc b w hb⟩, h⟩
theorem S_store (hw : Region.wanted o (yielded ops a.tmps) = true) (hr : ∀ b w, CB b w → ∃ w', (execOp a.eval o).run P w = .ok .skip w' ∧ CB (sgS s k b) w') (h : wpQuietS P ops CB s Q (k + 1) rest (a.put o.dst undef)) : wpQuietS P ops CB s Q k (o :: rest) a := by
 unfold wpQuietS
 rw [if_pos hw]
 exact ⟨undef, fun b w hb => by obtain ⟨w', h1, h2⟩ := hr b w hb; rw [h1]; exact ⟨h2, rfl⟩, h⟩
end
theorem KeptC.setN {w0 W : World} {l : List (Addr × Value)} {F : List Addr} {p : Addr} {v : Value} (h : KeptC w0 l F W) (hp : w0.heap.size ≤ p.block) (hl : ∀ x ∈ l, x.1.block ≠ p.block) : KeptC w0 l F (W.setCell p v) :=
 ⟨h.1.setCell hp _, fun x hx => (World.cell?_setCell_far _ _ _ _ (Ne.symm (hl x hx))).trans (h.2.1 x hx), fun a ha => ⟨by simpa using (h.2.2 a ha).1, by rw [World.frozen?_setCell]; exact (h.2.2 a ha).2⟩⟩
def KS (w0 : World) (l : List (Addr × Value)) (F : List Addr) (r0 r1 q0 q1 : List (Addr × Value)) (O : World → Prop) (b : Bool × Bool) (w' : World) : Prop := KeptC w0 l F w' ∧ KeptC w0 (if b.1 then r1 else r0) [] w' ∧ KeptC w0 (if b.2 then q1 else q0) [] w' ∧ O w'
theorem KS.below {w0 w' w2 : World} {l r0 r1 q0 q1 : List (Addr × Value)} {F : List Addr} {O : World → Prop} {b : Bool × Bool} (h : KS w0 l F r0 r1 q0 q1 O b w') (hO : ∀ A C : World, O A → Below A.heap.size A C → O C) (hb : Below w'.heap.size w' w2) : KS w0 l F r0 r1 q0 q1 O b w2 := ⟨h.1.below hb, h.2.1.below hb, h.2.2.1.below hb, hO _ _ h.2.2.2 hb⟩
theorem KS.lowS {w0 w' : World} {l r0 r1 q0 q1 : List (Addr × Value)} {F : List Addr} {O : World → Prop} {b : Bool × Bool} (h : KS w0 l F r0 r1 q0 q1 O b w') : Below w0.heap.size w0 w' := h.1.1
end Go.Proofs.YtkfodkbgmpbmfaaGreat
