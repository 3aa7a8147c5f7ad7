/- The reference's bag in memory; link, place, severed: what each call computes. -/
import Derived.Test.YtdaobbffhfbceaaBgT
namespace Go.Proofs.Ytdaobbffhfbceaa
open Go.RowKit Go.Shelf
set_option linter.unusedVariables false
set_option linter.unusedSimpArgs false
set_option maxRecDepth 100000
abbrev RowK (w : World) (sv : Value) (xs : List LK) : Prop := OwnE encL 2 64 w 0 sv xs
/-- The reference's bag: its struct in block g, its list, its pairs. -/
structure RefAt (w : World) (g : Nat) (lv sv : Value) (s : BS) : Prop where
  c0 : w.cell? ⟨g, 0, none⟩ = some (.int .i64 s.nx)
  c1 : w.cell? ⟨g, 1, none⟩ = some lv
  c2 : w.cell? ⟨g, 2, none⟩ = some sv
  f0 : w.frozen? ⟨g, 0, none⟩ = false
  f1 : w.frozen? ⟨g, 1, none⟩ = false
  f2 : w.frozen? ⟨g, 2, none⟩ = false
  rl : RowD w lv s.ls
  rs : RowK w sv s.sv
  n1 : lv.ownBlock ≠ some g
  n2 : sv.ownBlock ≠ some g
  n3 : ∀ b, lv.ownBlock = some b → sv.ownBlock ≠ some b
  ok : OkS s
def footR (g : Nat) (lv sv : Value) : List Nat := g :: (lv.ownBlock.toList ++ sv.ownBlock.toList)
theorem rowK_same {w w' : World} {sv : Value} {xs : List LK} (h : RowK w sv xs) (hb : ∀ b, sv.ownBlock = some b → w'.heap[b]? = w.heap[b]?) : RowK w' sv xs := by
  refine ⟨h.1, ?_⟩
  rcases h.2 with hn | ⟨g, cap, cur, hv, h1, h2, h3⟩
  · exact .inl hn
  · exact .inr ⟨g, cap, cur, hv, h1, (hb g (by rw [hv]; rfl)).trans h2, h3⟩
theorem rowK_lt {w : World} {sv : Value} {xs : List LK} (h : RowK w sv xs) {b : Nat} (hb : sv.ownBlock = some b) : b < w.heap.size := by
  rcases h.2 with ⟨rfl, _⟩ | ⟨g, cap, cur, rfl, h1, h2, h3⟩
  · simp [Value.ownBlock] at hb
  · obtain rfl : g = b := by simpa [Value.ownBlock] using hb
    exact (Array.getElem?_eq_some_iff.1 h2).1
theorem RefAt.lt {w : World} {g : Nat} {lv sv : Value} {s : BS} (h : RefAt w g lv sv s) : ∀ b ∈ footR g lv sv, b < w.heap.size := by
  intro b hb
  simp only [footR, List.mem_cons, List.mem_append, Option.mem_toList] at hb
  rcases hb with rfl | hb | hb
  · exact cell_lt h.c0
  · exact (row_obj h.rl hb).1
  · exact rowK_lt h.rs hb
theorem RefAt.same {w w' : World} {g : Nat} {lv sv : Value} {s : BS} (h : RefAt w g lv sv s) (hb : ∀ b ∈ footR g lv sv, w'.heap[b]? = w.heap[b]?) : RefAt w' g lv sv s := by
  have h1 := hb g (by simp [footR])
  have h2 : ∀ b, lv.ownBlock = some b → w'.heap[b]? = w.heap[b]? := fun b e => hb b (by simp [footR, e])
  have h3 : ∀ b, sv.ownBlock = some b → w'.heap[b]? = w.heap[b]? := fun b e => hb b (by simp [footR, e])
  exact ⟨(World.cell?_of_block (a := ⟨g, 0, none⟩) h1).trans h.c0, (World.cell?_of_block (a := ⟨g, 1, none⟩) h1).trans h.c1, (World.cell?_of_block (a := ⟨g, 2, none⟩) h1).trans h.c2,
    (frozen_of_block (p := ⟨g, 0, none⟩) h1).trans h.f0, (frozen_of_block (p := ⟨g, 1, none⟩) h1).trans h.f1, (frozen_of_block (p := ⟨g, 2, none⟩) h1).trans h.f2,
    row_same h.rl h2, rowK_same h.rs h3, h.n1, h.n2, h.n3, h.ok⟩
theorem RefAt.turn {w w' : World} {g : Nat} {lv sv : Value} {s : BS} {F : List Nat} (h : RefAt w g lv sv s) (ht : Turn F w w') (hF : ∀ b ∈ footR g lv sv, b ∉ F) : RefAt w' g lv sv s :=
  h.same fun b hb => ht.block b (h.lt b hb) (hF b hb)
theorem RefAt.below {w w' : World} {g : Nat} {lv sv : Value} {s : BS} (h : RefAt w g lv sv s) (ht : Below w.heap.size w w') : RefAt w' g lv sv s :=
  h.same fun b hb => ht.block b (h.lt b hb)
/-- The lists may have moved to new blocks. -/
def MovedR (w : World) (lv sv lv' sv' : Value) : Prop := ∀ b, (lv'.ownBlock = some b ∨ sv'.ownBlock = some b) → (lv.ownBlock = some b ∨ sv.ownBlock = some b) ∨ w.heap.size ≤ b
theorem MovedR.refl (w : World) (lv sv : Value) : MovedR w lv sv lv sv := fun b h => .inl h
theorem MovedR.foot {w : World} {lv sv lv' sv' : Value} (h : MovedR w lv sv lv' sv') {g : Nat} : ∀ b ∈ footR g lv' sv', b ∈ footR g lv sv ∨ w.heap.size ≤ b := by
  intro b hb
  simp only [footR, List.mem_cons, List.mem_append, Option.mem_toList] at hb ⊢
  rcases hb with rfl | hb
  · exact .inl (.inl rfl)
  · exact (h b hb).imp .inr id
theorem MovedR.trans {w w' : World} {a b c d e f : Value} (h : MovedR w a b c d) (k : MovedR w' c d e f) (hs : w.heap.size ≤ w'.heap.size) : MovedR w a b e f := fun x hx =>
  (k x hx).elim (fun h2 => h x h2) (fun h2 => .inr (by omega))
/-! ### link, place, severed -/
theorem link_any (a b : Int) (w : World) :
    Calls Try.prog 51 #[.int .i64 a, .int .i64 b] w fun e w' => e = .returned (lAgg (lnk a b)) ∧ Below w.heap.size w w' := by
  go_enter Try.func51, Try.ntmps51
  go_wp2
  all_goals refine bodyPost_ret (v := lAgg (lnk a b)) (by simp [results, Try.results51, go_sem, lnk]; try omega) rfl ⟨rfl, (by repeat (first | with_reducible refine Below.setCell ?_ (by first | (simp; done) | (simp; omega) | omega) _ | with_reducible refine Below.alloc ?_ (by first | (simp; done) | (simp; omega) | omega) _ | with_reducible refine Below.drew ?_ | with_reducible refine below_drewN ?_ _ | with_reducible exact Below.refl _ _))⟩
def plc : Option Nat → Int
  | some i => i
  | none => -1
def findL (l : List LK) (p : LK) : Option Nat := l.findIdx? (fun x => x == p)
theorem findL_none {l : List LK} {p : LK} : findL l p = none ↔ p ∉ l := by
  unfold findL
  rw [List.findIdx?_eq_none_iff]
  simp only [beq_eq_false_iff_ne]
  exact ⟨fun h hm => h p hm rfl, fun h x hx e => h (e ▸ hx)⟩
theorem findL_at {l : List LK} {p : LK} {i : Nat} (h : l[i]? = some p) (hn : ∀ j, j < i → ∀ e, l[j]? = some e → e ≠ p) : findL l p = some i := by
  unfold findL
  rw [List.findIdx?_eq_some_iff_getElem]
  obtain ⟨h1, h2⟩ := List.getElem?_eq_some_iff.1 h
  refine ⟨h1, by rw [h2]; simp, fun j hj => ?_⟩
  have := hn j hj _ (List.getElem?_eq_getElem (by omega))
  simpa using this
theorem findL_some {l : List LK} {p : LK} {i : Nat} (h : findL l p = some i) : l[i]? = some p := by
  unfold findL at h
  rw [List.findIdx?_eq_some_iff_getElem] at h
  obtain ⟨h1, h2, h3⟩ := h
  rw [List.getElem?_eq_getElem h1]
  simpa using h2
set_option maxHeartbeats 1000000 in
theorem place_any (g : Nat) (lv sv : Value) (s : BS) (k : Int) (w : World) (h : RefAt w g lv sv s) :
    Calls Try.prog 50 #[.pointer (some ⟨g, 0, none⟩), .int .i64 k] w fun e w' => e = .returned (.int .i64 (plc (findN s.ls k))) ∧ Below w.heap.size w w' := by
  have c1 := h.c1
  have hg := cell_lt c1
  simp only [] at hg
  obtain ⟨A, c, rfl, hr⟩ := OwnE.at_ encD_len h.rl
  have hn := h.ok.len
  obtain ⟨ls, hls⟩ : ∃ ls, s.ls = ls := ⟨_, rfl⟩
  rw [hls] at c1 hr hn ⊢
  obtain ⟨n, hnn⟩ : ∃ n, ls.length = n := ⟨_, rfl⟩
  rw [hnn] at c1 hr hn
  have HR := Lib.hid hr
  have HNN := Lib.hid hnn
  clear h hr hls hnn
  go_enter Try.func50, Try.ntmps50
  go_wp2
  go_loopw [5] (fun i w' => ∃ j : Nat, j ≤ n ∧ i = .int .i64 j ∧ Hid (∀ t, t < j → ∀ e, ls[t]? = some e → e.num ≠ k) ∧ KeptC w [(⟨g, 1, none⟩, .slice A n c)] [] w') (fun i _ => n - (intOf i).toNat)
  case atStart => exact ⟨0, Nat.zero_le _, rfl, Lib.hid (fun t ht => by omega), (by (repeat' (first | refine KeptC.cons ?_ ?_ | refine KeptC.consF ?_ ?_ ?_ | refine KeptC.mk0 ?_)); all_goals (first | with_reducible assumption | (go_simp; done) | (simp; omega) | exact (by repeat (first | with_reducible refine Below.setCell ?_ (by first | (simp; done) | (simp; omega) | omega) _ | with_reducible refine Below.alloc ?_ (by first | (simp; done) | (simp; omega) | omega) _ | with_reducible refine Below.drew ?_ | with_reducible refine below_drewN ?_ _ | with_reducible exact Below.refl _ _))))⟩
  case round =>
    obtain ⟨j, hj, rfl, HJ, hK⟩ := hrel
    simp only [KeptC, List.forall_mem_cons] at hK; obtain ⟨kb0, ⟨kc0_0, _⟩, _⟩ := hK
    have hs0 := kb0.size
    by_cases hlt : j < n
    rotate_left
    · obtain rfl : j = n := by omega
      go_wp2
      go_ret
      refine ⟨?_, kb0⟩
      rw [findN_none.2]
      · rfl
      · intro d hd e
        obtain ⟨t, ht, et⟩ := List.getElem_of_mem hd
        exact HJ.out t (by have := HNN.out; omega) d (by rw [List.getElem?_eq_getElem ht, et]) e
    · obtain ⟨ad, x, rfl, hab, hx, h4⟩ := HR.out.get hlt
      obtain ⟨P, hP⟩ : ∃ P, ad.add (j * 4) = P := ⟨_, rfl⟩
      have hPb : P.block < w.heap.size := by rw [← hP, block_of_add]; exact hab
      rw [hP] at h4
      have e0 : wr.cell? P = some (.int .i64 x.num) := (kb0.cell (p := P) hPb).trans (by have := h4 0 _ rfl; rwa [add_z P] at this)
      have HX := Lib.hid hx
      clear h4 hx
      by_cases hk : x.num = k
      · have hf := findN_at HX.out hk HJ.out
        go_wp2
        all_goals (first | (exact absurd hk (by assumption)) | skip)
        go_ret
        refine ⟨?_, kb0⟩
        rw [hf]
        rfl
      · go_wp2
        go_roundw
        case rel => exact ⟨j + 1, by omega, by go_num, Lib.hid (fun t ht e he => by
            rcases Nat.lt_or_ge t j with h1 | h1
            · exact HJ.out t h1 e he
            · obtain rfl : t = j := by omega
              have h2 := HX.out
              rw [he] at h2
              obtain rfl := Option.some.inj h2
              exact hk), (by (repeat' (first | refine KeptC.cons ?_ ?_ | refine KeptC.consF ?_ ?_ ?_ | refine KeptC.mk0 ?_)); all_goals (first | with_reducible assumption | (go_simp; done) | (simp; omega) | exact (by repeat (first | with_reducible refine Below.setCell ?_ (by first | (simp; done) | (simp; omega) | omega) _ | with_reducible refine Below.alloc ?_ (by first | (simp; done) | (simp; omega) | omega) _ | with_reducible refine Below.drew ?_ | with_reducible refine below_drewN ?_ _ | with_reducible exact Below.refl _ _ | with_reducible refine Below.trans ?_ (Below.mono kb0 (by first | (simp; done) | (simp; omega) | omega))))))⟩
        case measure => simp [intOf]; omega
set_option maxHeartbeats 1000000 in
theorem severed_any (g : Nat) (lv sv : Value) (s : BS) (a b : Int) (w : World) (h : RefAt w g lv sv s) (hm : s.sv.length ≤ maxLen) :
    Calls Try.prog 49 #[.pointer (some ⟨g, 0, none⟩), .int .i64 a, .int .i64 b] w fun e w' => e = .returned (.int .i64 (plc (findL s.sv (lnk a b)))) ∧ Below w.heap.size w w' := by
  have c2 := h.c2
  have hg := cell_lt c2
  simp only [] at hg
  obtain ⟨A, c, rfl, hr⟩ := OwnE.at_ encL_len h.rs
  obtain ⟨ls, hls⟩ : ∃ ls, s.sv = ls := ⟨_, rfl⟩
  rw [hls] at c2 hr hm ⊢
  simp only [maxLen] at hm
  obtain ⟨n, hnn⟩ : ∃ n, ls.length = n := ⟨_, rfl⟩
  rw [hnn] at c2 hr hm
  obtain ⟨p, hp⟩ : ∃ p, lnk a b = p := ⟨_, rfl⟩
  have c1 : ∀ W, Calls Try.prog 51 #[.int .i64 a, .int .i64 b] W fun e w' => e = .returned (lAgg p) ∧ Below W.heap.size W w' := fun W => by rw [← hp]; exact link_any a b W
  rw [hp]
  have C1 := Lib.hid c1
  have HR := Lib.hid hr
  have HNN := Lib.hid hnn
  clear h hr hls hnn hp c1
  go_enter Try.func49, Try.ntmps49
  go_wp2
  go_loopw [7] (fun i w' => ∃ j : Nat, j ≤ n ∧ i = .int .i64 j ∧ Hid (∀ t, t < j → ∀ e, ls[t]? = some e → e ≠ p) ∧ KeptC w [(⟨g, 2, none⟩, .slice A n c)] [] w') (fun i _ => n - (intOf i).toNat)
  case atStart => exact ⟨0, Nat.zero_le _, rfl, Lib.hid (fun t ht => by omega), (by (repeat' (first | refine KeptC.cons ?_ ?_ | refine KeptC.consF ?_ ?_ ?_ | refine KeptC.mk0 ?_)); all_goals (first | with_reducible assumption | (go_simp; done) | (simp; omega) | exact (by repeat (first | with_reducible refine Below.setCell ?_ (by first | (simp; done) | (simp; omega) | omega) _ | with_reducible refine Below.alloc ?_ (by first | (simp; done) | (simp; omega) | omega) _ | with_reducible refine Below.drew ?_ | with_reducible refine below_drewN ?_ _ | with_reducible exact Below.refl _ _))))⟩
  case round =>
    obtain ⟨j, hj, rfl, HJ, hK⟩ := hrel
    simp only [KeptC, List.forall_mem_cons] at hK; obtain ⟨kb0, ⟨kc0_0, _⟩, _⟩ := hK
    have hs0 := kb0.size
    by_cases hlt : j < n
    rotate_left
    · obtain rfl : j = n := by omega
      go_wp2
      go_ret
      refine ⟨?_, kb0⟩
      rw [findL_none.2]
      · rfl
      · intro hd
        obtain ⟨t, ht, et⟩ := List.getElem_of_mem hd
        exact HJ.out t (by have := HNN.out; omega) p (by rw [List.getElem?_eq_getElem ht, et]) rfl
    · obtain ⟨ad, x, rfl, hab, hx, h4⟩ := HR.out.get hlt
      obtain ⟨P, hP⟩ : ∃ P, ad.add (j * 2) = P := ⟨_, rfl⟩
      have hPb : P.block < w.heap.size := by rw [← hP, block_of_add]; exact hab
      rw [hP] at h4
      have e0 : wr.cell? P = some (.int .i64 x.1) := (kb0.cell (p := P) hPb).trans (by have := h4 0 _ rfl; rwa [add_z P] at this)
      have e1 : wr.cell? ⟨P.block, P.off + 1, none⟩ = some (.int .i64 x.2) := (kb0.cell (p := ⟨P.block, P.off + 1, none⟩) hPb).trans (by have := h4 1 _ rfl; rwa [add_next P 0] at this)
      have HX := Lib.hid hx
      clear h4 hx
      by_cases hk : x = p
      · have hf := findL_at (by rw [← hk]; exact HX.out : ls[j]? = some p) HJ.out
        have he : ∀ W, (binOp .eql 64 (lAgg x) (lAgg p)).run Try.prog W = .ok (.bool true) W := fun W => by rw [eql_link x p W, hk, lEq_self]
        have HF := Lib.hid hf
        clear hk hf
        go_wp2
        refine wp_region_quietC_lit (KeptC w [(⟨g, 2, none⟩, .slice (some ad) n c), (P, .int .i64 x.1), (⟨P.block, P.off + 1, none⟩, .int .i64 x.2)] []) (by kernel_rfl) (by kernel_rfl) ?_ ?_
        · refine KeptC.drewn ?_
          repeat' (first | refine KeptC.cons ?_ ?_ | refine KeptC.consF ?_ ?_ ?_ | refine KeptC.mk0 ?_)
          all_goals (first | with_reducible assumption | (go_simp; done) | (simp; omega) | exact (by repeat (first | with_reducible refine Below.setCell ?_ (by first | (simp; done) | (simp; omega) | omega) _ | with_reducible refine Below.alloc ?_ (by first | (simp; done) | (simp; omega) | omega) _ | with_reducible refine Below.drew ?_ | with_reducible refine below_drewN ?_ _ | with_reducible exact Below.refl _ _ | with_reducible refine Below.trans ?_ (Below.mono kb0 (by first | (simp; done) | (simp; omega) | omega)))))
        repeat (first
          | go_big_quiet_skip
          | (go_big_quiet_want; (apply quietC_run); (· intro w' hw'; (have hk' := hw'; simp only [KeptC, List.forall_mem_cons] at hk'; go_split_ands); go_simp; first | done | rfl); (simp only [Act.put, List.setIfInBounds_toArray, List.set_cons_zero, List.set_cons_succ]; go_big_quiet_on))
          | (go_big_quiet_want; (apply quietC_call); (· intro w' hw'; go_simp; first | done | exact ⟨rfl, rfl⟩ | rfl); (· intro w' hw'; first | ((with_reducible refine (C1.out _).mono ?_); rintro e w2 ⟨rfl, hb⟩; exact ⟨rfl, hw'.below hb⟩)); (simp only [Act.put, List.setIfInBounds_toArray, List.set_cons_zero, List.set_cons_succ]; go_big_quiet_on)))
        refine wpQuiet_nil ?_
        intro w9 hk9
        (have hk' := hk9; simp only [KeptC, List.forall_mem_cons] at hk'; go_split_ands); have hkB9 := hk9.1
        go_wp2
        go_ret
        refine ⟨?_, hkB9⟩
        rw [HF.out]
        rfl
      · have he : ∀ W, (binOp .eql 64 (lAgg x) (lAgg p)).run Try.prog W = .ok (.bool false) W := fun W => by rw [eql_link x p W, Bool.eq_false_iff.2 (fun e => hk (lEq_iff.1 e))]
        have HK := Lib.hid hk
        clear hk
        go_wp2
        refine wp_region_quietC_lit (KeptC w [(⟨g, 2, none⟩, .slice (some ad) n c), (P, .int .i64 x.1), (⟨P.block, P.off + 1, none⟩, .int .i64 x.2)] []) (by kernel_rfl) (by kernel_rfl) ?_ ?_
        · refine KeptC.drewn ?_
          repeat' (first | refine KeptC.cons ?_ ?_ | refine KeptC.consF ?_ ?_ ?_ | refine KeptC.mk0 ?_)
          all_goals (first | with_reducible assumption | (go_simp; done) | (simp; omega) | exact (by repeat (first | with_reducible refine Below.setCell ?_ (by first | (simp; done) | (simp; omega) | omega) _ | with_reducible refine Below.alloc ?_ (by first | (simp; done) | (simp; omega) | omega) _ | with_reducible refine Below.drew ?_ | with_reducible refine below_drewN ?_ _ | with_reducible exact Below.refl _ _ | with_reducible refine Below.trans ?_ (Below.mono kb0 (by first | (simp; done) | (simp; omega) | omega)))))
        repeat (first
          | go_big_quiet_skip
          | (go_big_quiet_want; (apply quietC_run); (· intro w' hw'; (have hk' := hw'; simp only [KeptC, List.forall_mem_cons] at hk'; go_split_ands); go_simp; first | done | rfl); (simp only [Act.put, List.setIfInBounds_toArray, List.set_cons_zero, List.set_cons_succ]; go_big_quiet_on))
          | (go_big_quiet_want; (apply quietC_call); (· intro w' hw'; go_simp; first | done | exact ⟨rfl, rfl⟩ | rfl); (· intro w' hw'; first | ((with_reducible refine (C1.out _).mono ?_); rintro e w2 ⟨rfl, hb⟩; exact ⟨rfl, hw'.below hb⟩)); (simp only [Act.put, List.setIfInBounds_toArray, List.set_cons_zero, List.set_cons_succ]; go_big_quiet_on)))
        refine wpQuiet_nil ?_
        intro w9 hk9
        (have hk' := hk9; simp only [KeptC, List.forall_mem_cons] at hk'; go_split_ands); have hkB9 := hk9.1
        go_wp2
        go_roundw
        case rel => exact ⟨j + 1, by omega, by go_num, Lib.hid (fun t ht e he => by
            rcases Nat.lt_or_ge t j with h1 | h1
            · exact HJ.out t h1 e he
            · obtain rfl : t = j := by omega
              have h2 := HX.out
              rw [he] at h2
              obtain rfl := Option.some.inj h2
              exact HK.out), (by (repeat' (first | refine KeptC.cons ?_ ?_ | refine KeptC.consF ?_ ?_ ?_ | refine KeptC.mk0 ?_)); all_goals (first | with_reducible assumption | (go_simp; done) | (simp; omega) | exact (by repeat (first | with_reducible refine Below.setCell ?_ (by first | (simp; done) | (simp; omega) | omega) _ | with_reducible refine Below.alloc ?_ (by first | (simp; done) | (simp; omega) | omega) _ | with_reducible refine Below.drew ?_ | with_reducible refine below_drewN ?_ _ | with_reducible exact Below.refl _ _ | with_reducible refine Below.trans ?_ (Below.mono hkB9 (by first | (simp; done) | (simp; omega) | omega))))))⟩
        case measure => simp [intOf]; omega
end Go.Proofs.Ytdaobbffhfbceaa
