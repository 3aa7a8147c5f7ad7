/- Whatever the list and the number: eddylaw09's RegMerges returns true. No conditions. -/
import Derived.Test.YtnmgfginhplpbaaL09m
namespace Go.Proofs.Ytnmgfginhplpbaa
open Go.ChangeShapes Go.WideShapes Go.ChangeAt Go.RowKit Go.Joins
set_option linter.unusedVariables false
theorem KeptC.bel {w0 w : World} {l : List (Addr × Value)} {F : List Addr} (h : KeptC w0 l F w) : Below w0.heap.size w0 w := h.1
/-- Not newer. -/
def leR (a b : R) : Prop := newerB a.ver a.wr b.ver b.wr = false
theorem leR_iff {a b : R} : leR a b ↔ a.ver < b.ver ∨ a.ver = b.ver ∧ b.wr ≤ a.wr := by
  unfold leR newerB; simp; omega
theorem leR_refl (a : R) : leR a a := by rw [leR_iff]; omega
theorem leR_trans {a b c : R} (h : leR a b) (k : leR b c) : leR a c := by rw [leR_iff] at *; omega
theorem merge_le (a b : R) : leR a (mergeR a b) ∧ leR b (mergeR a b) ∧ (mergeR a b = a ∨ mergeR a b = b) := by
  unfold mergeR
  cases h : newerB b.ver b.wr a.ver a.wr with
  | false => exact ⟨by simpa using leR_refl a, by unfold leR; simpa using h, by simp⟩
  | true =>
    refine ⟨?_, by simpa using leR_refl b, by simp⟩
    simp only [if_true]
    rw [leR_iff]
    simp [newerB] at h
    omega
theorem merge_self (a : R) : mergeR a a = a := by unfold mergeR; split <;> rfl
theorem mem_foldl (xs : List R) : ∀ a, (xs.foldl mergeR a = a ∨ xs.foldl mergeR a ∈ xs) ∧ leR a (xs.foldl mergeR a) ∧ ∀ x ∈ xs, leR x (xs.foldl mergeR a) := by
  induction xs with
  | nil => intro a; exact ⟨.inl rfl, leR_refl a, fun x hx => by cases hx⟩
  | cons y ys ih =>
    intro a
    simp only [List.foldl_cons]
    obtain ⟨h1, h2, h3⟩ := ih (mergeR a y)
    obtain ⟨m1, m2, m3⟩ := merge_le a y
    refine ⟨?_, leR_trans m1 h2, ?_⟩
    · rcases h1 with h1 | h1
      · rw [h1]
        rcases m3 with m3 | m3 <;> rw [m3]
        · exact .inl rfl
        · exact .inr (List.mem_cons_self ..)
      · exact .inr (List.mem_cons_of_mem _ h1)
    · intro x hx
      rcases List.mem_cons.1 hx with rfl | hx
      · exact leR_trans m2 h2
      · exact h3 x hx
/-- Of one stamp there is one register among the first k. -/
def ApartR (rs : List R) (k : Nat) : Prop := ∀ (a b : Nat) (x y : R), b < a → a < k → rs[a]? = some x → rs[b]? = some y → y.ver = x.ver → y.wr = x.wr → y = x
theorem apart_all {rs : List R} (h : ApartR rs rs.length) {x y : R} (hx : x ∈ rs) (hy : y ∈ rs) (h1 : y.ver = x.ver) (h2 : y.wr = x.wr) : y = x := by
  obtain ⟨a, ha, ea⟩ := List.mem_iff_getElem.1 hx
  obtain ⟨b, hb, eb⟩ := List.mem_iff_getElem.1 hy
  have xa : rs[a]? = some x := by rw [List.getElem?_eq_getElem ha, ea]
  have yb : rs[b]? = some y := by rw [List.getElem?_eq_getElem hb, eb]
  rcases Nat.lt_trichotomy a b with hl | rfl | hl
  · exact (h b a y x hl hb yb xa h1.symm h2.symm).symm
  · rw [xa] at yb; exact (Option.some.inj yb).symm
  · exact h a b x y hl ha xa yb h1 h2
/-- The greatest of a list whose stamps are one register each is what is put together in any order. -/
theorem most_is {rs : List R} (h : ApartR rs rs.length) {m : R} (hm : m ∈ rs) (hle : ∀ x ∈ rs, leR x m) : mostR rs = m := by
  match rs, hm with
  | x :: xs, hm =>
    obtain ⟨h1, h2, h3⟩ := mem_foldl xs x
    have hM : mostR (x :: xs) ∈ x :: xs := by
      show xs.foldl mergeR x ∈ x :: xs
      rcases h1 with h1 | h1
      · rw [h1]; exact List.mem_cons_self ..
      · exact List.mem_cons_of_mem _ h1
    have hMl : ∀ y ∈ x :: xs, leR y (mostR (x :: xs)) := by
      intro y hy
      rcases List.mem_cons.1 hy with rfl | hy
      · exact h2
      · exact h3 y hy
    have a1 := hMl m hm
    have a2 := hle _ hM
    rw [leR_iff] at a1 a2
    exact apart_all h hm hM (by omega) (by omega)
theorem merge_turn {rs : List R} (h : ApartR rs rs.length) {m x : R} (hm : m ∈ rs) (hx : x ∈ rs) (hle : leR x m) : mergeR x m = mergeR m x := by
  have e : mergeR m x = m := by unfold mergeR; rw [show newerB x.ver x.wr m.ver m.wr = false from hle]; rfl
  rw [e]
  unfold mergeR
  cases hn : newerB m.ver m.wr x.ver x.wr with
  | true => rfl
  | false =>
    have a1 : leR m x := hn
    rw [leR_iff] at a1 hle
    simp only [Bool.false_eq_true, if_false]
    exact apart_all h hm hx (by omega) (by omega)
theorem round_mod {s n t : Nat} (hs : s < n) (ht : t < n) : ∃ j, j < n ∧ (s + j) % n = t := by
  by_cases h : s ≤ t
  · exact ⟨t - s, by omega, by rw [show s + (t - s) = t by omega, Nat.mod_eq_of_lt ht]⟩
  · exact ⟨t + n - s, by omega, by rw [show s + (t + n - s) = t + n by omega, Nat.add_mod_right, Nat.mod_eq_of_lt ht]⟩
theorem wrap64_nat {u k : Nat} (h : u < k) (hm : k * 24 ≤ 140737488351232) : wrap64 (u : Int) = u := by unfold wrap64; omega
theorem wrapi_nat {u k : Nat} (h : u < k) (hm : k * 24 ≤ 140737488351232) : IntKind.i64.wrap (u : Int) = u := by simp only [IntKind.wrap, IntKind.bits, IntKind.signed]; have := wrap64_nat h hm; unfold wrap64 at this; simp; omega
theorem wrapu_nat {u k : Nat} (h : u ≤ k) (hm : k * 24 ≤ 140737488351232) : IntKind.u64.wrap (u : Int) = u := by rw [IntKind.wrap_u64]; omega
theorem wrapu_sum {s u k : Nat} (h : s < k) (h2 : u ≤ k) (hm : k * 24 ≤ 140737488351232) : IntKind.u64.wrap ((s : Int) + (u : Int)) = (s : Int) + (u : Int) := by rw [IntKind.wrap_u64]; omega
theorem wrapu_some (x : Int) : ∃ F : Nat, IntKind.u64.wrap x = (F : Int) := ⟨(IntKind.u64.wrap x).toNat, (Int.toNat_of_nonneg (wrap_u64_nonneg _)).symm⟩
set_option maxRecDepth 100000 in
set_option maxHeartbeats 8000000 in
theorem regMerges_any (A : Option Addr) (n c : Nat) (from_ : Int) (rs : List R) (w : World) (hr : RegsAt w w.heap.size A n rs) (hm : n * 24 ≤ reachBytes) (hf : (Lit.int .i64 from_).wf = true) :
    Calls Try.prog 7 #[.slice A n c, .int .i64 from_] w fun e w' => e = .returned (.bool true) ∧ Below w.heap.size w w' := by
  have hm' : n * 24 ≤ 140737488351232 := by unfold reachBytes at hm; omega
  clear hm
  have HR := Lib.hid hr
  clear hr
  go_enter Try.func7, Try.ntmps7
  go_wp2
  go_loopw [13] (fun i w' => ∃ k : Nat, k ≤ n ∧ i = .int .i64 k ∧ ApartR rs k ∧ KeptC w [] [] w') (fun i _ => n - (intOf i).toNat)
  case atStart => exact ⟨0, Nat.zero_le _, rfl, fun a b x y _ h => absurd h (by omega), (by (repeat' (first | refine KeptC.cons ?_ ?_ | refine KeptC.consF ?_ ?_ ?_ | refine KeptC.mk0 ?_)); all_goals (first | with_reducible assumption | (go_simp; done) | (simp; omega) | exact (by repeat (first | with_reducible refine Below.setCell ?_ (by first | (simp; done) | (simp; omega) | omega) _ | with_reducible refine Below.alloc ?_ (by first | (simp; done) | (simp; omega) | omega) _ | with_reducible refine Below.drew ?_ | with_reducible exact Below.refl _ _))))⟩
  case round =>
    obtain ⟨k, hk, rfl, hA, hK⟩ := hrel
    have HA := Lib.hid hA
    clear hA
    simp only [KeptC, List.forall_mem_cons] at hK; obtain ⟨kb0, _, _⟩ := hK
    by_cases hlt : k < n
    · have hlen := HR.out.1
      obtain ⟨ad, rfl, hab, hcs⟩ := HR.out.2 (by omega)
      obtain ⟨x, hx⟩ : ∃ x, rs[k]? = some x := ⟨_, List.getElem?_eq_getElem (by omega)⟩
      obtain ⟨p, hp⟩ : ∃ p, ad.add (k * 3) = p := ⟨_, rfl⟩
      have hpb : p.block < w.heap.size := by rw [← hp, block_of_add]; exact hab
      have hc3 := hcs k x hx
      rw [hp] at hc3
      obtain ⟨c0, c1, c2⟩ := hc3.below hpb kb0
      obtain ⟨xv, xw, xf⟩ := x
      have cm := fun w => merge_any xv xw xf xv xw xf w
      rw [merge_self] at cm
      have cn := fun w => newer_any xv xw xf xv xw xf w
      rw [show newerB xv xw xv xw = false by simp [newerB]] at cn
      have CM := Lib.hid cm; have CN := Lib.hid cn; have HX := Lib.hid hx; have HL := Lib.hid hlen
      clear cm cn hx hc3 hlen hcs
      simp only [] at c0 c1 c2
      go_wp2_with (fail)
      refine wp_region_quietC_lit (KeptC w [(p, .int .i64 xv), (⟨p.block, p.off + 1, none⟩, .int .i64 xw), (⟨p.block, p.off + 2, none⟩, .int .i64 xf)] []) (by kernel_rfl) (by kernel_rfl) ?_ ?_
      · refine KeptC.drewn ?_
        repeat' (first | refine KeptC.cons ?_ ?_ | refine KeptC.consF ?_ ?_ ?_ | refine KeptC.mk0 ?_)
        all_goals (first | with_reducible assumption | (go_simp; done) | (simp; omega) | exact (by repeat (first | with_reducible refine Below.setCell ?_ (by first | (simp; done) | (simp; omega) | omega) _ | with_reducible refine Below.alloc ?_ (by first | (simp; done) | (simp; omega) | omega) _ | with_reducible refine Below.drew ?_ | with_reducible exact Below.refl _ _ | with_reducible refine Below.trans ?_ (Below.mono kb0 (by first | (simp; done) | (simp; omega) | omega)))))
      repeat (first
        | go_big_quiet_skip
        | (go_big_quiet_want; (apply quietC_run); (· intro w' hw'; (have hk' := hw'; simp only [KeptC, List.forall_mem_cons] at hk'; go_split_ands); go_simp; first | done | rfl); (simp only [Act.put, List.setIfInBounds_toArray, List.set_cons_zero, List.set_cons_succ]; go_big_quiet_on))
        | (go_big_quiet_want; (apply quietC_call); (· intro w' hw'; go_simp; first | done | exact ⟨rfl, rfl⟩ | rfl); (· intro w' hw'; first | ((with_reducible refine (CM.out _).mono ?_); rintro e w2 ⟨rfl, hb⟩; exact ⟨rfl, hw'.below hb⟩) | ((with_reducible refine (CN.out _).mono ?_); rintro e w2 ⟨rfl, hb⟩; exact ⟨rfl, hw'.below hb⟩)); (simp only [Act.put, List.setIfInBounds_toArray, List.set_cons_zero, List.set_cons_succ]; go_big_quiet_on)))
      refine wpQuiet_nil ?_
      intro w1 hk1
      (have hk' := hk1; simp only [KeptC, List.forall_mem_cons] at hk'; go_split_ands); have hkB1 := hk1.1
      go_wp2
      go_loopw [42] (fun i w' => ∃ q : Nat, q ≤ k ∧ i = .int .i64 q ∧ (∀ (b : Nat) (y : R), b < q → rs[b]? = some y → y.ver = xv → y.wr = xw → y = ⟨xv, xw, xf⟩) ∧ KeptC w [(p, .int .i64 xv), (⟨p.block, p.off + 1, none⟩, .int .i64 xw), (⟨p.block, p.off + 2, none⟩, .int .i64 xf)] [] w') (fun i _ => k - (intOf i).toNat)
      case atStart => exact ⟨0, Nat.zero_le _, rfl, fun b y h => absurd h (by omega), hk1⟩
      case round =>
        obtain ⟨q, hq, rfl, hA2, hK2⟩ := hrel
        have HA2 := Lib.hid hA2
        clear hA2 c0 c1 c2
        simp only [KeptC, List.forall_mem_cons] at hK2; obtain ⟨kb2, ⟨kc2_0, kc2_1, kc2_2, _⟩, _⟩ := hK2
        by_cases hlt2 : q < k
        · obtain ⟨y, hy⟩ : ∃ y, rs[q]? = some y := ⟨_, List.getElem?_eq_getElem (by have := HL.out; omega)⟩
          obtain ⟨r, hpr⟩ : ∃ r, ad.add (q * 3) = r := ⟨_, rfl⟩
          have hrb : r.block < w.heap.size := by rw [← hpr, block_of_add]; exact hab
          obtain ⟨ad2, e2, _, hcs⟩ := HR.out.2 (by omega)
          obtain rfl : ad = ad2 := Option.some.inj e2
          have hc3 := hcs q y hy
          rw [hpr] at hc3
          obtain ⟨d0, d1, d2⟩ := hc3.below hrb kb2
          have HY := Lib.hid hy
          have hqn : q < n := by omega
          clear hcs hc3 hy e2
          obtain ⟨yv, yw, yf⟩ := y
          simp only [] at d0 d1 d2
          by_cases h1 : yv = xv
          · subst h1
            by_cases h2 : yw = xw
            · subst h2
              by_cases h3 : yf = xf
              · subst h3
                go_wp2_with (fail)
                refine wp_region_quietC_lit (KeptC w [(p, .int .i64 yv), (⟨p.block, p.off + 1, none⟩, .int .i64 yw), (⟨p.block, p.off + 2, none⟩, .int .i64 yf), (r, .int .i64 yv), (⟨r.block, r.off + 1, none⟩, .int .i64 yw), (⟨r.block, r.off + 2, none⟩, .int .i64 yf)] []) (by kernel_rfl) (by kernel_rfl) ?_ ?_
                · refine KeptC.drewn ?_
                  repeat' (first | refine KeptC.cons ?_ ?_ | refine KeptC.consF ?_ ?_ ?_ | refine KeptC.mk0 ?_)
                  all_goals (first | with_reducible assumption | (go_simp; done) | (simp; omega) | exact (by repeat (first | with_reducible refine Below.setCell ?_ (by first | (simp; done) | (simp; omega) | omega) _ | with_reducible refine Below.alloc ?_ (by first | (simp; done) | (simp; omega) | omega) _ | with_reducible refine Below.drew ?_ | with_reducible exact Below.refl _ _ | with_reducible refine Below.trans ?_ (Below.mono kb2 (by first | (simp; done) | (simp; omega) | omega)))))
                repeat (first
                  | go_big_quiet_skip
                  | (go_big_quiet_want; (apply quietC_run); (· intro w' hw'; (have hk' := hw'; simp only [KeptC, List.forall_mem_cons] at hk'; go_split_ands); go_simp; first | done | rfl); (simp only [Act.put, List.setIfInBounds_toArray, List.set_cons_zero, List.set_cons_succ]; go_big_quiet_on))
                  | (go_big_quiet_want; (apply quietC_call); (· intro w' hw'; go_simp; first | done | exact ⟨rfl, rfl⟩ | rfl); (· intro w' hw'; first | fail); (simp only [Act.put, List.setIfInBounds_toArray, List.set_cons_zero, List.set_cons_succ]; go_big_quiet_on)))
                refine wpQuiet_nil ?_
                intro w3 hk3
                (have hk' := hk3; simp only [KeptC, List.forall_mem_cons] at hk'; go_split_ands); have hkB3 := hk3.1
                go_wp2
                go_roundw
                case rel => exact ⟨q + 1, by omega, by go_num, fun b z hb hz e1 e2 => (by
                  rcases Nat.lt_or_ge b q with hl | hl
                  · exact HA2.out b z hl hz e1 e2
                  · obtain rfl : b = q := by omega
                    rw [HY.out] at hz
                    exact (Option.some.inj hz).symm), (by (repeat' (first | refine KeptC.cons ?_ ?_ | refine KeptC.consF ?_ ?_ ?_ | refine KeptC.mk0 ?_)); all_goals (first | with_reducible assumption | (go_simp; done) | (simp; omega) | exact (by repeat (first | with_reducible refine Below.setCell ?_ (by first | (simp; done) | (simp; omega) | omega) _ | with_reducible refine Below.alloc ?_ (by first | (simp; done) | (simp; omega) | omega) _ | with_reducible refine Below.drew ?_ | with_reducible exact Below.refl _ _ | with_reducible refine Below.trans ?_ (Below.mono hkB3 (by first | (simp; done) | (simp; omega) | omega))))))⟩
                case measure => simp [intOf]; omega
              · have h3' : (yf == xf) = false := beq_false_of_ne h3
                have h3'' : (xf == yf) = false := beq_false_of_ne (fun e => h3 e.symm)
                go_wp2_with (fail)
                refine wp_region_quietC_lit (KeptC w [(p, .int .i64 yv), (⟨p.block, p.off + 1, none⟩, .int .i64 yw), (⟨p.block, p.off + 2, none⟩, .int .i64 xf), (r, .int .i64 yv), (⟨r.block, r.off + 1, none⟩, .int .i64 yw), (⟨r.block, r.off + 2, none⟩, .int .i64 yf)] []) (by kernel_rfl) (by kernel_rfl) ?_ ?_
                · refine KeptC.drewn ?_
                  repeat' (first | refine KeptC.cons ?_ ?_ | refine KeptC.consF ?_ ?_ ?_ | refine KeptC.mk0 ?_)
                  all_goals (first | with_reducible assumption | (go_simp; done) | (simp; omega) | exact (by repeat (first | with_reducible refine Below.setCell ?_ (by first | (simp; done) | (simp; omega) | omega) _ | with_reducible refine Below.alloc ?_ (by first | (simp; done) | (simp; omega) | omega) _ | with_reducible refine Below.drew ?_ | with_reducible exact Below.refl _ _ | with_reducible refine Below.trans ?_ (Below.mono kb2 (by first | (simp; done) | (simp; omega) | omega)))))
                repeat (first
                  | go_big_quiet_skip
                  | (go_big_quiet_want; (apply quietC_run); (· intro w' hw'; (have hk' := hw'; simp only [KeptC, List.forall_mem_cons] at hk'; go_split_ands); go_simp; first | done | rfl); (simp only [Act.put, List.setIfInBounds_toArray, List.set_cons_zero, List.set_cons_succ]; go_big_quiet_on))
                  | (go_big_quiet_want; (apply quietC_call); (· intro w' hw'; go_simp; first | done | exact ⟨rfl, rfl⟩ | rfl); (· intro w' hw'; first | fail); (simp only [Act.put, List.setIfInBounds_toArray, List.set_cons_zero, List.set_cons_succ]; go_big_quiet_on)))
                refine wpQuiet_nil ?_
                intro w3 hk3
                (have hk' := hk3; simp only [KeptC, List.forall_mem_cons] at hk'; go_split_ands); have hkB3 := hk3.1
                go_wp2_with (refine (awake_any _).mono ?_; rintro e w4 ⟨rfl, hb4⟩)
                go_ret
                exact ⟨rfl, hkB3.trans (hb4.mono hkB3.size)⟩
            · have h2' : (yw == xw) = false := beq_false_of_ne h2
              go_wp2_with (fail)
              refine wp_region_quietC_lit (KeptC w [(p, .int .i64 yv), (⟨p.block, p.off + 1, none⟩, .int .i64 xw), (⟨p.block, p.off + 2, none⟩, .int .i64 xf), (r, .int .i64 yv), (⟨r.block, r.off + 1, none⟩, .int .i64 yw), (⟨r.block, r.off + 2, none⟩, .int .i64 yf)] []) (by kernel_rfl) (by kernel_rfl) ?_ ?_
              · refine KeptC.drewn ?_
                repeat' (first | refine KeptC.cons ?_ ?_ | refine KeptC.consF ?_ ?_ ?_ | refine KeptC.mk0 ?_)
                all_goals (first | with_reducible assumption | (go_simp; done) | (simp; omega) | exact (by repeat (first | with_reducible refine Below.setCell ?_ (by first | (simp; done) | (simp; omega) | omega) _ | with_reducible refine Below.alloc ?_ (by first | (simp; done) | (simp; omega) | omega) _ | with_reducible refine Below.drew ?_ | with_reducible exact Below.refl _ _ | with_reducible refine Below.trans ?_ (Below.mono kb2 (by first | (simp; done) | (simp; omega) | omega)))))
              repeat (first
                | go_big_quiet_skip
                | (go_big_quiet_want; (apply quietC_run); (· intro w' hw'; (have hk' := hw'; simp only [KeptC, List.forall_mem_cons] at hk'; go_split_ands); go_simp; first | done | rfl); (simp only [Act.put, List.setIfInBounds_toArray, List.set_cons_zero, List.set_cons_succ]; go_big_quiet_on))
                | (go_big_quiet_want; (apply quietC_call); (· intro w' hw'; go_simp; first | done | exact ⟨rfl, rfl⟩ | rfl); (· intro w' hw'; first | fail); (simp only [Act.put, List.setIfInBounds_toArray, List.set_cons_zero, List.set_cons_succ]; go_big_quiet_on)))
              refine wpQuiet_nil ?_
              intro w3 hk3
              (have hk' := hk3; simp only [KeptC, List.forall_mem_cons] at hk'; go_split_ands); have hkB3 := hk3.1
              go_wp2
              go_roundw
              case rel => exact ⟨q + 1, by omega, by go_num, fun b z hb hz e1 e2 => (by
                rcases Nat.lt_or_ge b q with hl | hl
                · exact HA2.out b z hl hz e1 e2
                · obtain rfl : b = q := by omega
                  rw [HY.out] at hz
                  obtain rfl := Option.some.inj hz
                  exact absurd e2 h2), (by (repeat' (first | refine KeptC.cons ?_ ?_ | refine KeptC.consF ?_ ?_ ?_ | refine KeptC.mk0 ?_)); all_goals (first | with_reducible assumption | (go_simp; done) | (simp; omega) | exact (by repeat (first | with_reducible refine Below.setCell ?_ (by first | (simp; done) | (simp; omega) | omega) _ | with_reducible refine Below.alloc ?_ (by first | (simp; done) | (simp; omega) | omega) _ | with_reducible refine Below.drew ?_ | with_reducible exact Below.refl _ _ | with_reducible refine Below.trans ?_ (Below.mono hkB3 (by first | (simp; done) | (simp; omega) | omega))))))⟩
              case measure => simp [intOf]; omega
          · have h1' : (yv == xv) = false := beq_false_of_ne h1
            go_wp2_with (fail)
            refine wp_region_quietC_lit (KeptC w [(p, .int .i64 xv), (⟨p.block, p.off + 1, none⟩, .int .i64 xw), (⟨p.block, p.off + 2, none⟩, .int .i64 xf), (r, .int .i64 yv), (⟨r.block, r.off + 1, none⟩, .int .i64 yw), (⟨r.block, r.off + 2, none⟩, .int .i64 yf)] []) (by kernel_rfl) (by kernel_rfl) ?_ ?_
            · refine KeptC.drewn ?_
              repeat' (first | refine KeptC.cons ?_ ?_ | refine KeptC.consF ?_ ?_ ?_ | refine KeptC.mk0 ?_)
              all_goals (first | with_reducible assumption | (go_simp; done) | (simp; omega) | exact (by repeat (first | with_reducible refine Below.setCell ?_ (by first | (simp; done) | (simp; omega) | omega) _ | with_reducible refine Below.alloc ?_ (by first | (simp; done) | (simp; omega) | omega) _ | with_reducible refine Below.drew ?_ | with_reducible exact Below.refl _ _ | with_reducible refine Below.trans ?_ (Below.mono kb2 (by first | (simp; done) | (simp; omega) | omega)))))
            repeat (first
              | go_big_quiet_skip
              | (go_big_quiet_want; (apply quietC_run); (· intro w' hw'; (have hk' := hw'; simp only [KeptC, List.forall_mem_cons] at hk'; go_split_ands); go_simp; first | done | rfl); (simp only [Act.put, List.setIfInBounds_toArray, List.set_cons_zero, List.set_cons_succ]; go_big_quiet_on))
              | (go_big_quiet_want; (apply quietC_call); (· intro w' hw'; go_simp; first | done | exact ⟨rfl, rfl⟩ | rfl); (· intro w' hw'; first | fail); (simp only [Act.put, List.setIfInBounds_toArray, List.set_cons_zero, List.set_cons_succ]; go_big_quiet_on)))
            refine wpQuiet_nil ?_
            intro w3 hk3
            (have hk' := hk3; simp only [KeptC, List.forall_mem_cons] at hk'; go_split_ands); have hkB3 := hk3.1
            go_wp2
            go_roundw
            case rel => exact ⟨q + 1, by omega, by go_num, fun b z hb hz e1 e2 => (by
              rcases Nat.lt_or_ge b q with hl | hl
              · exact HA2.out b z hl hz e1 e2
              · obtain rfl : b = q := by omega
                rw [HY.out] at hz
                obtain rfl := Option.some.inj hz
                exact absurd e1 h1), (by (repeat' (first | refine KeptC.cons ?_ ?_ | refine KeptC.consF ?_ ?_ ?_ | refine KeptC.mk0 ?_)); all_goals (first | with_reducible assumption | (go_simp; done) | (simp; omega) | exact (by repeat (first | with_reducible refine Below.setCell ?_ (by first | (simp; done) | (simp; omega) | omega) _ | with_reducible refine Below.alloc ?_ (by first | (simp; done) | (simp; omega) | omega) _ | with_reducible refine Below.drew ?_ | with_reducible exact Below.refl _ _ | with_reducible refine Below.trans ?_ (Below.mono hkB3 (by first | (simp; done) | (simp; omega) | omega))))))⟩
            case measure => simp [intOf]; omega
        · obtain rfl : q = k := by omega
          go_wp2
          go_roundw
          case rel => exact ⟨q + 1, by omega, by go_num, (fun a b x y hb ha hx hy e1 e2 => by
            rcases Nat.lt_or_ge a q with hl | hl
            · exact HA.out a b x y hb hl hx hy e1 e2
            · obtain rfl : a = q := by omega
              rw [HX.out] at hx
              obtain rfl := Option.some.inj hx
              exact HA2.out b y hb hy e1 e2), (by (repeat' (first | refine KeptC.cons ?_ ?_ | refine KeptC.consF ?_ ?_ ?_ | refine KeptC.mk0 ?_)); all_goals (first | with_reducible assumption | (go_simp; done) | (simp; omega) | exact (by repeat (first | with_reducible refine Below.setCell ?_ (by first | (simp; done) | (simp; omega) | omega) _ | with_reducible refine Below.alloc ?_ (by first | (simp; done) | (simp; omega) | omega) _ | with_reducible refine Below.drew ?_ | with_reducible exact Below.refl _ _ | with_reducible refine Below.trans ?_ (Below.mono kb2 (by first | (simp; done) | (simp; omega) | omega))))))⟩
          case measure => simp [intOf]; omega
    · obtain rfl : k = n := by omega
      obtain ⟨w1, hw1⟩ : ∃ w1, w1 = wr := ⟨_, rfl⟩
      subst hw1
      have hws := kb0.size
      by_cases h0 : 0 < k
      · have hlen := HR.out.1
        obtain ⟨ad, rfl, hab, hcs⟩ := HR.out.2 (by omega)
        have cmo := fun w' (hb : Below w.heap.size w w') => most_any (some ad) k c rs w' ((HR.out.below hb).more hb.size) hm'
        have hk0 : (0 : Int) < k := by omega
        have hkn : ((k : Int) == 0) = false := beq_false_of_ne (by omega)
        obtain ⟨F, hF⟩ := wrapu_some from_
        obtain ⟨s, hs⟩ : ∃ s : Nat, F % k = s := ⟨_, rfl⟩
        have hsk : s < k := by rw [← hs]; exact Nat.mod_lt _ h0
        have hst : (F : Int).tmod (k : Int) = (s : Int) := by rw [← hs]; exact (Int.ofNat_tmod F k).symm
        have hsw : wrap64 (s : Int) = s := wrap64_nat hsk hm'
        have hkz : k ≠ 0 := by omega
        clear hs
        obtain ⟨x, hx⟩ : ∃ x, rs[s]? = some x := ⟨_, List.getElem?_eq_getElem (by omega)⟩
        obtain ⟨p, hp⟩ : ∃ p, ad.add (s * 3) = p := ⟨_, rfl⟩
        have hpb : p.block < w.heap.size := by rw [← hp, block_of_add]; exact hab
        have hc3 := hcs s x hx
        rw [hp] at hc3
        obtain ⟨c0, c1, c2⟩ := hc3.below hpb kb0
        obtain ⟨xv, xw, xf⟩ := x
        have hp1 : p.block < w1.heap.size := by omega
        have HX := Lib.hid hx; have HL := Lib.hid hlen
        have CMO := Lib.hid cmo
        clear hcs hx hlen hc3 cmo
        simp only [] at c0 c1 c2
        go_wp2
        go_loopw [99] (fun i w' => ∃ (q : Nat) (m : R), q ≤ k ∧ i = .int .i64 q ∧ m ∈ rs ∧ (∀ (j : Nat) (x : R), j < q → rs[(s + j) % k]? = some x → leR x m) ∧ KeptC w [(⟨w1.heap.size, 0, none⟩, .int .i64 m.ver), (⟨w1.heap.size, 1, none⟩, .int .i64 m.wr), (⟨w1.heap.size, 2, none⟩, .int .i64 m.flow)] [⟨w1.heap.size, 0, none⟩, ⟨w1.heap.size, 1, none⟩, ⟨w1.heap.size, 2, none⟩] w') (fun i _ => k - (intOf i).toNat)
        case atStart => exact ⟨0, ⟨xv, xw, xf⟩, Nat.zero_le _, rfl, List.mem_of_getElem? HX.out, fun j x h => absurd h (by omega), (by (repeat' (first | refine KeptC.cons ?_ ?_ | refine KeptC.consF ?_ ?_ ?_ | refine KeptC.mk0 ?_)); all_goals (first | with_reducible assumption | (go_simp; done) | (simp; omega) | exact (by repeat (first | with_reducible refine Below.setCell ?_ (by first | (simp; done) | (simp; omega) | omega) _ | with_reducible refine Below.alloc ?_ (by first | (simp; done) | (simp; omega) | omega) _ | with_reducible refine Below.drew ?_ | with_reducible exact Below.refl _ _ | with_reducible refine Below.trans ?_ (Below.mono kb0 (by first | (simp; done) | (simp; omega) | omega))))))⟩
        case round =>
          obtain ⟨q, ⟨mv, mw, mf⟩, hq, rfl, hmm, hle, hK3⟩ := hrel
          have HMm := Lib.hid hmm; have HLE := Lib.hid hle
          clear c0 c1 c2 hmm hle hp hpb
          simp only [] at hK3
          simp only [KeptC, List.forall_mem_cons] at hK3; obtain ⟨kb3, ⟨kc3_0, kc3_1, kc3_2, _⟩, ⟨kz3_0, kg3_0⟩, ⟨kz3_1, kg3_1⟩, ⟨kz3_2, kg3_2⟩, _⟩ := hK3
          have hws3 := kb3.size
          by_cases hlt : q < k
          · obtain ⟨u, hu⟩ : ∃ u : Nat, (s + q) % k = u := ⟨_, rfl⟩
            have huk : u < k := by rw [← hu]; exact Nat.mod_lt _ h0
            have hut : ((s : Int) + (q : Int)).tmod (k : Int) = (u : Int) := by rw [← hu]; exact (Int.ofNat_tmod (s + q) k).symm
            have huw : wrap64 (u : Int) = u := wrap64_nat huk hm'
            have huw2 : IntKind.i64.wrap (u : Int) = u := wrapi_nat huk hm'
            have hqw : IntKind.u64.wrap (q : Int) = q := wrapu_nat hq hm'
            have hkw : IntKind.u64.wrap (k : Int) = k := wrapu_nat (Nat.le_refl _) hm'
            have hsqw : IntKind.u64.wrap ((s : Int) + (q : Int)) = (s : Int) + (q : Int) := wrapu_sum hsk hq hm'
            have HU := Lib.hid hu
            clear hu
            obtain ⟨ad2, e2, hab2, hcs⟩ := HR.out.2 (by omega)
            obtain rfl : ad = ad2 := Option.some.inj e2
            obtain ⟨y, hy⟩ : ∃ y, rs[u]? = some y := ⟨_, List.getElem?_eq_getElem (by rw [HL.out]; exact huk)⟩
            obtain ⟨r, hpr⟩ : ∃ r, ad.add (u * 3) = r := ⟨_, rfl⟩
            have hrb : r.block < w.heap.size := by rw [← hpr, block_of_add]; exact hab
            have hc3 := hcs u y hy
            rw [hpr] at hc3
            obtain ⟨d0, d1, d2⟩ := hc3.below hrb kb3
            obtain ⟨yv, yw, yf⟩ := y
            have HY := Lib.hid hy
            have t1 := merge_le ⟨yv, yw, yf⟩ ⟨mv, mw, mf⟩
            have cm := fun w => merge_any yv yw yf mv mw mf w
            generalize mergeR ⟨yv, yw, yf⟩ ⟨mv, mw, mf⟩ = g at *
            obtain ⟨gv, gw, gf⟩ := g
            have CM := Lib.hid cm; have T1 := Lib.hid t1
            clear hcs hy hc3 cm t1 e2 hab2
            simp only [] at d0 d1 d2
            go_wp2_with (fail)
            refine wp_region_quietC_tail (KeptC w [(⟨w1.heap.size, 0, none⟩, .int .i64 mv), (⟨w1.heap.size, 1, none⟩, .int .i64 mw), (⟨w1.heap.size, 2, none⟩, .int .i64 mf), (r, .int .i64 yv), (⟨r.block, r.off + 1, none⟩, .int .i64 yw), (⟨r.block, r.off + 2, none⟩, .int .i64 yf)] [⟨w1.heap.size, 0, none⟩, ⟨w1.heap.size, 1, none⟩, ⟨w1.heap.size, 2, none⟩]) 17 (by kernel_rfl) (by kernel_rfl) ?_ ?_
            · refine KeptC.drewn ?_
              repeat' (first | refine KeptC.cons ?_ ?_ | refine KeptC.consF ?_ ?_ ?_ | refine KeptC.mk0 ?_)
              all_goals (first | with_reducible assumption | (go_simp; done) | (simp; omega) | exact (by repeat (first | with_reducible refine Below.setCell ?_ (by first | (simp; done) | (simp; omega) | omega) _ | with_reducible refine Below.alloc ?_ (by first | (simp; done) | (simp; omega) | omega) _ | with_reducible refine Below.drew ?_ | with_reducible exact Below.refl _ _ | with_reducible refine Below.trans ?_ (Below.mono kb3 (by first | (simp; done) | (simp; omega) | omega)))))
            simp only [List.take_succ_cons, List.take_zero, List.drop_succ_cons, List.drop_zero]
            repeat (first
              | go_big_quiet_skip
              | (go_big_quiet_want; (apply quietC_run); (· intro w' hw'; (have hk' := hw'; simp only [KeptC, List.forall_mem_cons] at hk'; go_split_ands); go_simp; first | done | rfl); (simp only [Act.put, List.setIfInBounds_toArray, List.set_cons_zero, List.set_cons_succ]; go_big_quiet_on))
              | (go_big_quiet_want; (apply quietC_call); (· intro w' hw'; go_simp; first | done | exact ⟨rfl, rfl⟩ | rfl); (· intro w' hw'; first | ((with_reducible refine (CM.out _).mono ?_); rintro e w2 ⟨rfl, hb⟩; exact ⟨rfl, hw'.below hb⟩)); (simp only [Act.put, List.setIfInBounds_toArray, List.set_cons_zero, List.set_cons_succ]; go_big_quiet_on)))
            refine wpQuiet_nil ?_
            intro w5 hk5
            (have hk' := hk5; simp only [KeptC, List.forall_mem_cons] at hk'; go_split_ands); have hkB5 := hk5.1
            have hz5_0 : w1.heap.size < w5.heap.size := cell_lt (a := ⟨w1.heap.size, 0, none⟩) (by assumption)
            go_wp2
            go_roundw
            case rel =>
              refine ⟨q + 1, ⟨gv, gw, gf⟩, by omega, by go_num, ?_, ?_, (by (repeat' (first | refine KeptC.cons ?_ ?_ | refine KeptC.consF ?_ ?_ ?_ | refine KeptC.mk0 ?_)); all_goals (first | with_reducible assumption | (go_simp; done) | (simp; omega) | exact (by repeat (first | with_reducible refine Below.setCell ?_ (by first | (simp; done) | (simp; omega) | omega) _ | with_reducible refine Below.alloc ?_ (by first | (simp; done) | (simp; omega) | omega) _ | with_reducible refine Below.drew ?_ | with_reducible exact Below.refl _ _ | with_reducible refine Below.trans ?_ (Below.mono hkB5 (by first | (simp; done) | (simp; omega) | omega))))))⟩
              · rcases T1.out.2.2 with e | e
                · rw [e]; exact List.mem_of_getElem? HY.out
                · rw [e]; exact HMm.out
              · intro j x hj hx
                rcases Nat.lt_or_ge j q with hl | hl
                · exact leR_trans (HLE.out j x hl hx) T1.out.2.1
                · obtain rfl : j = q := by omega
                  rw [HU.out, HY.out] at hx
                  rw [← Option.some.inj hx]
                  exact T1.out.1
            case measure => simp [intOf]; omega
          · obtain rfl : q = k := by omega
            have hle : ∀ x ∈ rs, leR x ⟨mv, mw, mf⟩ := fun x hx => by
              obtain ⟨t, ht, et⟩ := List.mem_iff_getElem.1 hx
              obtain ⟨j, hj, ej⟩ := round_mod hsk (show t < q by have := HL.out; omega)
              exact HLE.out j x hj (by rw [ej, List.getElem?_eq_getElem ht, et])
            have hap : ApartR rs rs.length := by rw [HL.out]; exact HA.out
            have hmo := most_is hap HMm.out hle
            have HLe := Lib.hid hle
            have htu : ∀ x ∈ rs, mergeR x ⟨mv, mw, mf⟩ = mergeR ⟨mv, mw, mf⟩ x := fun x hx => merge_turn hap HMm.out hx (hle x hx)
            have HTu := Lib.hid htu
            have cmo := CMO.out
            rw [hmo] at cmo
            dsimp only at cmo
            have CMo := Lib.hid cmo
            clear hle hap hmo cmo htu
            go_wp2
            go_loopw [122] (fun i w' => ∃ g9 : Nat, g9 ≤ q ∧ i = .int .i64 g9 ∧ KeptC w [(⟨w1.heap.size, 0, none⟩, .int .i64 mv), (⟨w1.heap.size, 1, none⟩, .int .i64 mw), (⟨w1.heap.size, 2, none⟩, .int .i64 mf)] [] w') (fun i _ => q - (intOf i).toNat)
            case atStart => exact ⟨0, Nat.zero_le _, rfl, (by (repeat' (first | refine KeptC.cons ?_ ?_ | refine KeptC.consF ?_ ?_ ?_ | refine KeptC.mk0 ?_)); all_goals (first | with_reducible assumption | (go_simp; done) | (simp; omega) | exact (by repeat (first | with_reducible refine Below.setCell ?_ (by first | (simp; done) | (simp; omega) | omega) _ | with_reducible refine Below.alloc ?_ (by first | (simp; done) | (simp; omega) | omega) _ | with_reducible refine Below.drew ?_ | with_reducible exact Below.refl _ _ | with_reducible refine Below.trans ?_ (Below.mono kb3 (by first | (simp; done) | (simp; omega) | omega))))))⟩
            case round =>
              obtain ⟨g9, hg9, rfl, hK4⟩ := hrel
              simp only [KeptC, List.forall_mem_cons] at hK4; obtain ⟨kb4, ⟨kc4_0, kc4_1, kc4_2, _⟩, _⟩ := hK4
              by_cases hlt : g9 < q
              · have hlen := HR.out.1
                obtain ⟨ad2, e2, hab2, hcs⟩ := HR.out.2 (by omega)
                obtain rfl : ad = ad2 := Option.some.inj e2
                obtain ⟨x, hx⟩ : ∃ x, rs[g9]? = some x := ⟨_, List.getElem?_eq_getElem (by omega)⟩
                obtain ⟨p, hp⟩ : ∃ p, ad.add (g9 * 3) = p := ⟨_, rfl⟩
                have hpb : p.block < w.heap.size := by rw [← hp, block_of_add]; exact hab2
                have hc3 := hcs g9 x hx
                rw [hp] at hc3
                obtain ⟨d0, d1, d2⟩ := hc3.below hpb kb4
                have hxm : x ∈ rs := List.mem_of_getElem? hx
                have t1 := HLe.out x hxm
                have t2 := HTu.out x hxm
                obtain ⟨xv, xw, xf⟩ := x
                have cn := fun w => newer_any xv xw xf mv mw mf w
                rw [show newerB xv xw mv mw = false from t1] at cn
                have cm := fun w => merge_any xv xw xf mv mw mf w
                rw [t2] at cm
                have cm2 := fun w => merge_any mv mw mf xv xw xf w
                generalize mergeR ⟨mv, mw, mf⟩ ⟨xv, xw, xf⟩ = g at *
                obtain ⟨gv, gw, gf⟩ := g
                have CN := Lib.hid cn; have CM := Lib.hid cm; have CM2 := Lib.hid cm2
                clear cn cm cm2 t1 t2 hx hxm hc3 hcs hlen
                simp only [] at d0 d1 d2
                go_wp2_with (fail)
                refine wp_region_quietC_lit (KeptC w [(⟨w1.heap.size, 0, none⟩, .int .i64 mv), (⟨w1.heap.size, 1, none⟩, .int .i64 mw), (⟨w1.heap.size, 2, none⟩, .int .i64 mf), (p, .int .i64 xv), (⟨p.block, p.off + 1, none⟩, .int .i64 xw), (⟨p.block, p.off + 2, none⟩, .int .i64 xf)] []) (by kernel_rfl) (by kernel_rfl) ?_ ?_
                · refine KeptC.drewn ?_
                  repeat' (first | refine KeptC.cons ?_ ?_ | refine KeptC.consF ?_ ?_ ?_ | refine KeptC.mk0 ?_)
                  all_goals (first | with_reducible assumption | (go_simp; done) | (simp; omega) | exact (by repeat (first | with_reducible refine Below.setCell ?_ (by first | (simp; done) | (simp; omega) | omega) _ | with_reducible refine Below.alloc ?_ (by first | (simp; done) | (simp; omega) | omega) _ | with_reducible refine Below.drew ?_ | with_reducible exact Below.refl _ _ | with_reducible refine Below.trans ?_ (Below.mono kb4 (by first | (simp; done) | (simp; omega) | omega)))))
                repeat (first
                  | go_big_quiet_skip
                  | (go_big_quiet_want; (apply quietC_run); (· intro w' hw'; (have hk' := hw'; simp only [KeptC, List.forall_mem_cons] at hk'; go_split_ands); go_simp; first | done | rfl); (simp only [Act.put, List.setIfInBounds_toArray, List.set_cons_zero, List.set_cons_succ]; go_big_quiet_on))
                  | (go_big_quiet_want; (apply quietC_call); (· intro w' hw'; go_simp; first | done | exact ⟨rfl, rfl⟩ | rfl); (· intro w' hw'; first | ((with_reducible refine (CN.out _).mono ?_); rintro e w2 ⟨rfl, hb⟩; exact ⟨rfl, hw'.below hb⟩) | ((with_reducible refine (CM.out _).mono ?_); rintro e w2 ⟨rfl, hb⟩; exact ⟨rfl, hw'.below hb⟩) | ((with_reducible refine (CM2.out _).mono ?_); rintro e w2 ⟨rfl, hb⟩; exact ⟨rfl, hw'.below hb⟩)); (simp only [Act.put, List.setIfInBounds_toArray, List.set_cons_zero, List.set_cons_succ]; go_big_quiet_on)))
                refine wpQuiet_nil ?_
                intro w5 hk5
                (have hk' := hk5; simp only [KeptC, List.forall_mem_cons] at hk'; go_split_ands); have hkB5 := hk5.1
                go_wp2
                go_roundw
                case rel => exact ⟨g9 + 1, by omega, by go_num, (by (repeat' (first | refine KeptC.cons ?_ ?_ | refine KeptC.consF ?_ ?_ ?_ | refine KeptC.mk0 ?_)); all_goals (first | with_reducible assumption | (go_simp; done) | (simp; omega) | exact (by repeat (first | with_reducible refine Below.setCell ?_ (by first | (simp; done) | (simp; omega) | omega) _ | with_reducible refine Below.alloc ?_ (by first | (simp; done) | (simp; omega) | omega) _ | with_reducible refine Below.drew ?_ | with_reducible exact Below.refl _ _ | with_reducible refine Below.trans ?_ (Below.mono hkB5 (by first | (simp; done) | (simp; omega) | omega))))))⟩
                case measure => simp [intOf]; omega
              · obtain rfl : g9 = q := by omega
                go_wp2_with (fail)
                refine wp_region_quietC_lit (KeptC w [(⟨w1.heap.size, 0, none⟩, .int .i64 mv), (⟨w1.heap.size, 1, none⟩, .int .i64 mw), (⟨w1.heap.size, 2, none⟩, .int .i64 mf)] []) (by kernel_rfl) (by kernel_rfl) ?_ ?_
                · refine KeptC.drewn ?_
                  repeat' (first | refine KeptC.cons ?_ ?_ | refine KeptC.consF ?_ ?_ ?_ | refine KeptC.mk0 ?_)
                  all_goals (first | with_reducible assumption | (go_simp; done) | (simp; omega) | exact (by repeat (first | with_reducible refine Below.setCell ?_ (by first | (simp; done) | (simp; omega) | omega) _ | with_reducible refine Below.alloc ?_ (by first | (simp; done) | (simp; omega) | omega) _ | with_reducible refine Below.drew ?_ | with_reducible exact Below.refl _ _ | with_reducible refine Below.trans ?_ (Below.mono kb4 (by first | (simp; done) | (simp; omega) | omega)))))
                repeat (first
                  | go_big_quiet_skip
                  | (go_big_quiet_want; (apply quietC_run); (· intro w' hw'; (have hk' := hw'; simp only [KeptC, List.forall_mem_cons] at hk'; go_split_ands); go_simp; first | done | rfl); (simp only [Act.put, List.setIfInBounds_toArray, List.set_cons_zero, List.set_cons_succ]; go_big_quiet_on))
                  | (go_big_quiet_want; (apply quietC_call); (· intro w' hw'; go_simp; first | done | exact ⟨rfl, rfl⟩ | rfl); (· intro w' hw'; first | ((with_reducible refine (CMo.out _ hw'.bel).mono ?_); rintro e w2 ⟨rfl, hb⟩; exact ⟨rfl, hw'.below hb⟩) | ((with_reducible refine (awake_any _).mono ?_); rintro e w2 ⟨rfl, hb⟩; exact ⟨rfl, hw'.below hb⟩)); (simp only [Act.put, List.setIfInBounds_toArray, List.set_cons_zero, List.set_cons_succ]; go_big_quiet_on)))
                refine wpQuiet_nil ?_
                intro w5 hk5
                (have hk' := hk5; simp only [KeptC, List.forall_mem_cons] at hk'; go_split_ands); have hkB5 := hk5.1
                go_wp2
                go_ret
                exact ⟨rfl, hkB5⟩
      · obtain rfl : k = 0 := by omega
        have hnil : rs = [] := List.eq_nil_of_length_eq_zero HR.out.1
        have cmo := fun w' (hb : Below w.heap.size w w') => most_any A 0 c rs w' ((HR.out.below hb).more hb.size) hm'
        rw [hnil, show mostR [] = ⟨0, 0, 0⟩ from rfl] at cmo
        dsimp only at cmo
        have CMo := Lib.hid cmo
        clear cmo
        go_wp2
        go_loopw [122] (fun i w' => i = .int .i64 0 ∧ KeptC w [(⟨w1.heap.size, 0, none⟩, .int .i64 0), (⟨w1.heap.size, 1, none⟩, .int .i64 0), (⟨w1.heap.size, 2, none⟩, .int .i64 0)] [] w') (fun _ _ => 0)
        case atStart => exact ⟨rfl, (by (repeat' (first | refine KeptC.cons ?_ ?_ | refine KeptC.consF ?_ ?_ ?_ | refine KeptC.mk0 ?_)); all_goals (first | with_reducible assumption | (go_simp; done) | (simp; omega) | exact (by repeat (first | with_reducible refine Below.setCell ?_ (by first | (simp; done) | (simp; omega) | omega) _ | with_reducible refine Below.alloc ?_ (by first | (simp; done) | (simp; omega) | omega) _ | with_reducible refine Below.drew ?_ | with_reducible exact Below.refl _ _ | with_reducible refine Below.trans ?_ (Below.mono kb0 (by first | (simp; done) | (simp; omega) | omega))))))⟩
        case round =>
          obtain ⟨rfl, hK4⟩ := hrel
          simp only [KeptC, List.forall_mem_cons] at hK4; obtain ⟨kb4, ⟨kc4_0, kc4_1, kc4_2, _⟩, _⟩ := hK4
          go_wp2_with (fail)
          refine wp_region_quietC_lit (KeptC w [(⟨w1.heap.size, 0, none⟩, .int .i64 0), (⟨w1.heap.size, 1, none⟩, .int .i64 0), (⟨w1.heap.size, 2, none⟩, .int .i64 0)] []) (by kernel_rfl) (by kernel_rfl) ?_ ?_
          · refine KeptC.drewn ?_
            repeat' (first | refine KeptC.cons ?_ ?_ | refine KeptC.consF ?_ ?_ ?_ | refine KeptC.mk0 ?_)
            all_goals (first | with_reducible assumption | (go_simp; done) | (simp; omega) | exact (by repeat (first | with_reducible refine Below.setCell ?_ (by first | (simp; done) | (simp; omega) | omega) _ | with_reducible refine Below.alloc ?_ (by first | (simp; done) | (simp; omega) | omega) _ | with_reducible refine Below.drew ?_ | with_reducible exact Below.refl _ _ | with_reducible refine Below.trans ?_ (Below.mono kb4 (by first | (simp; done) | (simp; omega) | omega)))))
          repeat (first
            | go_big_quiet_skip
            | (go_big_quiet_want; (apply quietC_run); (· intro w' hw'; (have hk' := hw'; simp only [KeptC, List.forall_mem_cons] at hk'; go_split_ands); go_simp; first | done | rfl); (simp only [Act.put, List.setIfInBounds_toArray, List.set_cons_zero, List.set_cons_succ]; go_big_quiet_on))
            | (go_big_quiet_want; (apply quietC_call); (· intro w' hw'; go_simp; first | done | exact ⟨rfl, rfl⟩ | rfl); (· intro w' hw'; first | ((with_reducible refine (CMo.out _ hw'.bel).mono ?_); rintro e w2 ⟨rfl, hb⟩; exact ⟨rfl, hw'.below hb⟩) | ((with_reducible refine (awake_any _).mono ?_); rintro e w2 ⟨rfl, hb⟩; exact ⟨rfl, hw'.below hb⟩)); (simp only [Act.put, List.setIfInBounds_toArray, List.set_cons_zero, List.set_cons_succ]; go_big_quiet_on)))
          refine wpQuiet_nil ?_
          intro w5 hk5
          (have hk' := hk5; simp only [KeptC, List.forall_mem_cons] at hk'; go_split_ands); have hkB5 := hk5.1
          go_wp2
          go_ret
          exact ⟨rfl, hkB5⟩
theorem regMerges_lifted (os : Os) (started : os.Started) (H : Type) (enc : TypeId × Value → H) :
    ReturnsInHanded {} Try.checked os 7 .any (Rows.regMergesSpec.pre6 enc Try.prog Try.f7 Rows.regMergesRow.domain false) (Rows.regMergesSpec.post enc Try.prog Try.f7 false true false false) := by
  refine returnsInHanded_of_change_sized (C := Try.checked) own started (by kernel_rfl) Try.func7
    (ChangeSpec.witness6 (enc := enc) (C := Try.checked) false ⟨#[], #[.slice none 0 0, .int .i64 0], []⟩ 8 (by kernel_rfl) (by kernel_rfl) (by kernel_rfl) (by kernel_rfl)) ?_
  intro W base args ds gs before hval hW _ hsz _
  have hW' := hW
  obtain ⟨p, q, hA, hV, rfl, hfz, hnd⟩ := hW
  obtain ⟨rfl, rfl⟩ := trodVars_none hV
  rw [Try.params7] at hA hval
  obtain ⟨v0, vs0, d0, ds0, p0, q0, hargs, rfl, rfl, h0, r0⟩ := trodAll_cons hA
  obtain ⟨v1, vs1, d1, ds1, p1, q1, rfl, rfl, rfl, h1, r1⟩ := trodAll_cons r0
  obtain ⟨rfl, rfl, rfl⟩ := trodAll_nil r1
  obtain rfl : args = #[v0, v1] := by cases args; simp_all
  obtain ⟨A, n, c, rs, rfl, _, hr, hds⟩ := open_regs Try.underlying37 Try.underlying23 (by kernel_rfl) (by kernel_rfl) rfl rfl Try.underlying2 Try.underlying3 Try.underlying2 (hval 0 _ v0 rfl rfl) h0
  obtain ⟨fr, rfl, _, _, wfr⟩ := open_int Try.underlying3 (hval 1 _ v1 rfl rfl) h1
  refine (regMerges_any A n c fr rs W hr (small_regs hsz (j := 0) rfl rfl Try.underlying37 (by kernel_rfl) hds) wfr).mono fun e W' ⟨he, hg⟩ => ?_
  subst he
  exact ⟨_, rfl, law_post laidOut rfl (by kernel_rfl) rfl Try.underlying4 rfl hW' hg⟩

theorem regMerges_holds : Rows.RegMergesSaid :=
  OpenClaim.holds_of_wide 7 Try.f7 rfl rfl rfl rfl rfl rfl rfl ⟨rfl, rfl, rfl, rfl, rfl⟩ rfl rfl rfl rfl rfl (by kernel_rfl) Try.func7 (by kernel_rfl)
    (of_decide_eq_true (by kernel_rfl)) (by unfold Func.isWrapper; first | (rw [if_pos (by decide +kernel)]; kernel_rfl) | (rw [if_neg (by decide +kernel)]; exact ⟨rfl, rfl⟩))
    (fun os started H enc _ => regMerges_lifted os started H enc)

end Go.Proofs.Ytnmgfginhplpbaa
