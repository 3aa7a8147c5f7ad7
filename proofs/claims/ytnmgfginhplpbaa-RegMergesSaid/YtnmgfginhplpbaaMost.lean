/- The greatest of a list of registers: eddyref09.Most. -/
import Derived.Test.YtnmgfginhplpbaaReg
import Derived.Test.YtnmgfginhplpbaaReads
import Derived.Test.YtnmgfginhplpbaaQuiet
namespace Go.Proofs.Ytnmgfginhplpbaa
open Go.RowKit
def mostR : List R → R
  | [] => ⟨0, 0, 0⟩
  | x :: xs => xs.foldl mergeR x
theorem mostR_snoc (rs : List R) (k : Nat) (hk : 0 < k) (h : k < rs.length) : mostR (rs.take (k + 1)) = mergeR (mostR (rs.take k)) rs[k] := by
  rw [List.take_succ_eq_append_getElem h]
  match rs, h with
  | x :: xs, h =>
    obtain ⟨j, rfl⟩ : ∃ j, k = j + 1 := ⟨k - 1, by omega⟩
    simp only [List.take_succ_cons, List.cons_append, mostR, List.foldl_append, List.foldl_cons, List.foldl_nil]
/-- At p lies the register x. -/
def cells3 (w : World) (p : Addr) (x : R) : Prop := w.cell? p = some (.int .i64 x.ver) ∧ w.cell? ⟨p.block, p.off + 1, none⟩ = some (.int .i64 x.wr) ∧ w.cell? ⟨p.block, p.off + 2, none⟩ = some (.int .i64 x.flow)
theorem cells3.below {w w' : World} {B : Nat} {p : Addr} {x : R} (h : cells3 w p x) (hp : p.block < B) (hb : Below B w w') : cells3 w' p x :=
  ⟨(hb.cell hp).trans h.1, (hb.cell (p := ⟨p.block, p.off + 1, none⟩) hp).trans h.2.1, (hb.cell (p := ⟨p.block, p.off + 2, none⟩) hp).trans h.2.2⟩
/-- The slice A of n registers reads as rs, and lies below block B. -/
def RegsAt (w : World) (B : Nat) (A : Option Addr) (n : Nat) (rs : List R) : Prop :=
  rs.length = n ∧ (0 < n → ∃ ad, A = some ad ∧ ad.block < B ∧ ∀ j x, rs[j]? = some x → cells3 w (ad.add (j * 3)) x)
theorem RegsAt.below {w w' : World} {B n : Nat} {A : Option Addr} {rs : List R} (h : RegsAt w B A n rs) (hb : Below B w w') : RegsAt w' B A n rs :=
  ⟨h.1, fun hn => by
    obtain ⟨ad, e, hlt, hc⟩ := h.2 hn
    exact ⟨ad, e, hlt, fun j x hx => (hc j x hx).below (by rw [block_of_add]; exact hlt) hb⟩⟩
theorem RegsAt.more {w : World} {B B' n : Nat} {A : Option Addr} {rs : List R} (h : RegsAt w B A n rs) (hB : B ≤ B') : RegsAt w B' A n rs :=
  ⟨h.1, fun hn => by
    obtain ⟨ad, e, hlt, hc⟩ := h.2 hn
    exact ⟨ad, e, by omega, hc⟩⟩
theorem most_one {rs : List R} {x : R} (h : rs[0]? = some x) : mostR (rs.take 1) = x := by
  match rs, h with
  | y :: ys, h => simp at h; simp [mostR, h]
set_option maxRecDepth 100000 in
set_option maxHeartbeats 4000000 in
theorem rmost_any (A : Option Addr) (n c : Nat) (rs : List R) (w : World) (hr : RegsAt w w.heap.size A n rs) (hm : n * 24 ≤ 140737488351232) :
    Calls Try.prog 21 #[.slice A n c] w fun e w' => e = .returned (.agg #[.int .i64 (mostR rs).ver, .int .i64 (mostR rs).wr, .int .i64 (mostR rs).flow]) ∧ Below w.heap.size w w' := by
  rcases Nat.eq_zero_or_pos n with h0 | h0
  · subst h0
    have : rs = [] := List.eq_nil_of_length_eq_zero hr.1
    subst this
    clear hr
    go_enter Try.func21, Try.ntmps21
    go_wp2
    refine bodyPost_ret (v := .agg #[.int .i64 0, .int .i64 0, .int .i64 0]) (by simp [results, Try.results21, go_sem, *]) rfl ⟨rfl, (by repeat (first | with_reducible refine Below.setCell ?_ (by first | (simp; done) | (simp; omega) | omega) _ | with_reducible refine Below.alloc ?_ (by first | (simp; done) | (simp; omega) | omega) _ | with_reducible refine Below.drew ?_ | with_reducible exact Below.refl _ _))⟩
  · obtain ⟨ad, rfl, hab, hcs⟩ := hr.2 h0
    have hlen := hr.1
    obtain ⟨x0, hx0⟩ : ∃ x, rs[0]? = some x := ⟨_, List.getElem?_eq_getElem (by omega)⟩
    obtain ⟨a0, a1, a2⟩ := hcs 0 x0 hx0
    rw [Nat.zero_mul, show ad.add 0 = ad by simp [Addr.add]] at a0 a1 a2
    have hnp : (0 : Int) < n := by omega
    have hn0 : ((n : Int) == 0) = false := beq_false_of_ne (by omega)
    have HR := Lib.hid hr
    have HX := Lib.hid hx0
    clear hr hcs hx0 hlen
    go_enter Try.func21, Try.ntmps21
    go_wp2
    go_loopw [4] (fun i w' => ∃ k : Nat, 0 < k ∧ k ≤ n ∧ i = .int .i64 k ∧ KeptC w [(⟨w.heap.size, 0, none⟩, .int .i64 0), (⟨w.heap.size, 1, none⟩, .int .i64 0), (⟨w.heap.size, 2, none⟩, .int .i64 0), (⟨w.heap.size + 1, 0, none⟩, .int .i64 (mostR (rs.take k)).ver), (⟨w.heap.size + 1, 1, none⟩, .int .i64 (mostR (rs.take k)).wr), (⟨w.heap.size + 1, 2, none⟩, .int .i64 (mostR (rs.take k)).flow)] [⟨w.heap.size, 0, none⟩, ⟨w.heap.size, 1, none⟩, ⟨w.heap.size, 2, none⟩, ⟨w.heap.size + 1, 0, none⟩, ⟨w.heap.size + 1, 1, none⟩, ⟨w.heap.size + 1, 2, none⟩] w') (fun i _ => n - (intOf i).toNat)
    case atStart => exact ⟨1, by omega, h0, rfl, by rw [show mostR (rs.take 1) = x0 from most_one HX.out]; exact (by (repeat' (first | refine KeptC.cons ?_ ?_ | refine KeptC.consF ?_ ?_ ?_ | refine KeptC.mk0 ?_)); all_goals (first | with_reducible assumption | (go_simp; done) | (simp; omega) | exact (by repeat (first | with_reducible refine Below.setCell ?_ (by first | (simp; done) | (simp; omega) | omega) _ | with_reducible refine Below.alloc ?_ (by first | (simp; done) | (simp; omega) | omega) _ | with_reducible refine Below.drew ?_ | with_reducible exact Below.refl _ _))))⟩
    case round =>
      obtain ⟨k, hk0, hk, rfl, hK⟩ := hrel
      simp only [KeptC, List.forall_mem_cons] at hK; obtain ⟨kb0, ⟨kc0_0, kc0_1, kc0_2, kc0_3, kc0_4, kc0_5, _⟩, ⟨kz0_0, kg0_0⟩, ⟨kz0_1, kg0_1⟩, ⟨kz0_2, kg0_2⟩, ⟨kz0_3, kg0_3⟩, ⟨kz0_4, kg0_4⟩, ⟨kz0_5, kg0_5⟩, _⟩ := hK
      clear a0 a1 a2
      by_cases hlt : k < n
      · have hlen := HR.out.1
        obtain ⟨x, hx⟩ : ∃ x, rs[k]? = some x := ⟨_, List.getElem?_eq_getElem (by omega)⟩
        obtain ⟨ad2, e2, hab2, hcs⟩ := HR.out.2 h0
        obtain rfl : ad = ad2 := Option.some.inj e2
        obtain ⟨p, hp⟩ : ∃ p, ad.add (k * 3) = p := ⟨_, rfl⟩
        have hpb : p.block < w.heap.size := by rw [← hp, block_of_add]; exact hab
        have hc3 := hcs k x hx
        rw [hp] at hc3
        obtain ⟨c0, c1, c2⟩ := hc3.below hpb kb0
        have hms : mostR (rs.take (k + 1)) = mergeR (mostR (rs.take k)) x := by
          obtain ⟨hk2, hx2⟩ := List.getElem?_eq_some_iff.1 hx
          rw [mostR_snoc rs k hk0 hk2, hx2]
        obtain ⟨xv, xw, xf⟩ := x
        have cm := fun w => rmerge_any (mostR (rs.take k)).ver (mostR (rs.take k)).wr (mostR (rs.take k)).flow xv xw xf w
        generalize hM : mostR (rs.take k) = m at *
        obtain ⟨mv, mw, mf⟩ := m
        generalize mergeR ⟨mv, mw, mf⟩ ⟨xv, xw, xf⟩ = r at *
        obtain ⟨rv, rw', rf⟩ := r
        have CM := Lib.hid cm
        have HS := Lib.hid hms
        clear cm hms hM hx hcs e2 hab2 hc3 hlen
        simp only [] at c0 c1 c2 kc0_3 kc0_4 kc0_5
        go_wp2_with (fail)
        refine wp_region_quietC_tail (KeptC w [(⟨w.heap.size, 0, none⟩, .int .i64 0), (⟨w.heap.size, 1, none⟩, .int .i64 0), (⟨w.heap.size, 2, none⟩, .int .i64 0), (⟨w.heap.size + 1, 0, none⟩, .int .i64 mv), (⟨w.heap.size + 1, 1, none⟩, .int .i64 mw), (⟨w.heap.size + 1, 2, none⟩, .int .i64 mf), (p, .int .i64 xv), (⟨p.block, p.off + 1, none⟩, .int .i64 xw), (⟨p.block, p.off + 2, none⟩, .int .i64 xf)] [⟨w.heap.size, 0, none⟩, ⟨w.heap.size, 1, none⟩, ⟨w.heap.size, 2, none⟩, ⟨w.heap.size + 1, 0, none⟩, ⟨w.heap.size + 1, 1, none⟩, ⟨w.heap.size + 1, 2, none⟩]) 6 (by kernel_rfl) (by kernel_rfl) ?_ ?_
        · refine KeptC.drewn ?_
          repeat' (first | refine KeptC.cons ?_ ?_ | refine KeptC.consF ?_ ?_ ?_ | refine KeptC.mk0 ?_)
          all_goals (first | with_reducible assumption | (go_simp; done) | (simp; omega) | exact (by repeat (first | with_reducible refine Below.setCell ?_ (by first | (simp; done) | (simp; omega) | omega) _ | with_reducible refine Below.alloc ?_ (by first | (simp; done) | (simp; omega) | omega) _ | with_reducible refine Below.drew ?_ | with_reducible exact Below.refl _ _ | with_reducible refine Below.trans ?_ (Below.mono kb0 (by first | (simp; done) | (simp; omega) | omega)))))
        simp only [List.take_succ_cons, List.take_zero, List.drop_succ_cons, List.drop_zero]
        repeat (first
          | go_big_quiet_skip
          | (go_big_quiet_want; (apply quietC_run); (· intro w' hw'; (have hk' := hw'; simp only [KeptC, List.forall_mem_cons] at hk'; go_split_ands); go_simp; first | done | rfl); (simp only [Act.put, List.setIfInBounds_toArray, List.set_cons_zero, List.set_cons_succ]; go_big_quiet_on))
          | (go_big_quiet_want; (apply quietC_call); (· intro w' hw'; go_simp; first | done | exact ⟨rfl, rfl⟩ | rfl); (· intro w' hw'; first | ((with_reducible refine (CM.out _).mono ?_); rintro e w2 ⟨rfl, hb⟩; exact ⟨rfl, hw'.below hb⟩)); (simp only [Act.put, List.setIfInBounds_toArray, List.set_cons_zero, List.set_cons_succ]; go_big_quiet_on)))
        refine wpQuiet_nil ?_
        intro w1 hk1
        (have hk' := hk1; simp only [KeptC, List.forall_mem_cons] at hk'; go_split_ands); have hkB1 := hk1.1
        have hz1_0 : w.heap.size < w1.heap.size := cell_lt (a := ⟨w.heap.size, 0, none⟩) (by assumption)
        have hz1_1 : w.heap.size + 1 < w1.heap.size := cell_lt (a := ⟨w.heap.size + 1, 0, none⟩) (by assumption)
        go_wp2
        go_roundw
        case rel => exact ⟨k + 1, by omega, by omega, by go_num, by rw [HS.out]; exact (by (repeat' (first | refine KeptC.cons ?_ ?_ | refine KeptC.consF ?_ ?_ ?_ | refine KeptC.mk0 ?_)); all_goals (first | with_reducible assumption | (go_simp; done) | (simp; omega) | exact (by repeat (first | with_reducible refine Below.setCell ?_ (by first | (simp; done) | (simp; omega) | omega) _ | with_reducible refine Below.alloc ?_ (by first | (simp; done) | (simp; omega) | omega) _ | with_reducible refine Below.drew ?_ | with_reducible exact Below.refl _ _ | with_reducible refine Below.trans ?_ (Below.mono hkB1 (by first | (simp; done) | (simp; omega) | omega))))))⟩
        case measure => simp [intOf]; omega
      · obtain rfl : k = n := by omega
        have ht : rs.take k = rs := List.take_of_length_le (by have := HR.out.1; omega)
        rw [ht] at kc0_3 kc0_4 kc0_5
        generalize hM : mostR rs = m at *
        obtain ⟨mv, mw, mf⟩ := m
        have HX2 := Lib.hid hM
        clear hM ht
        simp only [] at kc0_3 kc0_4 kc0_5
        go_wp2
        refine bodyPost_ret (v := .agg #[.int .i64 mv, .int .i64 mw, .int .i64 mf]) (by simp [results, Try.results21, go_sem, *]) rfl ⟨by rw [HX2.out], (by repeat (first | with_reducible refine Below.setCell ?_ (by first | (simp; done) | (simp; omega) | omega) _ | with_reducible refine Below.alloc ?_ (by first | (simp; done) | (simp; omega) | omega) _ | with_reducible refine Below.drew ?_ | with_reducible exact Below.refl _ _ | with_reducible refine Below.trans ?_ (Below.mono kb0 (by first | (simp; done) | (simp; omega) | omega))))⟩
end Go.Proofs.Ytnmgfginhplpbaa
