/- Find of dir and of its reference: what each call computes, for every argument. -/
import Derived.Test.YtfihkkamedghkaaDirF
namespace Go.Proofs.Ytfihkkamedghkaa
open Go.RowKit
set_option linter.unusedVariables false
def findL (rs : List Ch) (nm : ByteArray) : Option Ch := rs.find? fun c => c.name.toList == nm.toList
theorem find_hit {rs : List Ch} {nm : ByteArray} {k : Nat} {c : Ch} (h : rs[k]? = some c) (h0 : (rs.take k).find? (fun c => c.name.toList == nm.toList) = none) (hc : (c.name.toList == nm.toList) = true) : findL rs nm = some c := by
  obtain ⟨hk, e⟩ := List.getElem?_eq_some_iff.1 h
  have e1 : rs = rs.take k ++ c :: rs.drop (k + 1) := by
    rw [← e, ← List.drop_eq_getElem_cons hk, List.take_append_drop]
  unfold findL
  rw [e1, List.find?_append, h0, List.find?_cons, hc]
  rfl
theorem find_next {rs : List Ch} {nm : ByteArray} {k : Nat} {c : Ch} (h : rs[k]? = some c) (h0 : (rs.take k).find? (fun c => c.name.toList == nm.toList) = none) (hc : (c.name.toList == nm.toList) = false) : (rs.take (k + 1)).find? (fun c => c.name.toList == nm.toList) = none := by
  obtain ⟨hk, e⟩ := List.getElem?_eq_some_iff.1 h
  rw [List.take_succ_eq_append_getElem hk, List.find?_append, h0, e]
  simp [hc]
theorem find_none {rs : List Ch} {nm : ByteArray} {n : Nat} (hn : rs.length = n) (h0 : (rs.take n).find? (fun c => c.name.toList == nm.toList) = none) : findL rs nm = none := by
  rw [List.take_of_length_le (by omega)] at h0
  exact h0
set_option maxRecDepth 100000 in
set_option maxHeartbeats 8000000 in
theorem find_any (A : Option Addr) (n cp : Nat) (rs : List Ch) (nm : ByteArray) (w : World) (hr : ChsAt w w.heap.size A n rs) (hm : n * 56 ≤ 140737488351232) :
    Calls Try.prog 66 #[.slice A n cp, .string nm] w fun x w' => x = .returned (.tuple #[.agg #[.string ((findL rs nm).getD Ch0).name, .int .i64 ((findL rs nm).getD Ch0).ep, .int .i64 ((findL rs nm).getD Ch0).who, .bool ((findL rs nm).getD Ch0).al, .int .i64 ((findL rs nm).getD Ch0).kd, .int .i64 ((findL rs nm).getD Ch0).sc], .bool (findL rs nm).isSome]) ∧ Below w.heap.size w w' := by
  have HR := Lib.hid hr
  clear hr
  go_enter Try.func66, Try.ntmps66
  go_wp2
  go_loopw [10] (fun i w' => ∃ k : Nat, k ≤ n ∧ i = .int .i64 k ∧ (rs.take k).find? (fun c => c.name.toList == nm.toList) = none ∧ KeptC w [(⟨w.heap.size, 0, none⟩, .string ⟨#[]⟩), (⟨w.heap.size, 1, none⟩, .int .i64 0), (⟨w.heap.size, 2, none⟩, .int .i64 0), (⟨w.heap.size, 3, none⟩, .bool false), (⟨w.heap.size, 4, none⟩, .int .i64 0), (⟨w.heap.size, 5, none⟩, .int .i64 0)] [⟨w.heap.size, 0, none⟩, ⟨w.heap.size, 1, none⟩, ⟨w.heap.size, 2, none⟩, ⟨w.heap.size, 3, none⟩, ⟨w.heap.size, 4, none⟩, ⟨w.heap.size, 5, none⟩] w') (fun i _ => n - (intOf i).toNat)
  case atStart => exact ⟨0, Nat.zero_le _, rfl, rfl, (by (repeat' (first | refine KeptC.cons ?_ ?_ | refine KeptC.consF ?_ ?_ ?_ | refine KeptC.mk0 ?_)); all_goals (first | with_reducible assumption | (go_simp; done) | (simp; omega) | exact (by repeat (first | with_reducible refine Below.setCell ?_ (by first | (simp; done) | (simp; omega) | omega) _ | with_reducible refine Below.alloc ?_ (by first | (simp; done) | (simp; omega) | omega) _ | with_reducible refine Below.drew ?_ | with_reducible refine below_drewN ?_ _ | with_reducible exact Below.refl _ _))))⟩
  case round =>
    obtain ⟨k, hk, rfl, hA0, hK⟩ := hrel
    have HA := Lib.hid hA0
    clear hA0
    simp only [KeptC, List.forall_mem_cons] at hK; obtain ⟨kb0, ⟨kc0_0, kc0_1, kc0_2, kc0_3, kc0_4, kc0_5, _⟩, ⟨kz0_0, kg0_0⟩, ⟨kz0_1, kg0_1⟩, ⟨kz0_2, kg0_2⟩, ⟨kz0_3, kg0_3⟩, ⟨kz0_4, kg0_4⟩, ⟨kz0_5, kg0_5⟩, _⟩ := hK
    by_cases hlt : k < n
    rotate_left
    · obtain rfl : k = n := by omega
      have hf := find_none HR.out.1 HA.out
      have HF := Lib.hid hf
      clear hf
      go_wp2
      refine bodyPost_ret (v := .tuple #[.agg #[.string ⟨#[]⟩, .int .i64 0, .int .i64 0, .bool false, .int .i64 0, .int .i64 0], .bool false]) (by simp [results, Try.results66, go_sem, *]) rfl ⟨by rw [HF.out]; rfl, (by repeat (first | with_reducible refine Below.setCell ?_ (by first | (simp; done) | (simp; omega) | omega) _ | with_reducible refine Below.alloc ?_ (by first | (simp; done) | (simp; omega) | omega) _ | with_reducible refine Below.drew ?_ | with_reducible refine below_drewN ?_ _ | with_reducible exact Below.refl _ _ | with_reducible refine Below.trans ?_ (Below.mono kb0 (by first | (simp; done) | (simp; omega) | omega))))⟩
    · obtain ⟨ad, x, hA, hab, hx, hsz, hc6⟩ := HR.out.get hlt
      subst hA
      obtain ⟨p, hp⟩ : ∃ p, ad.add (k * 6) = p := ⟨_, rfl⟩
      have hpb : p.block < w.heap.size := by rw [← hp, block_of_add]; exact hab
      rw [hp] at hc6
      obtain ⟨c0, c1, c2, c3, c4, c5⟩ := hc6.below hpb kb0
      have hws := kb0.size
      have hpw : p.block < wr.heap.size := by omega
      cases he : (x.name.toList == nm.toList) with
      | true =>
        have hf := find_hit hx HA.out he
        obtain ⟨s, e, m, al, k0, sc⟩ := x
        simp only [] at c0 c1 c2 c3 c4 c5 hsz he
        have HF := Lib.hid hf
        clear hf hx hc6 hsz
        go_wp2
        refine bodyPost_ret (v := .tuple #[.agg #[.string s, .int .i64 e, .int .i64 m, .bool al, .int .i64 k0, .int .i64 sc], .bool true]) (by simp [results, Try.results66, go_sem, *]) rfl ⟨by rw [HF.out]; rfl, (by repeat (first | with_reducible refine Below.setCell ?_ (by first | (simp; done) | (simp; omega) | omega) _ | with_reducible refine Below.alloc ?_ (by first | (simp; done) | (simp; omega) | omega) _ | with_reducible refine Below.drew ?_ | with_reducible refine below_drewN ?_ _ | with_reducible exact Below.refl _ _ | with_reducible refine Below.trans ?_ (Below.mono kb0 (by first | (simp; done) | (simp; omega) | omega))))⟩
      | false =>
        have hf := find_next hx HA.out he
        obtain ⟨s, e, m, al, k0, sc⟩ := x
        simp only [] at c0 c1 c2 c3 c4 c5 hsz he
        have HF := Lib.hid hf
        clear hf hx hc6 hsz
        go_wp2
        go_roundw
        case rel => exact ⟨k + 1, by omega, by go_num, HF.out, (by (repeat' (first | refine KeptC.cons ?_ ?_ | refine KeptC.consF ?_ ?_ ?_ | refine KeptC.mk0 ?_)); all_goals (first | with_reducible assumption | (go_simp; done) | (simp; omega) | exact (by repeat (first | with_reducible refine Below.setCell ?_ (by first | (simp; done) | (simp; omega) | omega) _ | with_reducible refine Below.alloc ?_ (by first | (simp; done) | (simp; omega) | omega) _ | with_reducible refine Below.drew ?_ | with_reducible refine below_drewN ?_ _ | with_reducible exact Below.refl _ _ | with_reducible refine Below.trans ?_ (Below.mono kb0 (by first | (simp; done) | (simp; omega) | omega))))))⟩
        case measure => simp [intOf]; omega
set_option maxRecDepth 100000 in
set_option maxHeartbeats 8000000 in
theorem rfind_any (A : Option Addr) (n cp : Nat) (rs : List Ch) (nm : ByteArray) (w : World) (hr : ChsAt w w.heap.size A n rs) (hm : n * 56 ≤ 140737488351232) :
    Calls Try.prog 73 #[.slice A n cp, .string nm] w fun x w' => x = .returned (.tuple #[.agg #[.string ((findL rs nm).getD Ch0).name, .int .i64 ((findL rs nm).getD Ch0).ep, .int .i64 ((findL rs nm).getD Ch0).who, .bool ((findL rs nm).getD Ch0).al, .int .i64 ((findL rs nm).getD Ch0).kd, .int .i64 ((findL rs nm).getD Ch0).sc], .bool (findL rs nm).isSome]) ∧ Below w.heap.size w w' := by
  have HR := Lib.hid hr
  clear hr
  go_enter Try.func73, Try.ntmps73
  go_wp2
  go_loopw [6] (fun i w' => ∃ k : Nat, k ≤ n ∧ i = .int .i64 k ∧ (rs.take k).find? (fun c => c.name.toList == nm.toList) = none ∧ KeptC w [(⟨w.heap.size, 0, none⟩, .string ⟨#[]⟩), (⟨w.heap.size, 1, none⟩, .int .i64 0), (⟨w.heap.size, 2, none⟩, .int .i64 0), (⟨w.heap.size, 3, none⟩, .bool false), (⟨w.heap.size, 4, none⟩, .int .i64 0), (⟨w.heap.size, 5, none⟩, .int .i64 0)] [⟨w.heap.size, 0, none⟩, ⟨w.heap.size, 1, none⟩, ⟨w.heap.size, 2, none⟩, ⟨w.heap.size, 3, none⟩, ⟨w.heap.size, 4, none⟩, ⟨w.heap.size, 5, none⟩] w') (fun i _ => n - (intOf i).toNat)
  case atStart => exact ⟨0, Nat.zero_le _, rfl, rfl, (by (repeat' (first | refine KeptC.cons ?_ ?_ | refine KeptC.consF ?_ ?_ ?_ | refine KeptC.mk0 ?_)); all_goals (first | with_reducible assumption | (go_simp; done) | (simp; omega) | exact (by repeat (first | with_reducible refine Below.setCell ?_ (by first | (simp; done) | (simp; omega) | omega) _ | with_reducible refine Below.alloc ?_ (by first | (simp; done) | (simp; omega) | omega) _ | with_reducible refine Below.drew ?_ | with_reducible refine below_drewN ?_ _ | with_reducible exact Below.refl _ _))))⟩
  case round =>
    obtain ⟨k, hk, rfl, hA0, hK⟩ := hrel
    have HA := Lib.hid hA0
    clear hA0
    simp only [KeptC, List.forall_mem_cons] at hK; obtain ⟨kb0, ⟨kc0_0, kc0_1, kc0_2, kc0_3, kc0_4, kc0_5, _⟩, ⟨kz0_0, kg0_0⟩, ⟨kz0_1, kg0_1⟩, ⟨kz0_2, kg0_2⟩, ⟨kz0_3, kg0_3⟩, ⟨kz0_4, kg0_4⟩, ⟨kz0_5, kg0_5⟩, _⟩ := hK
    by_cases hlt : k < n
    rotate_left
    · obtain rfl : k = n := by omega
      have hf := find_none HR.out.1 HA.out
      have HF := Lib.hid hf
      clear hf
      go_wp2
      refine bodyPost_ret (v := .tuple #[.agg #[.string ⟨#[]⟩, .int .i64 0, .int .i64 0, .bool false, .int .i64 0, .int .i64 0], .bool false]) (by simp [results, Try.results73, go_sem, *]) rfl ⟨by rw [HF.out]; rfl, (by repeat (first | with_reducible refine Below.setCell ?_ (by first | (simp; done) | (simp; omega) | omega) _ | with_reducible refine Below.alloc ?_ (by first | (simp; done) | (simp; omega) | omega) _ | with_reducible refine Below.drew ?_ | with_reducible refine below_drewN ?_ _ | with_reducible exact Below.refl _ _ | with_reducible refine Below.trans ?_ (Below.mono kb0 (by first | (simp; done) | (simp; omega) | omega))))⟩
    · obtain ⟨ad, x, hA, hab, hx, hsz, hc6⟩ := HR.out.get hlt
      subst hA
      obtain ⟨p, hp⟩ : ∃ p, ad.add (k * 6) = p := ⟨_, rfl⟩
      have hpb : p.block < w.heap.size := by rw [← hp, block_of_add]; exact hab
      rw [hp] at hc6
      obtain ⟨c0, c1, c2, c3, c4, c5⟩ := hc6.below hpb kb0
      have hws := kb0.size
      have hpw : p.block < wr.heap.size := by omega
      cases he : (x.name.toList == nm.toList) with
      | true =>
        have hf := find_hit hx HA.out he
        obtain ⟨s, e, m, al, k0, sc⟩ := x
        simp only [] at c0 c1 c2 c3 c4 c5 hsz he
        have HF := Lib.hid hf
        clear hf hx hc6 hsz
        go_wp2
        refine bodyPost_ret (v := .tuple #[.agg #[.string s, .int .i64 e, .int .i64 m, .bool al, .int .i64 k0, .int .i64 sc], .bool true]) (by simp [results, Try.results73, go_sem, *]) rfl ⟨by rw [HF.out]; rfl, (by repeat (first | with_reducible refine Below.setCell ?_ (by first | (simp; done) | (simp; omega) | omega) _ | with_reducible refine Below.alloc ?_ (by first | (simp; done) | (simp; omega) | omega) _ | with_reducible refine Below.drew ?_ | with_reducible refine below_drewN ?_ _ | with_reducible exact Below.refl _ _ | with_reducible refine Below.trans ?_ (Below.mono kb0 (by first | (simp; done) | (simp; omega) | omega))))⟩
      | false =>
        have hf := find_next hx HA.out he
        obtain ⟨s, e, m, al, k0, sc⟩ := x
        simp only [] at c0 c1 c2 c3 c4 c5 hsz he
        have HF := Lib.hid hf
        clear hf hx hc6 hsz
        go_wp2
        go_roundw
        case rel => exact ⟨k + 1, by omega, by go_num, HF.out, (by (repeat' (first | refine KeptC.cons ?_ ?_ | refine KeptC.consF ?_ ?_ ?_ | refine KeptC.mk0 ?_)); all_goals (first | with_reducible assumption | (go_simp; done) | (simp; omega) | exact (by repeat (first | with_reducible refine Below.setCell ?_ (by first | (simp; done) | (simp; omega) | omega) _ | with_reducible refine Below.alloc ?_ (by first | (simp; done) | (simp; omega) | omega) _ | with_reducible refine Below.drew ?_ | with_reducible refine below_drewN ?_ _ | with_reducible exact Below.refl _ _ | with_reducible refine Below.trans ?_ (Below.mono kb0 (by first | (simp; done) | (simp; omega) | omega))))))⟩
        case measure => simp [intOf]; omega
end Go.Proofs.Ytfihkkamedghkaa
