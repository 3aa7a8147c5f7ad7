/- Find, Own, Copy and Flows of chans and of its reference: what each call computes, for every list. -/
import Derived.Test.YtfihkkamedghkaaStF
import Derived.Test.YtfihkkamedghkaaStC
namespace Go.Proofs.Ytfihkkamedghkaa
open Go.RowKit
set_option linter.unusedVariables false
set_option maxRecDepth 100000 in
set_option maxHeartbeats 8000000 in
theorem sfind_any_0 (A : Option Addr) (n cp : Nat) (rs : List St) (nm : ByteArray) (w : World) (hr : StsAt w w.heap.size A n rs) (hm : n * 136 ≤ 140737488351232) (hp : plc rs nm = none) :
    Calls Try.prog 20 #[.slice A n cp, .string nm] w fun x w' => x = .returned (.tuple #[.agg #[.string ((findS rs nm).getD St0).ch.name, .int .i64 ((findS rs nm).getD St0).ch.ep, .int .i64 ((findS rs nm).getD St0).ch.who, .bool ((findS rs nm).getD St0).ch.al, .int .i64 ((findS rs nm).getD St0).ch.kd, .int .i64 ((findS rs nm).getD St0).ch.sc, .bool ((findS rs nm).getD St0).has, .int .i64 ((findS rs nm).getD St0).inp, .bool ((findS rs nm).getD St0).mn.has, .int .i64 ((findS rs nm).getD St0).mn.val, .int .i64 ((findS rs nm).getD St0).mn.org, .int .i64 ((findS rs nm).getD St0).mn.age, .bool ((findS rs nm).getD St0).mx.has, .int .i64 ((findS rs nm).getD St0).mx.val, .int .i64 ((findS rs nm).getD St0).mx.org, .int .i64 ((findS rs nm).getD St0).mx.age], .bool (findS rs nm).isSome]) ∧ Below w.heap.size w w' := by
  have HR := Lib.hid hr
  have c := fun W (hb : Below w.heap.size w W) => place_any A n cp rs nm W ((HR.out.below hb).more hb.size) hm
  clear hr
  simp only [hp, Option.getD_none, Option.isSome_none] at c
  rw [plc_find hp]
  have C := Lib.hid c
  clear c hp
  go_enter Try.func20, Try.ntmps20
  go_wp2_with (fail)
  refine (C.out _ (by repeat (first | with_reducible refine Below.setCell ?_ (by first | (simp; done) | (simp; omega) | omega) _ | with_reducible refine Below.alloc ?_ (by first | (simp; done) | (simp; omega) | omega) _ | with_reducible refine Below.drew ?_ | with_reducible refine below_drewN ?_ _ | with_reducible exact Below.refl _ _))).mono ?_; rintro e w1 ⟨rfl, hb1⟩; obtain ⟨hcc1, hff1⟩ := bcell hb1; have hz1 := hb1.size; (try simp at hz1); have hz1_0 : w.heap.size < w1.heap.size := (by omega)
  have HZ : Hid (st16 w1 ⟨w.heap.size, 0, none⟩ St0) := Lib.hid ⟨(by go_simp), (by go_simp), (by go_simp), (by go_simp), (by go_simp), (by go_simp), (by go_simp), (by go_simp), (by go_simp), (by go_simp), (by go_simp), (by go_simp), (by go_simp), (by go_simp), (by go_simp), (by go_simp)⟩
  go_wp2
  refine lay_ret (fun W => st16 W ⟨w.heap.size, 0, none⟩ St0 ∧ Below w.heap.size w W) ⟨st16_put _ _ St0 St0 (by exact HZ.out), (by repeat (first | with_reducible refine Below.setCell ?_ (by first | (simp; done) | (simp; omega) | omega) _ | with_reducible refine Below.alloc ?_ (by first | (simp; done) | (simp; omega) | omega) _ | with_reducible refine Below.drew ?_ | with_reducible refine below_drewN ?_ _ | with_reducible exact Below.refl _ _ | with_reducible refine Below.trans ?_ (Below.mono hb1 (by first | (simp; done) | (simp; omega) | omega))))⟩ ?_
  rintro w2 ⟨⟨e0, e1, e2, e3, e4, e5, e6, e7, e8, e9, e10, e11, e12, e13, e14, e15⟩, kb2⟩
  simp only [Nat.zero_add] at e0 e1 e2 e3 e4 e5 e6 e7 e8 e9 e10 e11 e12 e13 e14 e15
  clear HZ hcc1 hff1 hz1 hz1_0 C HR hb1
  refine bodyPost_ret (v := .tuple #[.agg #[.string ⟨#[]⟩, .int .i64 0, .int .i64 0, .bool false, .int .i64 0, .int .i64 0, .bool false, .int .i64 0, .bool false, .int .i64 0, .int .i64 0, .int .i64 0, .bool false, .int .i64 0, .int .i64 0, .int .i64 0], .bool false]) (by simp [results, Try.results20, go_sem, *]) rfl ⟨by rfl, kb2⟩
set_option maxRecDepth 100000 in
set_option maxHeartbeats 8000000 in
theorem sfind_any_1 (A : Option Addr) (n cp : Nat) (rs : List St) (nm : ByteArray) (w : World) (hr : StsAt w w.heap.size A n rs) (hm : n * 136 ≤ 140737488351232) (k : Nat) (hp : plc rs nm = some k) :
    Calls Try.prog 20 #[.slice A n cp, .string nm] w fun x w' => x = .returned (.tuple #[.agg #[.string ((findS rs nm).getD St0).ch.name, .int .i64 ((findS rs nm).getD St0).ch.ep, .int .i64 ((findS rs nm).getD St0).ch.who, .bool ((findS rs nm).getD St0).ch.al, .int .i64 ((findS rs nm).getD St0).ch.kd, .int .i64 ((findS rs nm).getD St0).ch.sc, .bool ((findS rs nm).getD St0).has, .int .i64 ((findS rs nm).getD St0).inp, .bool ((findS rs nm).getD St0).mn.has, .int .i64 ((findS rs nm).getD St0).mn.val, .int .i64 ((findS rs nm).getD St0).mn.org, .int .i64 ((findS rs nm).getD St0).mn.age, .bool ((findS rs nm).getD St0).mx.has, .int .i64 ((findS rs nm).getD St0).mx.val, .int .i64 ((findS rs nm).getD St0).mx.org, .int .i64 ((findS rs nm).getD St0).mx.age], .bool (findS rs nm).isSome]) ∧ Below w.heap.size w w' := by
  have HR := Lib.hid hr
  have c := fun W (hb : Below w.heap.size w W) => place_any A n cp rs nm W ((HR.out.below hb).more hb.size) hm
  clear hr
  simp only [hp, Option.getD_some, Option.isSome_some] at c
  obtain ⟨z, hz, _, hf⟩ := plc_some hp
  rw [hf]
  have C := Lib.hid c
  have hkn : k < n := by have := (List.getElem?_eq_some_iff.1 hz).1; have := HR.out.len; omega
  clear c hp hf
  go_enter Try.func20, Try.ntmps20
  go_wp2_with (fail)
  refine (C.out _ (by repeat (first | with_reducible refine Below.setCell ?_ (by first | (simp; done) | (simp; omega) | omega) _ | with_reducible refine Below.alloc ?_ (by first | (simp; done) | (simp; omega) | omega) _ | with_reducible refine Below.drew ?_ | with_reducible refine below_drewN ?_ _ | with_reducible exact Below.refl _ _))).mono ?_; rintro e w1 ⟨rfl, hb1⟩; obtain ⟨hcc1, hff1⟩ := bcell hb1; have hz1 := hb1.size; (try simp at hz1); have hz1_0 : w.heap.size < w1.heap.size := (by omega)
  have kb1 : Below w.heap.size w w1 := (by repeat (first | with_reducible refine Below.setCell ?_ (by first | (simp; done) | (simp; omega) | omega) _ | with_reducible refine Below.alloc ?_ (by first | (simp; done) | (simp; omega) | omega) _ | with_reducible refine Below.drew ?_ | with_reducible refine below_drewN ?_ _ | with_reducible exact Below.refl _ _ | with_reducible refine Below.trans ?_ (Below.mono hb1 (by first | (simp; done) | (simp; omega) | omega))))
  obtain ⟨adx, yx, hAx, habx, hxx, hszx, hc16x⟩ := HR.out.get hkn
  subst hAx
  obtain ⟨p, hpx⟩ : ∃ p, adx.add (k * 16) = p := ⟨_, rfl⟩
  have hpbx : p.block < w.heap.size := by rw [← hpx, block_of_add]; exact habx
  rw [hpx] at hc16x
  have hwsx : w.heap.size ≤ w1.heap.size := kb1.size
  have hpwx : p.block < w1.heap.size := by omega
  obtain ⟨⟨xs, xe, xm, xa, xk, xc⟩, xh, xi, ⟨xp, xv, xo, xg⟩, ⟨xq, xu, xr, xt⟩⟩ := yx
  obtain ⟨c0, c1, c2, c3, c4, c5, c6, c7, c8, c9, c10, c11, c12, c13, c14, c15⟩ := hc16x.below hpbx kb1
  have HXx := Lib.hid hxx
  clear hxx hszx hc16x
  simp only [] at c0 c1 c2 c3 c4 c5 c6 c7 c8 c9 c10 c11 c12 c13 c14 c15
  obtain rfl := Option.some.inj (hz.symm.trans HXx.out)
  clear hz hpbx
  have HZ : Hid (st16 w1 ⟨w.heap.size, 0, none⟩ St0) := Lib.hid ⟨(by go_simp), (by go_simp), (by go_simp), (by go_simp), (by go_simp), (by go_simp), (by go_simp), (by go_simp), (by go_simp), (by go_simp), (by go_simp), (by go_simp), (by go_simp), (by go_simp), (by go_simp), (by go_simp)⟩
  go_wp2
  refine lay_ret (fun W => st16 W ⟨w.heap.size, 0, none⟩ ⟨⟨xs, xe, xm, xa, xk, xc⟩, xh, xi, ⟨xp, xv, xo, xg⟩, ⟨xq, xu, xr, xt⟩⟩ ∧ Below w.heap.size w W) ⟨st16_put _ _ St0 ⟨⟨xs, xe, xm, xa, xk, xc⟩, xh, xi, ⟨xp, xv, xo, xg⟩, ⟨xq, xu, xr, xt⟩⟩ (by exact HZ.out), (by repeat (first | with_reducible refine Below.setCell ?_ (by first | (simp; done) | (simp; omega) | omega) _ | with_reducible refine Below.alloc ?_ (by first | (simp; done) | (simp; omega) | omega) _ | with_reducible refine Below.drew ?_ | with_reducible refine below_drewN ?_ _ | with_reducible exact Below.refl _ _ | with_reducible refine Below.trans ?_ (Below.mono hb1 (by first | (simp; done) | (simp; omega) | omega))))⟩ ?_
  rintro w2 ⟨⟨e0, e1, e2, e3, e4, e5, e6, e7, e8, e9, e10, e11, e12, e13, e14, e15⟩, kb2⟩
  simp only [Nat.zero_add] at e0 e1 e2 e3 e4 e5 e6 e7 e8 e9 e10 e11 e12 e13 e14 e15
  clear HZ hcc1 hff1 hz1 hz1_0 C HR kb1 hb1 hpwx hwsx c0 c1 c2 c3 c4 c5 c6 c7 c8 c9 c10 c11 c12 c13 c14 c15
  refine bodyPost_ret (v := .tuple #[.agg #[.string xs, .int .i64 xe, .int .i64 xm, .bool xa, .int .i64 xk, .int .i64 xc, .bool xh, .int .i64 xi, .bool xp, .int .i64 xv, .int .i64 xo, .int .i64 xg, .bool xq, .int .i64 xu, .int .i64 xr, .int .i64 xt], .bool true]) (by simp [results, Try.results20, go_sem, *]) rfl ⟨by rfl, kb2⟩
theorem sfind_any (A : Option Addr) (n cp : Nat) (rs : List St) (nm : ByteArray) (w : World) (hr : StsAt w w.heap.size A n rs) (hm : n * 136 ≤ 140737488351232) :
    Calls Try.prog 20 #[.slice A n cp, .string nm] w fun x w' => x = .returned (.tuple #[.agg #[.string ((findS rs nm).getD St0).ch.name, .int .i64 ((findS rs nm).getD St0).ch.ep, .int .i64 ((findS rs nm).getD St0).ch.who, .bool ((findS rs nm).getD St0).ch.al, .int .i64 ((findS rs nm).getD St0).ch.kd, .int .i64 ((findS rs nm).getD St0).ch.sc, .bool ((findS rs nm).getD St0).has, .int .i64 ((findS rs nm).getD St0).inp, .bool ((findS rs nm).getD St0).mn.has, .int .i64 ((findS rs nm).getD St0).mn.val, .int .i64 ((findS rs nm).getD St0).mn.org, .int .i64 ((findS rs nm).getD St0).mn.age, .bool ((findS rs nm).getD St0).mx.has, .int .i64 ((findS rs nm).getD St0).mx.val, .int .i64 ((findS rs nm).getD St0).mx.org, .int .i64 ((findS rs nm).getD St0).mx.age], .bool (findS rs nm).isSome]) ∧ Below w.heap.size w w' := by
  cases hp : plc rs nm with
  | none => exact sfind_any_0 A n cp rs nm w hr hm hp
  | some k => exact sfind_any_1 A n cp rs nm w hr hm k hp
set_option maxRecDepth 100000 in
set_option maxHeartbeats 8000000 in
theorem srfind_any_0 (A : Option Addr) (n cp : Nat) (rs : List St) (nm : ByteArray) (w : World) (hr : StsAt w w.heap.size A n rs) (hm : n * 136 ≤ 140737488351232) (hp : plc rs nm = none) :
    Calls Try.prog 21 #[.slice A n cp, .string nm] w fun x w' => x = .returned (.tuple #[.agg #[.string ((findS rs nm).getD St0).ch.name, .int .i64 ((findS rs nm).getD St0).ch.ep, .int .i64 ((findS rs nm).getD St0).ch.who, .bool ((findS rs nm).getD St0).ch.al, .int .i64 ((findS rs nm).getD St0).ch.kd, .int .i64 ((findS rs nm).getD St0).ch.sc, .bool ((findS rs nm).getD St0).has, .int .i64 ((findS rs nm).getD St0).inp, .bool ((findS rs nm).getD St0).mn.has, .int .i64 ((findS rs nm).getD St0).mn.val, .int .i64 ((findS rs nm).getD St0).mn.org, .int .i64 ((findS rs nm).getD St0).mn.age, .bool ((findS rs nm).getD St0).mx.has, .int .i64 ((findS rs nm).getD St0).mx.val, .int .i64 ((findS rs nm).getD St0).mx.org, .int .i64 ((findS rs nm).getD St0).mx.age], .bool (findS rs nm).isSome]) ∧ Below w.heap.size w w' := by
  have HR := Lib.hid hr
  have c := fun W (hb : Below w.heap.size w W) => rplace_any A n cp rs nm W ((HR.out.below hb).more hb.size) hm
  clear hr
  simp only [plcI_none hp] at c
  rw [plc_find hp]
  have C := Lib.hid c
  clear c hp
  go_enter Try.func21, Try.ntmps21
  go_wp2_with (fail)
  refine (C.out _ (by repeat (first | with_reducible refine Below.setCell ?_ (by first | (simp; done) | (simp; omega) | omega) _ | with_reducible refine Below.alloc ?_ (by first | (simp; done) | (simp; omega) | omega) _ | with_reducible refine Below.drew ?_ | with_reducible refine below_drewN ?_ _ | with_reducible exact Below.refl _ _))).mono ?_; rintro e w1 ⟨rfl, hb1⟩; obtain ⟨hcc1, hff1⟩ := bcell hb1; have hz1 := hb1.size; (try simp at hz1); have hz1_0 : w.heap.size < w1.heap.size := (by omega)
  have HZ : Hid (st16 w1 ⟨w.heap.size, 0, none⟩ St0) := Lib.hid ⟨(by go_simp), (by go_simp), (by go_simp), (by go_simp), (by go_simp), (by go_simp), (by go_simp), (by go_simp), (by go_simp), (by go_simp), (by go_simp), (by go_simp), (by go_simp), (by go_simp), (by go_simp), (by go_simp)⟩
  go_wp2
  refine lay_ret (fun W => st16 W ⟨w.heap.size, 0, none⟩ St0 ∧ Below w.heap.size w W) ⟨st16_put _ _ St0 St0 (by exact HZ.out), (by repeat (first | with_reducible refine Below.setCell ?_ (by first | (simp; done) | (simp; omega) | omega) _ | with_reducible refine Below.alloc ?_ (by first | (simp; done) | (simp; omega) | omega) _ | with_reducible refine Below.drew ?_ | with_reducible refine below_drewN ?_ _ | with_reducible exact Below.refl _ _ | with_reducible refine Below.trans ?_ (Below.mono hb1 (by first | (simp; done) | (simp; omega) | omega))))⟩ ?_
  rintro w2 ⟨⟨e0, e1, e2, e3, e4, e5, e6, e7, e8, e9, e10, e11, e12, e13, e14, e15⟩, kb2⟩
  simp only [Nat.zero_add] at e0 e1 e2 e3 e4 e5 e6 e7 e8 e9 e10 e11 e12 e13 e14 e15
  clear HZ hcc1 hff1 hz1 hz1_0 C HR hb1
  refine bodyPost_ret (v := .tuple #[.agg #[.string ⟨#[]⟩, .int .i64 0, .int .i64 0, .bool false, .int .i64 0, .int .i64 0, .bool false, .int .i64 0, .bool false, .int .i64 0, .int .i64 0, .int .i64 0, .bool false, .int .i64 0, .int .i64 0, .int .i64 0], .bool false]) (by simp [results, Try.results21, go_sem, *]) rfl ⟨by rfl, kb2⟩
set_option maxRecDepth 100000 in
set_option maxHeartbeats 8000000 in
theorem srfind_any_1 (A : Option Addr) (n cp : Nat) (rs : List St) (nm : ByteArray) (w : World) (hr : StsAt w w.heap.size A n rs) (hm : n * 136 ≤ 140737488351232) (k : Nat) (hp : plc rs nm = some k) :
    Calls Try.prog 21 #[.slice A n cp, .string nm] w fun x w' => x = .returned (.tuple #[.agg #[.string ((findS rs nm).getD St0).ch.name, .int .i64 ((findS rs nm).getD St0).ch.ep, .int .i64 ((findS rs nm).getD St0).ch.who, .bool ((findS rs nm).getD St0).ch.al, .int .i64 ((findS rs nm).getD St0).ch.kd, .int .i64 ((findS rs nm).getD St0).ch.sc, .bool ((findS rs nm).getD St0).has, .int .i64 ((findS rs nm).getD St0).inp, .bool ((findS rs nm).getD St0).mn.has, .int .i64 ((findS rs nm).getD St0).mn.val, .int .i64 ((findS rs nm).getD St0).mn.org, .int .i64 ((findS rs nm).getD St0).mn.age, .bool ((findS rs nm).getD St0).mx.has, .int .i64 ((findS rs nm).getD St0).mx.val, .int .i64 ((findS rs nm).getD St0).mx.org, .int .i64 ((findS rs nm).getD St0).mx.age], .bool (findS rs nm).isSome]) ∧ Below w.heap.size w w' := by
  have HR := Lib.hid hr
  have c := fun W (hb : Below w.heap.size w W) => rplace_any A n cp rs nm W ((HR.out.below hb).more hb.size) hm
  clear hr
  simp only [plcI_some hp] at c
  obtain ⟨z, hz, _, hf⟩ := plc_some hp
  rw [hf]
  have C := Lib.hid c
  have hkn : k < n := by have := (List.getElem?_eq_some_iff.1 hz).1; have := HR.out.len; omega
  clear c hp hf
  go_enter Try.func21, Try.ntmps21
  go_wp2_with (fail)
  refine (C.out _ (by repeat (first | with_reducible refine Below.setCell ?_ (by first | (simp; done) | (simp; omega) | omega) _ | with_reducible refine Below.alloc ?_ (by first | (simp; done) | (simp; omega) | omega) _ | with_reducible refine Below.drew ?_ | with_reducible refine below_drewN ?_ _ | with_reducible exact Below.refl _ _))).mono ?_; rintro e w1 ⟨rfl, hb1⟩; obtain ⟨hcc1, hff1⟩ := bcell hb1; have hz1 := hb1.size; (try simp at hz1); have hz1_0 : w.heap.size < w1.heap.size := (by omega)
  have kb1 : Below w.heap.size w w1 := (by repeat (first | with_reducible refine Below.setCell ?_ (by first | (simp; done) | (simp; omega) | omega) _ | with_reducible refine Below.alloc ?_ (by first | (simp; done) | (simp; omega) | omega) _ | with_reducible refine Below.drew ?_ | with_reducible refine below_drewN ?_ _ | with_reducible exact Below.refl _ _ | with_reducible refine Below.trans ?_ (Below.mono hb1 (by first | (simp; done) | (simp; omega) | omega))))
  obtain ⟨adx, yx, hAx, habx, hxx, hszx, hc16x⟩ := HR.out.get hkn
  subst hAx
  obtain ⟨p, hpx⟩ : ∃ p, adx.add (k * 16) = p := ⟨_, rfl⟩
  have hpbx : p.block < w.heap.size := by rw [← hpx, block_of_add]; exact habx
  rw [hpx] at hc16x
  have hwsx : w.heap.size ≤ w1.heap.size := kb1.size
  have hpwx : p.block < w1.heap.size := by omega
  obtain ⟨⟨xs, xe, xm, xa, xk, xc⟩, xh, xi, ⟨xp, xv, xo, xg⟩, ⟨xq, xu, xr, xt⟩⟩ := yx
  obtain ⟨c0, c1, c2, c3, c4, c5, c6, c7, c8, c9, c10, c11, c12, c13, c14, c15⟩ := hc16x.below hpbx kb1
  have HXx := Lib.hid hxx
  clear hxx hszx hc16x
  simp only [] at c0 c1 c2 c3 c4 c5 c6 c7 c8 c9 c10 c11 c12 c13 c14 c15
  obtain rfl := Option.some.inj (hz.symm.trans HXx.out)
  clear hz hpbx
  have HZ : Hid (st16 w1 ⟨w.heap.size, 0, none⟩ St0) := Lib.hid ⟨(by go_simp), (by go_simp), (by go_simp), (by go_simp), (by go_simp), (by go_simp), (by go_simp), (by go_simp), (by go_simp), (by go_simp), (by go_simp), (by go_simp), (by go_simp), (by go_simp), (by go_simp), (by go_simp)⟩
  go_wp2
  refine lay_ret (fun W => st16 W ⟨w.heap.size, 0, none⟩ ⟨⟨xs, xe, xm, xa, xk, xc⟩, xh, xi, ⟨xp, xv, xo, xg⟩, ⟨xq, xu, xr, xt⟩⟩ ∧ Below w.heap.size w W) ⟨st16_put _ _ St0 ⟨⟨xs, xe, xm, xa, xk, xc⟩, xh, xi, ⟨xp, xv, xo, xg⟩, ⟨xq, xu, xr, xt⟩⟩ (by exact HZ.out), (by repeat (first | with_reducible refine Below.setCell ?_ (by first | (simp; done) | (simp; omega) | omega) _ | with_reducible refine Below.alloc ?_ (by first | (simp; done) | (simp; omega) | omega) _ | with_reducible refine Below.drew ?_ | with_reducible refine below_drewN ?_ _ | with_reducible exact Below.refl _ _ | with_reducible refine Below.trans ?_ (Below.mono hb1 (by first | (simp; done) | (simp; omega) | omega))))⟩ ?_
  rintro w2 ⟨⟨e0, e1, e2, e3, e4, e5, e6, e7, e8, e9, e10, e11, e12, e13, e14, e15⟩, kb2⟩
  simp only [Nat.zero_add] at e0 e1 e2 e3 e4 e5 e6 e7 e8 e9 e10 e11 e12 e13 e14 e15
  clear HZ hcc1 hff1 hz1 hz1_0 C HR kb1 hb1 hpwx hwsx c0 c1 c2 c3 c4 c5 c6 c7 c8 c9 c10 c11 c12 c13 c14 c15
  refine bodyPost_ret (v := .tuple #[.agg #[.string xs, .int .i64 xe, .int .i64 xm, .bool xa, .int .i64 xk, .int .i64 xc, .bool xh, .int .i64 xi, .bool xp, .int .i64 xv, .int .i64 xo, .int .i64 xg, .bool xq, .int .i64 xu, .int .i64 xr, .int .i64 xt], .bool true]) (by simp [results, Try.results21, go_sem, *]) rfl ⟨by rfl, kb2⟩
theorem srfind_any (A : Option Addr) (n cp : Nat) (rs : List St) (nm : ByteArray) (w : World) (hr : StsAt w w.heap.size A n rs) (hm : n * 136 ≤ 140737488351232) :
    Calls Try.prog 21 #[.slice A n cp, .string nm] w fun x w' => x = .returned (.tuple #[.agg #[.string ((findS rs nm).getD St0).ch.name, .int .i64 ((findS rs nm).getD St0).ch.ep, .int .i64 ((findS rs nm).getD St0).ch.who, .bool ((findS rs nm).getD St0).ch.al, .int .i64 ((findS rs nm).getD St0).ch.kd, .int .i64 ((findS rs nm).getD St0).ch.sc, .bool ((findS rs nm).getD St0).has, .int .i64 ((findS rs nm).getD St0).inp, .bool ((findS rs nm).getD St0).mn.has, .int .i64 ((findS rs nm).getD St0).mn.val, .int .i64 ((findS rs nm).getD St0).mn.org, .int .i64 ((findS rs nm).getD St0).mn.age, .bool ((findS rs nm).getD St0).mx.has, .int .i64 ((findS rs nm).getD St0).mx.val, .int .i64 ((findS rs nm).getD St0).mx.org, .int .i64 ((findS rs nm).getD St0).mx.age], .bool (findS rs nm).isSome]) ∧ Below w.heap.size w w' := by
  cases hp : plc rs nm with
  | none => exact srfind_any_0 A n cp rs nm w hr hm hp
  | some k => exact srfind_any_1 A n cp rs nm w hr hm k hp
def ownB (rs : List St) (s : ByteArray) (e m : Int) (al : Bool) : Bool := al && ((findS rs s).isSome && (decide (((findS rs s).getD St0).ch.ep = e) && decide (((findS rs s).getD St0).ch.who = m)))
set_option maxRecDepth 100000 in
set_option maxHeartbeats 8000000 in
theorem sown_any (A : Option Addr) (n cp : Nat) (rs : List St) (s : ByteArray) (e m : Int) (al : Bool) (k0 sc : Int) (w : World) (hr : StsAt w w.heap.size A n rs) (hm : n * 136 ≤ 140737488351232) :
    Calls Try.prog 25 #[.slice A n cp, .agg #[.string s, .int .i64 e, .int .i64 m, .bool al, .int .i64 k0, .int .i64 sc]] w fun x w' => x = .returned (.bool (ownB rs s e m al)) ∧ Below w.heap.size w w' := by
  have HR := Lib.hid hr
  have c := fun W (hb : Below w.heap.size w W) => sfind_any A n cp rs s W ((HR.out.below hb).more hb.size) hm
  clear hr
  unfold ownB
  generalize (findS rs s).getD St0 = y at *
  generalize (findS rs s).isSome = ok at *
  obtain ⟨⟨ys, ye, ym, ya, yk, yc⟩, yh, yi, ⟨yp, yv, yo, yg⟩, ⟨yq, yu, yr, yt⟩⟩ := y
  simp only [] at c
  have C := Lib.hid c
  clear c
  have fin : ∀ (a b : Bool), Ending.returned (.bool a) = .returned (.bool b) ↔ a = b := fun a b => by simp
  have hbe : (ye == e) = decide (ye = e) := rfl
  have hbm : (ym == m) = decide (ym = m) := rfl
  go_enter Try.func25, Try.ntmps25
  go_wp2_with (fail)
  refine (C.out _ (by repeat (first | with_reducible refine Below.setCell ?_ (by first | (simp; done) | (simp; omega) | omega) _ | with_reducible refine Below.alloc ?_ (by first | (simp; done) | (simp; omega) | omega) _ | with_reducible refine Below.drew ?_ | with_reducible refine below_drewN ?_ _ | with_reducible exact Below.refl _ _))).mono ?_; rintro e w1 ⟨rfl, hb1⟩; obtain ⟨hcc1, hff1⟩ := bcell hb1; have hz1 := hb1.size; (try simp at hz1); have hz1_0 : w.heap.size < w1.heap.size := (by omega)
  cases al with
  | false =>
    go_wp2
    go_ret
    exact ⟨by first | rfl | (cases al <;> rfl) | (simp only [h1, h2]; rfl) | (simp only [h1]; rfl), (by repeat (first | with_reducible refine Below.setCell ?_ (by first | (simp; done) | (simp; omega) | omega) _ | with_reducible refine Below.alloc ?_ (by first | (simp; done) | (simp; omega) | omega) _ | with_reducible refine Below.drew ?_ | with_reducible refine below_drewN ?_ _ | with_reducible exact Below.refl _ _ | with_reducible refine Below.trans ?_ (Below.mono hb1 (by first | (simp; done) | (simp; omega) | omega))))⟩
  | true =>
    cases ok with
    | false =>
      go_wp2
      go_ret
      exact ⟨by first | rfl | (cases al <;> rfl) | (simp only [h1, h2]; rfl) | (simp only [h1]; rfl), (by repeat (first | with_reducible refine Below.setCell ?_ (by first | (simp; done) | (simp; omega) | omega) _ | with_reducible refine Below.alloc ?_ (by first | (simp; done) | (simp; omega) | omega) _ | with_reducible refine Below.drew ?_ | with_reducible refine below_drewN ?_ _ | with_reducible exact Below.refl _ _ | with_reducible refine Below.trans ?_ (Below.mono hb1 (by first | (simp; done) | (simp; omega) | omega))))⟩
    | true =>
      cases h1 : decide (ye = e) with
      | false =>
        go_wp2
        go_ret
        exact ⟨by first | rfl | (cases al <;> rfl) | (simp only [h1, h2]; rfl) | (simp only [h1]; rfl), (by repeat (first | with_reducible refine Below.setCell ?_ (by first | (simp; done) | (simp; omega) | omega) _ | with_reducible refine Below.alloc ?_ (by first | (simp; done) | (simp; omega) | omega) _ | with_reducible refine Below.drew ?_ | with_reducible refine below_drewN ?_ _ | with_reducible exact Below.refl _ _ | with_reducible refine Below.trans ?_ (Below.mono hb1 (by first | (simp; done) | (simp; omega) | omega))))⟩
      | true =>
        cases h2 : decide (ym = m) with
        | false =>
          go_wp2
          go_ret
          exact ⟨by first | rfl | (cases al <;> rfl) | (simp only [h1, h2]; rfl) | (simp only [h1]; rfl), (by repeat (first | with_reducible refine Below.setCell ?_ (by first | (simp; done) | (simp; omega) | omega) _ | with_reducible refine Below.alloc ?_ (by first | (simp; done) | (simp; omega) | omega) _ | with_reducible refine Below.drew ?_ | with_reducible refine below_drewN ?_ _ | with_reducible exact Below.refl _ _ | with_reducible refine Below.trans ?_ (Below.mono hb1 (by first | (simp; done) | (simp; omega) | omega))))⟩
        | true =>
          go_wp2
          go_ret
          exact ⟨by first | rfl | (cases al <;> rfl) | (simp only [h1, h2]; rfl) | (simp only [h1]; rfl), (by repeat (first | with_reducible refine Below.setCell ?_ (by first | (simp; done) | (simp; omega) | omega) _ | with_reducible refine Below.alloc ?_ (by first | (simp; done) | (simp; omega) | omega) _ | with_reducible refine Below.drew ?_ | with_reducible refine below_drewN ?_ _ | with_reducible exact Below.refl _ _ | with_reducible refine Below.trans ?_ (Below.mono hb1 (by first | (simp; done) | (simp; omega) | omega))))⟩
set_option maxRecDepth 100000 in
set_option maxHeartbeats 8000000 in
theorem srown_any (A : Option Addr) (n cp : Nat) (rs : List St) (s : ByteArray) (e m : Int) (al : Bool) (k0 sc : Int) (w : World) (hr : StsAt w w.heap.size A n rs) (hm : n * 136 ≤ 140737488351232) :
    Calls Try.prog 26 #[.slice A n cp, .agg #[.string s, .int .i64 e, .int .i64 m, .bool al, .int .i64 k0, .int .i64 sc]] w fun x w' => x = .returned (.bool (ownB rs s e m al)) ∧ Below w.heap.size w w' := by
  have HR := Lib.hid hr
  have c := fun W (hb : Below w.heap.size w W) => srfind_any A n cp rs s W ((HR.out.below hb).more hb.size) hm
  clear hr
  unfold ownB
  generalize (findS rs s).getD St0 = y at *
  generalize (findS rs s).isSome = ok at *
  obtain ⟨⟨ys, ye, ym, ya, yk, yc⟩, yh, yi, ⟨yp, yv, yo, yg⟩, ⟨yq, yu, yr, yt⟩⟩ := y
  simp only [] at c
  have C := Lib.hid c
  clear c
  have fin : ∀ (a b : Bool), Ending.returned (.bool a) = .returned (.bool b) ↔ a = b := fun a b => by simp
  have hbe : (ye == e) = decide (ye = e) := rfl
  have hbm : (ym == m) = decide (ym = m) := rfl
  go_enter Try.func26, Try.ntmps26
  go_wp2_with (fail)
  refine (C.out _ (by repeat (first | with_reducible refine Below.setCell ?_ (by first | (simp; done) | (simp; omega) | omega) _ | with_reducible refine Below.alloc ?_ (by first | (simp; done) | (simp; omega) | omega) _ | with_reducible refine Below.drew ?_ | with_reducible refine below_drewN ?_ _ | with_reducible exact Below.refl _ _))).mono ?_; rintro e w1 ⟨rfl, hb1⟩; obtain ⟨hcc1, hff1⟩ := bcell hb1; have hz1 := hb1.size; (try simp at hz1); have hz1_0 : w.heap.size < w1.heap.size := (by omega)
  cases ok with
  | false =>
    go_wp2
    go_ret
    exact ⟨by first | rfl | (cases al <;> rfl) | (simp only [h1, h2]; rfl) | (simp only [h1]; rfl), (by repeat (first | with_reducible refine Below.setCell ?_ (by first | (simp; done) | (simp; omega) | omega) _ | with_reducible refine Below.alloc ?_ (by first | (simp; done) | (simp; omega) | omega) _ | with_reducible refine Below.drew ?_ | with_reducible refine below_drewN ?_ _ | with_reducible exact Below.refl _ _ | with_reducible refine Below.trans ?_ (Below.mono hb1 (by first | (simp; done) | (simp; omega) | omega))))⟩
  | true =>
    cases al with
    | false =>
      go_wp2
      go_ret
      exact ⟨by first | rfl | (cases al <;> rfl) | (simp only [h1, h2]; rfl) | (simp only [h1]; rfl), (by repeat (first | with_reducible refine Below.setCell ?_ (by first | (simp; done) | (simp; omega) | omega) _ | with_reducible refine Below.alloc ?_ (by first | (simp; done) | (simp; omega) | omega) _ | with_reducible refine Below.drew ?_ | with_reducible refine below_drewN ?_ _ | with_reducible exact Below.refl _ _ | with_reducible refine Below.trans ?_ (Below.mono hb1 (by first | (simp; done) | (simp; omega) | omega))))⟩
    | true =>
      cases h1 : decide (ye = e) with
      | false =>
        go_wp2
        go_ret
        exact ⟨by first | rfl | (cases al <;> rfl) | (simp only [h1, h2]; rfl) | (simp only [h1]; rfl), (by repeat (first | with_reducible refine Below.setCell ?_ (by first | (simp; done) | (simp; omega) | omega) _ | with_reducible refine Below.alloc ?_ (by first | (simp; done) | (simp; omega) | omega) _ | with_reducible refine Below.drew ?_ | with_reducible refine below_drewN ?_ _ | with_reducible exact Below.refl _ _ | with_reducible refine Below.trans ?_ (Below.mono hb1 (by first | (simp; done) | (simp; omega) | omega))))⟩
      | true =>
        cases h2 : decide (ym = m) with
        | false =>
          go_wp2
          go_ret
          exact ⟨by first | rfl | (cases al <;> rfl) | (simp only [h1, h2]; rfl) | (simp only [h1]; rfl), (by repeat (first | with_reducible refine Below.setCell ?_ (by first | (simp; done) | (simp; omega) | omega) _ | with_reducible refine Below.alloc ?_ (by first | (simp; done) | (simp; omega) | omega) _ | with_reducible refine Below.drew ?_ | with_reducible refine below_drewN ?_ _ | with_reducible exact Below.refl _ _ | with_reducible refine Below.trans ?_ (Below.mono hb1 (by first | (simp; done) | (simp; omega) | omega))))⟩
        | true =>
          go_wp2
          go_ret
          exact ⟨by first | rfl | (cases al <;> rfl) | (simp only [h1, h2]; rfl) | (simp only [h1]; rfl), (by repeat (first | with_reducible refine Below.setCell ?_ (by first | (simp; done) | (simp; omega) | omega) _ | with_reducible refine Below.alloc ?_ (by first | (simp; done) | (simp; omega) | omega) _ | with_reducible refine Below.drew ?_ | with_reducible refine below_drewN ?_ _ | with_reducible exact Below.refl _ _ | with_reducible refine Below.trans ?_ (Below.mono hb1 (by first | (simp; done) | (simp; omega) | omega))))⟩
set_option maxRecDepth 100000 in
set_option maxHeartbeats 8000000 in
theorem srcopy_any (A : Option Addr) (n cp : Nat) (rs : List St) (w : World) (hr : StsAt w w.heap.size A n rs) (hm : n * 136 ≤ 140737488351232) :
    Calls Try.prog 11 #[.slice A n cp] w fun x w' => ∃ lv, x = .returned lv ∧ OwnS w' w.heap.size lv rs ∧ Below w.heap.size w w' := by
  obtain ⟨i0, hi0, hz0, hz1, hz2⟩ := info_parts state_inf
  have hR := RowsE.reads stV_len hr.1
  obtain rfl := hr.len
  go_enter Try.func11, Try.ntmps11
  go_wp2_with (at_builtin; refine wpList_append_any _ rfl (.tmp 4) (.tmp 5) _ rfl w.heap.size 43 i0 _ 16 136 Try.underlying22 hi0 hz0 hz1 hz2 rfl (by omega) (.slice none 0 0) 0 [] rfl ⟨by simp, .inl ⟨rfl, rfl⟩⟩ w.heap.size A rs.length cp _ rfl hR (flatE_one stV_one rs) (by simp only [maxLen]; omega) (by omega) (Nat.le_refl _) ?_; intro v1 w1 hown1 hg1 hat1)
  have hbw1 : Below w.heap.size w w1 := (Below.refl _ _).grown hg1 (Nat.le_refl _) (by simp [Value.ownBlock])
  go_ret
  exact ⟨_, rfl, by simpa [OwnS, OwnE] using hown1, hbw1⟩
set_option maxRecDepth 100000 in
set_option maxHeartbeats 8000000 in
theorem sclone_any (A : Option Addr) (n cp : Nat) (rs : List St) (w : World) (hr : StsAt w w.heap.size A n rs) (hm : n * 136 ≤ 140737488351232) :
    Calls Try.prog 55 #[.slice A n cp] w fun x w' => ∃ lv, x = .returned lv ∧ OwnS w' w.heap.size lv rs ∧ Below w.heap.size w w' := by
  obtain ⟨i0, hi0, hz0, hz1, hz2⟩ := info_parts state_inf
  have hR := RowsE.reads stV_len hr.1
  obtain rfl := hr.len
  cases A with
  | none =>
    obtain rfl : rs = [] := by
      rcases rs with _ | ⟨x, xs⟩
      · rfl
      · obtain ⟨ad, h, _⟩ := hr.1.2 (by simp); cases h
    have hnil : ∀ W, (binOp .eql 22 (.slice none ([] : List St).length cp) (.slice none 0 0)).run Try.prog W = .ok (.bool true) W := fun W => Lib.run_eql_slice_nil W _ _ none _ _ _ _ Try.underlying22
    go_enter Try.func55, Try.ntmps55
    simp only [List.length_nil] at *
    go_wp2
    refine bodyPost_ret (v := .slice none 0 0) (by simp [results, Try.results55, go_sem, *]) (by rfl) ?_
    exact ⟨_, rfl, OwnS.nil _ _, Below.refl _ _⟩
  | some ad =>
    have hnil : ∀ W, (binOp .eql 22 (.slice (some ad) rs.length cp) (.slice none 0 0)).run Try.prog W = .ok (.bool false) W := fun W => Lib.run_eql_slice_nil W _ _ (some ad) _ _ _ _ Try.underlying22
    go_enter Try.func55, Try.ntmps55
    go_wp2_with (at_builtin; refine wpList_append_any _ rfl (.tmp 5) (.tmp 6) _ rfl w.heap.size 43 i0 _ 16 136 Try.underlying22 hi0 hz0 hz1 hz2 rfl (by omega) (.slice (some ⟨w.heap.size, 0, none⟩) 0 0) 0 [] rfl (World.ownsRow_lit w #[] 0 (Nat.le_refl _) (by simp [maxLen]) rfl) (w.heap.size + 1) (some ad) rs.length cp _ rfl ((hR.alloc (Nat.le_refl _) _).more (by omega)) (flatE_one stV_one rs) (by simp only [maxLen]; omega) (by omega) (by simp) ?_; intro v1 w1 hown1 hg1 hat1)
    have hbw1 : Below w.heap.size w w1 := ((Below.refl _ _).alloc (Nat.le_refl _) _).grown hg1 (by simp) (by simp [Value.ownBlock])
    go_ret
    exact ⟨_, rfl, by simpa [OwnS, OwnE] using hown1, hbw1⟩
set_option maxRecDepth 100000 in
set_option maxHeartbeats 8000000 in
theorem scopy_any (A : Option Addr) (n cp : Nat) (rs : List St) (w : World) (hr : StsAt w w.heap.size A n rs) (hm : n * 136 ≤ 140737488351232) :
    Calls Try.prog 24 #[.slice A n cp] w fun x w' => ∃ lv, x = .returned lv ∧ OwnS w' w.heap.size lv rs ∧ Below w.heap.size w w' := by
  go_enter Try.func24, Try.ntmps24
  go_wp2_with (fail)
  refine (sclone_any A n cp rs w hr hm).mono ?_
  rintro e w1 ⟨lv, rfl, hown, hb⟩
  go_wp2
  go_ret
  exact ⟨_, rfl, hown, hb⟩
set_option maxHeartbeats 2000000 in
theorem sflows_any (k : Int) (w : World) : Calls Try.prog 30 #[.int .i64 k] w fun x w' => x = .returned (.bool (decide (1 ≤ k) && decide (k ≤ 3))) ∧ Below w.heap.size w w' := by
  by_cases h1 : 1 ≤ k
  · by_cases h2 : k ≤ 3
    · rw [decide_eq_true h1, decide_eq_true h2]
      go_enter Try.func30, Try.ntmps30
      go_wp2
      go_ret
      exact ⟨rfl, Below.refl _ _⟩
    · rw [decide_eq_true h1, decide_eq_false h2]
      go_enter Try.func30, Try.ntmps30
      go_wp2
      go_ret
      exact ⟨rfl, Below.refl _ _⟩
  · have e : (decide (1 ≤ k) && decide (k ≤ 3)) = false := by rw [decide_eq_false h1]; rfl
    rw [e]
    clear e
    by_cases h3 : k < 1
    · skip
      go_enter Try.func30, Try.ntmps30
      go_wp2
      go_ret
      exact ⟨rfl, Below.refl _ _⟩
    · omega
set_option maxHeartbeats 2000000 in
theorem srflows_any (k : Int) (w : World) : Calls Try.prog 31 #[.int .i64 k] w fun x w' => x = .returned (.bool (decide (1 ≤ k) && decide (k ≤ 3))) ∧ Below w.heap.size w w' := by
  by_cases h1 : k = 1
  · subst h1
    go_enter Try.func31, Try.ntmps31
    go_wp2
    go_ret
    exact ⟨rfl, Below.refl _ _⟩
  by_cases h2 : k = 2
  · subst h2
    go_enter Try.func31, Try.ntmps31
    go_wp2
    go_ret
    exact ⟨rfl, Below.refl _ _⟩
  by_cases h3 : k = 3
  · subst h3
    go_enter Try.func31, Try.ntmps31
    go_wp2
    go_ret
    exact ⟨rfl, Below.refl _ _⟩
  have b1 : (k == 1) = false := by simpa using h1
  have b2 : (k == 2) = false := by simpa using h2
  have b3 : (k == 3) = false := by simpa using h3
  have e : (decide (1 ≤ k) && decide (k ≤ 3)) = false := by rw [Bool.and_eq_false_iff, decide_eq_false_iff_not, decide_eq_false_iff_not]; omega
  rw [e]
  go_enter Try.func31, Try.ntmps31
  go_wp2
  go_ret
  exact ⟨rfl, Below.refl _ _⟩
end Go.Proofs.Ytfihkkamedghkaa
