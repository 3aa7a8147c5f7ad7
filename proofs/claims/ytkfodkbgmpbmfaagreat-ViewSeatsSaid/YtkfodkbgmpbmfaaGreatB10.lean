/- Chapter 22, parts on the way: StG -/
import Derived.Test.YtkfodkbgmpbmfaaGreatB01
import Derived.Test.YtkfodkbgmpbmfaaGreatB04
import Derived.Test.YtkfodkbgmpbmfaaGreatB09
set_option linter.unusedVariables false
set_option linter.unusedSimpArgs false
namespace Go.Proofs.YtkfodkbgmpbmfaaGreat
open Go.RowKit
set_option linter.unusedVariables false
set_option maxRecDepth 100000 in
set_option maxHeartbeats 8000000 in
theorem sfind_any_0 (A : Option Addr) (n cp : Nat) (rs : List St) (nm : ByteArray) (w : World) (hr : StsAt w w.heap.size A n rs) (hm : n * 136 ≤ 140737488351232) (hp : plc rs nm = none) :
    Calls Tryz.prog 44 #[.slice A n cp, .string nm] w fun x w' => x = .returned (.tuple #[.agg #[.string ((findS rs nm).getD St0).ch.name, .int .i64 ((findS rs nm).getD St0).ch.ep, .int .i64 ((findS rs nm).getD St0).ch.who, .bool ((findS rs nm).getD St0).ch.al, .int .i64 ((findS rs nm).getD St0).ch.kd, .int .i64 ((findS rs nm).getD St0).ch.sc, .bool ((findS rs nm).getD St0).has, .int .i64 ((findS rs nm).getD St0).inp, .bool ((findS rs nm).getD St0).mn.has, .int .i64 ((findS rs nm).getD St0).mn.val, .int .i64 ((findS rs nm).getD St0).mn.org, .int .i64 ((findS rs nm).getD St0).mn.age, .bool ((findS rs nm).getD St0).mx.has, .int .i64 ((findS rs nm).getD St0).mx.val, .int .i64 ((findS rs nm).getD St0).mx.org, .int .i64 ((findS rs nm).getD St0).mx.age], .bool (findS rs nm).isSome]) ∧ Below w.heap.size w w' := by
 have HR := Lib.hid hr
 have c := fun W (hb : Below w.heap.size w W) => place_any A n cp rs nm W ((HR.out.below hb).more hb.size) hm
 clear hr
 simp only [hp, Option.getD_none, Option.isSome_none] at c
 rw [plc_find hp]
 have C := Lib.hid c
 clear c hp
 go_enter Tryz.func44, Tryz.ntmps44
 go_wp2_with (fail)
 refine (C.out _ Qb).mono ?_; rintro e w1 ⟨rfl, hb1⟩; obtain ⟨hcc1, hff1⟩ := bcell hb1; have hz1 := hb1.size; (try simp at hz1); have hz1_0 : w.heap.size < w1.heap.size := (by omega)
 have HZ : Hid (st16 w1 ⟨w.heap.size, 0, none⟩ St0) := Lib.hid ⟨(by go_simp), (by go_simp), (by go_simp), (by go_simp), (by go_simp), (by go_simp), (by go_simp), (by go_simp), (by go_simp), (by go_simp), (by go_simp), (by go_simp), (by go_simp), (by go_simp), (by go_simp), (by go_simp)⟩
 go_wp2
 refine lay_ret (fun W => st16 W ⟨w.heap.size, 0, none⟩ St0 ∧ Below w.heap.size w W) ⟨st16_put _ _ St0 St0 (by exact HZ.out), (Qb1 hb1)⟩ ?_
 rintro w2 ⟨⟨e0, e1, e2, e3, e4, e5, e6, e7, e8, e9, e10, e11, e12, e13, e14, e15⟩, kb2⟩
 simp only [Nat.zero_add] at e0 e1 e2 e3 e4 e5 e6 e7 e8 e9 e10 e11 e12 e13 e14 e15
 clear HZ hcc1 hff1 hz1 hz1_0 C HR hb1
 refine bodyPost_ret (v := .tuple #[.agg #[.string ⟨#[]⟩, .int .i64 0, .int .i64 0, .bool false, .int .i64 0, .int .i64 0, .bool false, .int .i64 0, .bool false, .int .i64 0, .int .i64 0, .int .i64 0, .bool false, .int .i64 0, .int .i64 0, .int .i64 0], .bool false]) (by simp [results, Tryz.results44, go_sem, *]) rfl ⟨by rfl, kb2⟩
set_option maxRecDepth 100000 in
set_option maxHeartbeats 8000000 in
theorem sfind_any_1 (A : Option Addr) (n cp : Nat) (rs : List St) (nm : ByteArray) (w : World) (hr : StsAt w w.heap.size A n rs) (hm : n * 136 ≤ 140737488351232) (k : Nat) (hp : plc rs nm = some k) :
    Calls Tryz.prog 44 #[.slice A n cp, .string nm] w fun x w' => x = .returned (.tuple #[.agg #[.string ((findS rs nm).getD St0).ch.name, .int .i64 ((findS rs nm).getD St0).ch.ep, .int .i64 ((findS rs nm).getD St0).ch.who, .bool ((findS rs nm).getD St0).ch.al, .int .i64 ((findS rs nm).getD St0).ch.kd, .int .i64 ((findS rs nm).getD St0).ch.sc, .bool ((findS rs nm).getD St0).has, .int .i64 ((findS rs nm).getD St0).inp, .bool ((findS rs nm).getD St0).mn.has, .int .i64 ((findS rs nm).getD St0).mn.val, .int .i64 ((findS rs nm).getD St0).mn.org, .int .i64 ((findS rs nm).getD St0).mn.age, .bool ((findS rs nm).getD St0).mx.has, .int .i64 ((findS rs nm).getD St0).mx.val, .int .i64 ((findS rs nm).getD St0).mx.org, .int .i64 ((findS rs nm).getD St0).mx.age], .bool (findS rs nm).isSome]) ∧ Below w.heap.size w w' := by
 have HR := Lib.hid hr
 have c := fun W (hb : Below w.heap.size w W) => place_any A n cp rs nm W ((HR.out.below hb).more hb.size) hm
 clear hr
 simp only [hp, Option.getD_some, Option.isSome_some] at c
 obtain ⟨z, hz, _, hf⟩ := plc_some hp
 rw [hf]
 have C := Lib.hid c
 have hkn : k < n := by have := (List.getElem?_eq_some_iff.1 hz).1; have := HR.out.len; omega
 clear c hp hf
 go_enter Tryz.func44, Tryz.ntmps44
 go_wp2_with (fail)
 refine (C.out _ Qb).mono ?_; rintro e w1 ⟨rfl, hb1⟩; obtain ⟨hcc1, hff1⟩ := bcell hb1; have hz1 := hb1.size; (try simp at hz1); have hz1_0 : w.heap.size < w1.heap.size := (by omega)
 have kb1 : Below w.heap.size w w1 := (Qb1 hb1)
 obtain ⟨adx, yx, hAx, habx, hxx, hszx, hc16x⟩ := HR.out.get hkn
 subst hAx
 obtain ⟨p, hpx⟩ : ∃ p, adx.add (k * 16) = p := ⟨_, rfl⟩
 have hpbx : p.block < w.heap.size := by rw [← hpx, block_of_add]; exact habx
 rw [hpx] at hc16x
 have hwsx : w.heap.size ≤ w1.heap.size := kb1.size
 have hpwx : p.block < w1.heap.size := by omega
 obtain ⟨⟨xs, xe, xm, xa, xk, xc⟩, xh, xi, ⟨xp, xv, xo, xg⟩, ⟨xq, xu, xr, xt⟩⟩ := yx
 obtain ⟨c0, c1, c2, c3, c4, c5, c6, c7, c8, c9, c10, c11, c12, c13, c14, c15⟩ := hc16x.below hpbx kb1
 have HXx := Lib.hid hxx
 clear hxx hszx hc16x
 simp only [] at c0 c1 c2 c3 c4 c5 c6 c7 c8 c9 c10 c11 c12 c13 c14 c15
 obtain rfl := Option.some.inj (hz.symm.trans HXx.out)
 clear hz hpbx
 have HZ : Hid (st16 w1 ⟨w.heap.size, 0, none⟩ St0) := Lib.hid ⟨(by go_simp), (by go_simp), (by go_simp), (by go_simp), (by go_simp), (by go_simp), (by go_simp), (by go_simp), (by go_simp), (by go_simp), (by go_simp), (by go_simp), (by go_simp), (by go_simp), (by go_simp), (by go_simp)⟩
 go_wp2
 refine lay_ret (fun W => st16 W ⟨w.heap.size, 0, none⟩ ⟨⟨xs, xe, xm, xa, xk, xc⟩, xh, xi, ⟨xp, xv, xo, xg⟩, ⟨xq, xu, xr, xt⟩⟩ ∧ Below w.heap.size w W) ⟨st16_put _ _ St0 ⟨⟨xs, xe, xm, xa, xk, xc⟩, xh, xi, ⟨xp, xv, xo, xg⟩, ⟨xq, xu, xr, xt⟩⟩ (by exact HZ.out), (Qb1 hb1)⟩ ?_
 rintro w2 ⟨⟨e0, e1, e2, e3, e4, e5, e6, e7, e8, e9, e10, e11, e12, e13, e14, e15⟩, kb2⟩
 simp only [Nat.zero_add] at e0 e1 e2 e3 e4 e5 e6 e7 e8 e9 e10 e11 e12 e13 e14 e15
 clear HZ hcc1 hff1 hz1 hz1_0 C HR kb1 hb1 hpwx hwsx c0 c1 c2 c3 c4 c5 c6 c7 c8 c9 c10 c11 c12 c13 c14 c15
 refine bodyPost_ret (v := .tuple #[.agg #[.string xs, .int .i64 xe, .int .i64 xm, .bool xa, .int .i64 xk, .int .i64 xc, .bool xh, .int .i64 xi, .bool xp, .int .i64 xv, .int .i64 xo, .int .i64 xg, .bool xq, .int .i64 xu, .int .i64 xr, .int .i64 xt], .bool true]) (by simp [results, Tryz.results44, go_sem, *]) rfl ⟨by rfl, kb2⟩
theorem sfind_any (A : Option Addr) (n cp : Nat) (rs : List St) (nm : ByteArray) (w : World) (hr : StsAt w w.heap.size A n rs) (hm : n * 136 ≤ 140737488351232) :
    Calls Tryz.prog 44 #[.slice A n cp, .string nm] w fun x w' => x = .returned (.tuple #[.agg #[.string ((findS rs nm).getD St0).ch.name, .int .i64 ((findS rs nm).getD St0).ch.ep, .int .i64 ((findS rs nm).getD St0).ch.who, .bool ((findS rs nm).getD St0).ch.al, .int .i64 ((findS rs nm).getD St0).ch.kd, .int .i64 ((findS rs nm).getD St0).ch.sc, .bool ((findS rs nm).getD St0).has, .int .i64 ((findS rs nm).getD St0).inp, .bool ((findS rs nm).getD St0).mn.has, .int .i64 ((findS rs nm).getD St0).mn.val, .int .i64 ((findS rs nm).getD St0).mn.org, .int .i64 ((findS rs nm).getD St0).mn.age, .bool ((findS rs nm).getD St0).mx.has, .int .i64 ((findS rs nm).getD St0).mx.val, .int .i64 ((findS rs nm).getD St0).mx.org, .int .i64 ((findS rs nm).getD St0).mx.age], .bool (findS rs nm).isSome]) ∧ Below w.heap.size w w' := by
 cases hp : plc rs nm with
 | none => exact sfind_any_0 A n cp rs nm w hr hm hp
 | some k => exact sfind_any_1 A n cp rs nm w hr hm k hp
set_option maxRecDepth 100000 in
set_option maxHeartbeats 8000000 in
theorem srfind_any_0 (A : Option Addr) (n cp : Nat) (rs : List St) (nm : ByteArray) (w : World) (hr : StsAt w w.heap.size A n rs) (hm : n * 136 ≤ 140737488351232) (hp : plc rs nm = none) :
    Calls Tryz.prog 46 #[.slice A n cp, .string nm] w fun x w' => x = .returned (.tuple #[.agg #[.string ((findS rs nm).getD St0).ch.name, .int .i64 ((findS rs nm).getD St0).ch.ep, .int .i64 ((findS rs nm).getD St0).ch.who, .bool ((findS rs nm).getD St0).ch.al, .int .i64 ((findS rs nm).getD St0).ch.kd, .int .i64 ((findS rs nm).getD St0).ch.sc, .bool ((findS rs nm).getD St0).has, .int .i64 ((findS rs nm).getD St0).inp, .bool ((findS rs nm).getD St0).mn.has, .int .i64 ((findS rs nm).getD St0).mn.val, .int .i64 ((findS rs nm).getD St0).mn.org, .int .i64 ((findS rs nm).getD St0).mn.age, .bool ((findS rs nm).getD St0).mx.has, .int .i64 ((findS rs nm).getD St0).mx.val, .int .i64 ((findS rs nm).getD St0).mx.org, .int .i64 ((findS rs nm).getD St0).mx.age], .bool (findS rs nm).isSome]) ∧ Below w.heap.size w w' := by
 have HR := Lib.hid hr
 have c := fun W (hb : Below w.heap.size w W) => rplace_any A n cp rs nm W ((HR.out.below hb).more hb.size) hm
 clear hr
 simp only [plcI_none hp] at c
 rw [plc_find hp]
 have C := Lib.hid c
 clear c hp
 go_enter Tryz.func46, Tryz.ntmps46
 go_wp2_with (fail)
 refine (C.out _ Qb).mono ?_; rintro e w1 ⟨rfl, hb1⟩; obtain ⟨hcc1, hff1⟩ := bcell hb1; have hz1 := hb1.size; (try simp at hz1); have hz1_0 : w.heap.size < w1.heap.size := (by omega)
 have HZ : Hid (st16 w1 ⟨w.heap.size, 0, none⟩ St0) := Lib.hid ⟨(by go_simp), (by go_simp), (by go_simp), (by go_simp), (by go_simp), (by go_simp), (by go_simp), (by go_simp), (by go_simp), (by go_simp), (by go_simp), (by go_simp), (by go_simp), (by go_simp), (by go_simp), (by go_simp)⟩
 go_wp2
 refine lay_ret (fun W => st16 W ⟨w.heap.size, 0, none⟩ St0 ∧ Below w.heap.size w W) ⟨st16_put _ _ St0 St0 (by exact HZ.out), (Qb1 hb1)⟩ ?_
 rintro w2 ⟨⟨e0, e1, e2, e3, e4, e5, e6, e7, e8, e9, e10, e11, e12, e13, e14, e15⟩, kb2⟩
 simp only [Nat.zero_add] at e0 e1 e2 e3 e4 e5 e6 e7 e8 e9 e10 e11 e12 e13 e14 e15
 clear HZ hcc1 hff1 hz1 hz1_0 C HR hb1
 refine bodyPost_ret (v := .tuple #[.agg #[.string ⟨#[]⟩, .int .i64 0, .int .i64 0, .bool false, .int .i64 0, .int .i64 0, .bool false, .int .i64 0, .bool false, .int .i64 0, .int .i64 0, .int .i64 0, .bool false, .int .i64 0, .int .i64 0, .int .i64 0], .bool false]) (by simp [results, Tryz.results46, go_sem, *]) rfl ⟨by rfl, kb2⟩
set_option maxRecDepth 100000 in
set_option maxHeartbeats 8000000 in
theorem srfind_any_1 (A : Option Addr) (n cp : Nat) (rs : List St) (nm : ByteArray) (w : World) (hr : StsAt w w.heap.size A n rs) (hm : n * 136 ≤ 140737488351232) (k : Nat) (hp : plc rs nm = some k) :
    Calls Tryz.prog 46 #[.slice A n cp, .string nm] w fun x w' => x = .returned (.tuple #[.agg #[.string ((findS rs nm).getD St0).ch.name, .int .i64 ((findS rs nm).getD St0).ch.ep, .int .i64 ((findS rs nm).getD St0).ch.who, .bool ((findS rs nm).getD St0).ch.al, .int .i64 ((findS rs nm).getD St0).ch.kd, .int .i64 ((findS rs nm).getD St0).ch.sc, .bool ((findS rs nm).getD St0).has, .int .i64 ((findS rs nm).getD St0).inp, .bool ((findS rs nm).getD St0).mn.has, .int .i64 ((findS rs nm).getD St0).mn.val, .int .i64 ((findS rs nm).getD St0).mn.org, .int .i64 ((findS rs nm).getD St0).mn.age, .bool ((findS rs nm).getD St0).mx.has, .int .i64 ((findS rs nm).getD St0).mx.val, .int .i64 ((findS rs nm).getD St0).mx.org, .int .i64 ((findS rs nm).getD St0).mx.age], .bool (findS rs nm).isSome]) ∧ Below w.heap.size w w' := by
 have HR := Lib.hid hr
 have c := fun W (hb : Below w.heap.size w W) => rplace_any A n cp rs nm W ((HR.out.below hb).more hb.size) hm
 clear hr
 simp only [plcI_some hp] at c
 obtain ⟨z, hz, _, hf⟩ := plc_some hp
 rw [hf]
 have C := Lib.hid c
 have hkn : k < n := by have := (List.getElem?_eq_some_iff.1 hz).1; have := HR.out.len; omega
 clear c hp hf
 go_enter Tryz.func46, Tryz.ntmps46
 go_wp2_with (fail)
 refine (C.out _ Qb).mono ?_; rintro e w1 ⟨rfl, hb1⟩; obtain ⟨hcc1, hff1⟩ := bcell hb1; have hz1 := hb1.size; (try simp at hz1); have hz1_0 : w.heap.size < w1.heap.size := (by omega)
 have kb1 : Below w.heap.size w w1 := (Qb1 hb1)
 obtain ⟨adx, yx, hAx, habx, hxx, hszx, hc16x⟩ := HR.out.get hkn
 subst hAx
 obtain ⟨p, hpx⟩ : ∃ p, adx.add (k * 16) = p := ⟨_, rfl⟩
 have hpbx : p.block < w.heap.size := by rw [← hpx, block_of_add]; exact habx
 rw [hpx] at hc16x
 have hwsx : w.heap.size ≤ w1.heap.size := kb1.size
 have hpwx : p.block < w1.heap.size := by omega
 obtain ⟨⟨xs, xe, xm, xa, xk, xc⟩, xh, xi, ⟨xp, xv, xo, xg⟩, ⟨xq, xu, xr, xt⟩⟩ := yx
 obtain ⟨c0, c1, c2, c3, c4, c5, c6, c7, c8, c9, c10, c11, c12, c13, c14, c15⟩ := hc16x.below hpbx kb1
 have HXx := Lib.hid hxx
 clear hxx hszx hc16x
 simp only [] at c0 c1 c2 c3 c4 c5 c6 c7 c8 c9 c10 c11 c12 c13 c14 c15
 obtain rfl := Option.some.inj (hz.symm.trans HXx.out)
 clear hz hpbx
 have HZ : Hid (st16 w1 ⟨w.heap.size, 0, none⟩ St0) := Lib.hid ⟨(by go_simp), (by go_simp), (by go_simp), (by go_simp), (by go_simp), (by go_simp), (by go_simp), (by go_simp), (by go_simp), (by go_simp), (by go_simp), (by go_simp), (by go_simp), (by go_simp), (by go_simp), (by go_simp)⟩
 go_wp2
 refine lay_ret (fun W => st16 W ⟨w.heap.size, 0, none⟩ ⟨⟨xs, xe, xm, xa, xk, xc⟩, xh, xi, ⟨xp, xv, xo, xg⟩, ⟨xq, xu, xr, xt⟩⟩ ∧ Below w.heap.size w W) ⟨st16_put _ _ St0 ⟨⟨xs, xe, xm, xa, xk, xc⟩, xh, xi, ⟨xp, xv, xo, xg⟩, ⟨xq, xu, xr, xt⟩⟩ (by exact HZ.out), (Qb1 hb1)⟩ ?_
 rintro w2 ⟨⟨e0, e1, e2, e3, e4, e5, e6, e7, e8, e9, e10, e11, e12, e13, e14, e15⟩, kb2⟩
 simp only [Nat.zero_add] at e0 e1 e2 e3 e4 e5 e6 e7 e8 e9 e10 e11 e12 e13 e14 e15
 clear HZ hcc1 hff1 hz1 hz1_0 C HR kb1 hb1 hpwx hwsx c0 c1 c2 c3 c4 c5 c6 c7 c8 c9 c10 c11 c12 c13 c14 c15
 refine bodyPost_ret (v := .tuple #[.agg #[.string xs, .int .i64 xe, .int .i64 xm, .bool xa, .int .i64 xk, .int .i64 xc, .bool xh, .int .i64 xi, .bool xp, .int .i64 xv, .int .i64 xo, .int .i64 xg, .bool xq, .int .i64 xu, .int .i64 xr, .int .i64 xt], .bool true]) (by simp [results, Tryz.results46, go_sem, *]) rfl ⟨by rfl, kb2⟩
theorem srfind_any (A : Option Addr) (n cp : Nat) (rs : List St) (nm : ByteArray) (w : World) (hr : StsAt w w.heap.size A n rs) (hm : n * 136 ≤ 140737488351232) :
    Calls Tryz.prog 46 #[.slice A n cp, .string nm] w fun x w' => x = .returned (.tuple #[.agg #[.string ((findS rs nm).getD St0).ch.name, .int .i64 ((findS rs nm).getD St0).ch.ep, .int .i64 ((findS rs nm).getD St0).ch.who, .bool ((findS rs nm).getD St0).ch.al, .int .i64 ((findS rs nm).getD St0).ch.kd, .int .i64 ((findS rs nm).getD St0).ch.sc, .bool ((findS rs nm).getD St0).has, .int .i64 ((findS rs nm).getD St0).inp, .bool ((findS rs nm).getD St0).mn.has, .int .i64 ((findS rs nm).getD St0).mn.val, .int .i64 ((findS rs nm).getD St0).mn.org, .int .i64 ((findS rs nm).getD St0).mn.age, .bool ((findS rs nm).getD St0).mx.has, .int .i64 ((findS rs nm).getD St0).mx.val, .int .i64 ((findS rs nm).getD St0).mx.org, .int .i64 ((findS rs nm).getD St0).mx.age], .bool (findS rs nm).isSome]) ∧ Below w.heap.size w w' := by
 cases hp : plc rs nm with
 | none => exact srfind_any_0 A n cp rs nm w hr hm hp
 | some k => exact srfind_any_1 A n cp rs nm w hr hm k hp
set_option maxHeartbeats 2000000 in
theorem sflows_any (k : Int) (w : World) : Calls Tryz.prog 69 #[.int .i64 k] w fun x w' => x = .returned (.bool (decide (1 ≤ k) && decide (k ≤ 3))) ∧ Below w.heap.size w w' := by
 by_cases h1 : 1 ≤ k
 · by_cases h2 : k ≤ 3
   · rw [decide_eq_true h1, decide_eq_true h2]
     go_enter Tryz.func69, Tryz.ntmps69
     go_wp2
     go_ret
     exact ⟨rfl, Below.refl _ _⟩
   · rw [decide_eq_true h1, decide_eq_false h2]
     go_enter Tryz.func69, Tryz.ntmps69
     go_wp2
     go_ret
     exact ⟨rfl, Below.refl _ _⟩
 · have e : (decide (1 ≤ k) && decide (k ≤ 3)) = false := by rw [decide_eq_false h1]; rfl
   rw [e]
   clear e
   by_cases h3 : k < 1
   · skip
     go_enter Tryz.func69, Tryz.ntmps69
     go_wp2
     go_ret
     exact ⟨rfl, Below.refl _ _⟩
   · omega
set_option maxHeartbeats 2000000 in
theorem srflows_any (k : Int) (w : World) : Calls Tryz.prog 29 #[.int .i64 k] w fun x w' => x = .returned (.bool (decide (1 ≤ k) && decide (k ≤ 3))) ∧ Below w.heap.size w w' := by
 by_cases h1 : k = 1
 · subst h1
   go_enter Tryz.func29, Tryz.ntmps29
   go_wp2
   go_ret
   exact ⟨rfl, Below.refl _ _⟩
 by_cases h2 : k = 2
 · subst h2
   go_enter Tryz.func29, Tryz.ntmps29
   go_wp2
   go_ret
   exact ⟨rfl, Below.refl _ _⟩
 by_cases h3 : k = 3
 · subst h3
   go_enter Tryz.func29, Tryz.ntmps29
   go_wp2
   go_ret
   exact ⟨rfl, Below.refl _ _⟩
 have b1 : (k == 1) = false := by simpa using h1
 have b2 : (k == 2) = false := by simpa using h2
 have b3 : (k == 3) = false := by simpa using h3
 have e : (decide (1 ≤ k) && decide (k ≤ 3)) = false := by rw [Bool.and_eq_false_iff, decide_eq_false_iff_not, decide_eq_false_iff_not]; omega
 rw [e]
 go_enter Tryz.func29, Tryz.ntmps29
 go_wp2
 go_ret
 exact ⟨rfl, Below.refl _ _⟩
end Go.Proofs.YtkfodkbgmpbmfaaGreat
