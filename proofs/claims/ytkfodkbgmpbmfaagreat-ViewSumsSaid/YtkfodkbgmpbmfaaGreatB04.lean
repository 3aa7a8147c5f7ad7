/- Chapter 22, parts on the way: StF -/
import Derived.Lib.SliceRun
import Derived.Test.YtkfodkbgmpbmfaaGreatB01
import Derived.Test.YtkfodkbgmpbmfaaGreatB03
set_option linter.unusedVariables false
set_option linter.unusedSimpArgs false
namespace Go.Proofs.YtkfodkbgmpbmfaaGreat
open Go.RowKit
set_option linter.unusedVariables false
def isS (nm : ByteArray) (x : St) : Bool := (x.ch.name.toList == nm.toList) && x.ch.al
def plc (rs : List St) (nm : ByteArray) : Option Nat := rs.findIdx? (isS nm)
def findS (rs : List St) (nm : ByteArray) : Option St := rs.find? (isS nm)
theorem plc_hit {rs : List St} {nm : ByteArray} {k : Nat} {x : St} (h : ∀ y ∈ rs.take k, isS nm y = false) (hx : rs[k]? = some x) (hh : isS nm x = true) : plc rs nm = some k := by
 obtain ⟨hk, e⟩ := List.getElem?_eq_some_iff.1 hx
 unfold plc
 rw [List.findIdx?_eq_some_iff_getElem]
 refine ⟨hk, by rw [e]; exact hh, fun j hj => ?_⟩
 have := h rs[j] (List.mem_take_iff_getElem.2 ⟨j, by omega, rfl⟩)
 rw [this]; simp
theorem plc_none {rs : List St} {nm : ByteArray} (h : ∀ y ∈ rs, isS nm y = false) : plc rs nm = none := by
 unfold plc
 rw [List.findIdx?_eq_none_iff]
 exact h
theorem plc_some {rs : List St} {nm : ByteArray} {k : Nat} (h : plc rs nm = some k) : ∃ x, rs[k]? = some x ∧ isS nm x = true ∧ findS rs nm = some x := by
 unfold plc at h
 rw [List.findIdx?_eq_some_iff_getElem] at h
 obtain ⟨hk, h1, h2⟩ := h
 refine ⟨rs[k], List.getElem?_eq_getElem hk, h1, ?_⟩
 unfold findS
 rw [List.find?_eq_some_iff_getElem]
 exact ⟨h1, k, hk, rfl, fun j hj => by simpa using h2 j hj⟩
def plcI (rs : List St) (nm : ByteArray) : Int := match plc rs nm with | some i => (i : Int) | none => -1
theorem plcI_some {rs : List St} {nm : ByteArray} {k : Nat} (h : plc rs nm = some k) : plcI rs nm = k := by unfold plcI; rw [h]
theorem plcI_none {rs : List St} {nm : ByteArray} (h : plc rs nm = none) : plcI rs nm = -1 := by unfold plcI; rw [h]
theorem plc_find {rs : List St} {nm : ByteArray} (h : plc rs nm = none) : findS rs nm = none := by
 unfold plc at h
 unfold findS
 rw [List.findIdx?_eq_none_iff] at h
 rw [List.find?_eq_none]
 intro x hx
 rw [h x hx]; simp
theorem take_not {rs : List St} {nm : ByteArray} {k : Nat} {x : St} (h : ∀ y ∈ rs.take k, isS nm y = false) (hx : rs[k]? = some x) (hh : isS nm x = false) : ∀ y ∈ rs.take (k + 1), isS nm y = false := by
 intro y hy
 rw [List.take_add_one, hx] at hy
 rcases List.mem_append.1 hy with hy | hy
 · exact h y hy
 · obtain rfl : y = x := by simpa using hy
   exact hh
set_option maxRecDepth 100000 in
set_option maxHeartbeats 8000000 in
theorem place_any (A : Option Addr) (n cp : Nat) (rs : List St) (nm : ByteArray) (w : World) (hr : StsAt w w.heap.size A n rs) (hm : n * 136 ≤ 140737488351232) :
    Calls Tryz.prog 84 #[.slice A n cp, .string nm] w fun x w' => x = .returned (.tuple #[.int .i64 ((plc rs nm).getD 0 : Nat), .bool (plc rs nm).isSome]) ∧ Below w.heap.size w w' := by
 have HR := Lib.hid hr
 clear hr
 go_enter Tryz.func84, Tryz.ntmps84
 go_wp2
 go_loopw [10] (fun i w' => ∃ (k : Nat), k ≤ n ∧ i = .int .i64 k ∧ Hid (∀ y ∈ rs.take k, isS nm y = false) ∧ KeptC w [] [] w') (fun i _ => n - (intOf i).toNat)
 case atStart => exact ⟨0, Nat.zero_le _, rfl, Lib.hid (by simp), Qk⟩
 case round =>
  obtain ⟨k, hk, rfl, HA, hK⟩ := hrel
  have kb0 := hK.1
  clear hK
  by_cases hlt : k < n
  rotate_left
  · obtain rfl : k = n := by omega
    have HN : Hid (plc rs nm = none) := Lib.hid (plc_none (by have := HA.out; rwa [List.take_of_length_le (Nat.le_of_eq HR.out.len)] at this))
    go_wp2
    refine bodyPost_ret (v := .tuple #[.int .i64 0, .bool false]) (by simp [results, Tryz.results84, go_sem, *]) rfl ⟨by rw [HN.out]; rfl, (Qb1 kb0)⟩
  · obtain ⟨adx, yx, hAx, habx, hxx, hszx, hc16x⟩ := HR.out.get hlt
    subst hAx
    obtain ⟨p, hpx⟩ : ∃ p, adx.add (k * 16) = p := ⟨_, rfl⟩
    have hpbx : p.block < w.heap.size := by rw [← hpx, block_of_add]; exact habx
    rw [hpx] at hc16x
    have hwsx : w.heap.size ≤ wr.heap.size := kb0.size
    have hpwx : p.block < wr.heap.size := by omega
    obtain ⟨⟨xs, xe, xm, xa, xk, xc⟩, xh, xi, ⟨xp, xv, xo, xg⟩, ⟨xq, xu, xr, xt⟩⟩ := yx
    obtain ⟨c0, c1, c2, c3, c4, c5, c6, c7, c8, c9, c10, c11, c12, c13, c14, c15⟩ := hc16x.below hpbx kb0
    have HXx := Lib.hid hxx
    clear hxx hszx hc16x
    simp only [] at c0 c1 c2 c3 c4 c5 c6 c7 c8 c9 c10 c11 c12 c13 c14 c15
    cases he : (xs.toList == nm.toList) with
    | false =>
     have HE : Hid (isS nm ⟨⟨xs, xe, xm, xa, xk, xc⟩, xh, xi, ⟨xp, xv, xo, xg⟩, ⟨xq, xu, xr, xt⟩⟩ = false) := Lib.hid (by unfold isS; rw [he]; rfl)
     go_wp2
     go_roundw
     case rel => exact ⟨k + 1, by omega, by go_num, Lib.hid (take_not HA.out HXx.out HE.out), (Qk1 kb0)⟩
     case measure => simp [intOf]; omega
    | true =>
     cases xa with
     | false =>
      have HE : Hid (isS nm ⟨⟨xs, xe, xm, false, xk, xc⟩, xh, xi, ⟨xp, xv, xo, xg⟩, ⟨xq, xu, xr, xt⟩⟩ = false) := Lib.hid (by unfold isS; simp)
      go_wp2
      go_roundw
      case rel => exact ⟨k + 1, by omega, by go_num, Lib.hid (take_not HA.out HXx.out HE.out), (Qk1 kb0)⟩
      case measure => simp [intOf]; omega
     | true =>
      have HE : Hid (isS nm ⟨⟨xs, xe, xm, true, xk, xc⟩, xh, xi, ⟨xp, xv, xo, xg⟩, ⟨xq, xu, xr, xt⟩⟩ = true) := Lib.hid (by unfold isS; rw [he]; rfl)
      have HP : Hid (plc rs nm = some k) := Lib.hid (plc_hit HA.out HXx.out HE.out)
      go_wp2
      refine bodyPost_ret (v := .tuple #[.int .i64 k, .bool true]) (by simp [results, Tryz.results84, go_sem, *]) rfl ⟨by rw [HP.out]; rfl, (Qb1 kb0)⟩
set_option maxRecDepth 100000 in
set_option maxHeartbeats 8000000 in
theorem rplace_any (A : Option Addr) (n cp : Nat) (rs : List St) (nm : ByteArray) (w : World) (hr : StsAt w w.heap.size A n rs) (hm : n * 136 ≤ 140737488351232) :
    Calls Tryz.prog 85 #[.slice A n cp, .string nm] w fun x w' => x = .returned (.int .i64 (plcI rs nm)) ∧ Below w.heap.size w w' := by
 have HR := Lib.hid hr
 clear hr
 go_enter Tryz.func85, Tryz.ntmps85
 go_wp2
 go_loopw [5] (fun i w' => ∃ (k : Nat), k ≤ n ∧ i = .int .i64 k ∧ Hid (∀ y ∈ rs.take k, isS nm y = false) ∧ KeptC w [] [] w') (fun i _ => n - (intOf i).toNat)
 case atStart => exact ⟨0, Nat.zero_le _, rfl, Lib.hid (by simp), Qk⟩
 case round =>
  obtain ⟨k, hk, rfl, HA, hK⟩ := hrel
  have kb0 := hK.1
  clear hK
  by_cases hlt : k < n
  rotate_left
  · obtain rfl : k = n := by omega
    have HN : Hid (plc rs nm = none) := Lib.hid (plc_none (by have := HA.out; rwa [List.take_of_length_le (Nat.le_of_eq HR.out.len)] at this))
    go_wp2
    refine bodyPost_ret (v := .int .i64 (-1)) (by simp [results, Tryz.results85, go_sem, *]) rfl ⟨by rw [plcI_none HN.out], (Qb1 kb0)⟩
  · obtain ⟨adx, yx, hAx, habx, hxx, hszx, hc16x⟩ := HR.out.get hlt
    subst hAx
    obtain ⟨p, hpx⟩ : ∃ p, adx.add (k * 16) = p := ⟨_, rfl⟩
    have hpbx : p.block < w.heap.size := by rw [← hpx, block_of_add]; exact habx
    rw [hpx] at hc16x
    have hwsx : w.heap.size ≤ wr.heap.size := kb0.size
    have hpwx : p.block < wr.heap.size := by omega
    obtain ⟨⟨xs, xe, xm, xa, xk, xc⟩, xh, xi, ⟨xp, xv, xo, xg⟩, ⟨xq, xu, xr, xt⟩⟩ := yx
    obtain ⟨c0, c1, c2, c3, c4, c5, c6, c7, c8, c9, c10, c11, c12, c13, c14, c15⟩ := hc16x.below hpbx kb0
    have HXx := Lib.hid hxx
    clear hxx hszx hc16x
    simp only [] at c0 c1 c2 c3 c4 c5 c6 c7 c8 c9 c10 c11 c12 c13 c14 c15
    cases he : (xs.toList == nm.toList) with
    | false =>
     have HE : Hid (isS nm ⟨⟨xs, xe, xm, xa, xk, xc⟩, xh, xi, ⟨xp, xv, xo, xg⟩, ⟨xq, xu, xr, xt⟩⟩ = false) := Lib.hid (by unfold isS; rw [he]; rfl)
     go_wp2
     go_roundw
     case rel => exact ⟨k + 1, by omega, by go_num, Lib.hid (take_not HA.out HXx.out HE.out), (Qk1 kb0)⟩
     case measure => simp [intOf]; omega
    | true =>
     cases xa with
     | false =>
      have HE : Hid (isS nm ⟨⟨xs, xe, xm, false, xk, xc⟩, xh, xi, ⟨xp, xv, xo, xg⟩, ⟨xq, xu, xr, xt⟩⟩ = false) := Lib.hid (by unfold isS; simp)
      go_wp2
      go_roundw
      case rel => exact ⟨k + 1, by omega, by go_num, Lib.hid (take_not HA.out HXx.out HE.out), (Qk1 kb0)⟩
      case measure => simp [intOf]; omega
     | true =>
      have HE : Hid (isS nm ⟨⟨xs, xe, xm, true, xk, xc⟩, xh, xi, ⟨xp, xv, xo, xg⟩, ⟨xq, xu, xr, xt⟩⟩ = true) := Lib.hid (by unfold isS; rw [he]; rfl)
      have HP : Hid (plc rs nm = some k) := Lib.hid (plc_hit HA.out HXx.out HE.out)
      go_wp2
      refine bodyPost_ret (v := .int .i64 k) (by simp [results, Tryz.results85, go_sem, *]) rfl ⟨by rw [plcI_some HP.out], (Qb1 kb0)⟩
end Go.Proofs.YtkfodkbgmpbmfaaGreat
