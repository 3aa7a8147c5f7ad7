/- Chapter 22, parts on the way: StH -/
import Derived.Deep.Cut
import Derived.Test.YtkfodkbgmpbmfaaGreatB01
import Derived.Test.YtkfodkbgmpbmfaaGreatB09
import Derived.Test.YtkfodkbgmpbmfaaGreatB11
set_option linter.unusedVariables false
set_option linter.unusedSimpArgs false
namespace Go.Proofs.YtkfodkbgmpbmfaaGreat
open Go.Proofs.YtkfodkbgmpbmfaaGreat.Rg
open Go.RowKit
set_option linter.unusedVariables false
def stOkB (al has n1 n2 z f k4 f1 f2 : Bool) : Bool := !((!al && (has || !(n1 && n2))) || ((!has && !z) || (!f || ((!k4 && !(n1 && n2)) || (!f1 || !f2)))))
def stOk (x : St) : Bool := stOkB x.ch.al x.has (eEq x.mn E0) (eEq x.mx E0) (x.inp == 0) (flowsB x.inp) (x.ch.kd == 4) (efitB x.mn.has x.mn.val x.mn.org x.mn.age) (efitB x.mx.has x.mx.val x.mx.org x.mx.age)
def stsB (id : Int) (rs : List St) : Bool := decide (0 ≤ id) && (decide (id < 16) && (fitsB (rs.map St.ch) && rs.all stOk))
theorem okAll_next {rs : List St} {k : Nat} {x : St} (hx : rs[k]? = some x) (h : (rs.take k).all stOk = true) (ho : stOk x = true) : (rs.take (k + 1)).all stOk = true := by
 rw [List.take_add_one, hx]
 simp only [Option.toList_some, List.all_append, List.all_cons, List.all_nil, h, ho]
 rfl
theorem okAll_off {rs : List St} {k : Nat} {x : St} (hx : rs[k]? = some x) (ho : stOk x = false) : rs.all stOk = false := by
 cases e : rs.all stOk with
 | false => rfl
 | true => rw [List.all_eq_true.1 e x (List.mem_of_getElem? hx)] at ho; cases ho
theorem okAll_end {rs : List St} {n : Nat} (hl : rs.length = n) (h : (rs.take n).all stOk = true) : rs.all stOk = true := by rwa [List.take_of_length_le (Nat.le_of_eq hl)] at h
set_option maxHeartbeats 1000000 in
theorem srflow_any (x : Int) (w : World) : Calls Tryz.prog 114 #[.int .i64 x] w fun e w' => e = .returned (.bool (flowsB x)) ∧ w = w' := by
 by_cases h1 : -2147483647 ≤ x
 · by_cases h2 : x ≤ 2147483647
   · have e : flowsB x = true := flowsB_def.2 ⟨h1, h2⟩
     rw [e]
     go_enter Tryz.func114, Tryz.ntmps114
     go_wp2
     go_ret
     exact ⟨rfl, rfl⟩
   · have e : flowsB x = false := by unfold flowsB; rw [decide_eq_false h2]; simp
     rw [e]
     go_enter Tryz.func114, Tryz.ntmps114
     go_wp2
     go_ret
     exact ⟨rfl, rfl⟩
 · have e : flowsB x = false := by unfold flowsB; rw [decide_eq_false h1]; rfl
   rw [e]
   go_enter Tryz.func114, Tryz.ntmps114
   go_wp2
   go_ret
   exact ⟨rfl, rfl⟩
set_option maxRecDepth 100000 in
set_option maxHeartbeats 8000000 in
theorem srfit_any (id : Int) (A : Option Addr) (n cp : Nat) (rs : List St) (w : World) (hr : StsAt w w.heap.size A n rs) (hm : n * 136 ≤ 140737488351232) :
    Calls Tryz.prog 78 #[.int .i64 id, .slice A n cp] w fun x w' => x = .returned (.bool (stsB id rs)) ∧ Below w.heap.size w w' := by
 have HR := Lib.hid hr
 clear hr
 by_cases h0 : id < 0
 · have e : stsB id rs = false := by unfold stsB; rw [decide_eq_false (by omega)]; rfl
   rw [e]
   go_enter Tryz.func78, Tryz.ntmps78
   go_wp2
   refine bodyPost_ret (v := .bool false) (by simp [results, Tryz.results78, go_sem, *]) rfl ⟨by rfl, Qb⟩
 by_cases h1 : 16 ≤ id
 · have e : stsB id rs = false := by unfold stsB; rw [decide_eq_false (show ¬ id < 16 by omega)]; simp
   rw [e]
   go_enter Tryz.func78, Tryz.ntmps78
   go_wp2
   refine bodyPost_ret (v := .bool false) (by simp [results, Tryz.results78, go_sem, *]) rfl ⟨by rfl, Qb⟩
 have e : stsB id rs = (fitsB (rs.map St.ch) && rs.all stOk) := by unfold stsB; rw [decide_eq_true (show 0 ≤ id by omega), decide_eq_true (show id < 16 by omega)]; rfl
 rw [e]
 clear e
 obtain ⟨fb, hfb⟩ : ∃ b, fitsB (rs.map St.ch) = b := ⟨_, rfl⟩
 rw [hfb]
 have HFB := Lib.hid hfb
 clear hfb
 have hnm : ∀ x ∈ rs.map St.ch, x.name.size ≤ maxLen := by
  intro x hx
  obtain ⟨y, hy, rfl⟩ := List.mem_map.1 hx
  exact HR.out.2 y hy
 have HNM := Lib.hid hnm
 clear hnm
 have cr := fun W (hb : Below w.heap.size w W) => rrecords_any A n cp rs W ((HR.out.below hb).more hb.size) hm
 have CR := Lib.hid cr
 clear cr
 go_enter Tryz.func78, Tryz.ntmps78
 go_wp2_with (fail)
 refine (CR.out _ Qb).mono ?_; rintro e w1 ⟨lv, rfl, hown, hb1⟩
 obtain ⟨A1, c1, rfl, hat⟩ := hown.at_ HNM.out
 clear hown
 have hl1 : (rs.map St.ch).length ≤ n := by rw [List.length_map]; exact Nat.le_of_eq HR.out.len
 obtain ⟨n1, hn1⟩ : ∃ n1, (rs.map St.ch).length = n1 := ⟨_, rfl⟩
 rw [hn1] at hat hl1
 rw [hn1]
 have cf := fun W (hb : Below w1.heap.size w1 W) => rfits_any A1 n1 c1 (rs.map St.ch) W ((hat.below hb).more hb.size) (by omega)
 clear hat hn1
 rw [HFB.out] at cf
 have CF := Lib.hid cf
 clear cf
 go_wp2_with (fail)
 refine (CF.out _ Qb).mono ?_; rintro e w2 ⟨rfl, hb2⟩
 have hz1 := hb1.size
 have hz2 := hb2.size
 have kb2 : Below w.heap.size w w2 := (Qb2 hb1 hb2)
 clear hz1 hz2
 clear hb1 hb2 CF CR
 cases fb with
 | false =>
  go_wp2
  refine bodyPost_ret (v := .bool false) (by simp [results, Tryz.results78, go_sem, *]) rfl ⟨by rfl, (Qb1 kb2)⟩
 | true =>
 go_wp2
 go_loopw [5] (fun i w' => ∃ (k : Nat), k ≤ n ∧ i = .int .i64 k ∧ Hid ((rs.take k).all stOk = true) ∧ KeptC w [] [] w') (fun i _ => n - (intOf i).toNat)
 case atStart => exact ⟨0, Nat.zero_le _, rfl, Lib.hid (by simp), (Qk1 kb2)⟩
 case round =>
  obtain ⟨k, hk, rfl, HA, hK⟩ := hrel
  have kb0 := hK.1
  clear hK
  clear kb2
  by_cases hlt : k < n
  rotate_left
  · obtain rfl : k = n := by omega
    have HN : Hid (rs.all stOk = true) := Lib.hid (okAll_end HR.out.len HA.out)
    go_wp2
    refine bodyPost_ret (v := .bool true) (by simp [results, Tryz.results78, go_sem, *]) rfl ⟨by rw [HN.out]; rfl, (Qb1 kb0)⟩
  · obtain ⟨adx, yx, hAx, habx, hxx, hszx, hc16x⟩ := HR.out.get hlt
    subst hAx
    obtain ⟨p, hpx⟩ : ∃ p, adx.add (k * 16) = p := ⟨_, rfl⟩
    have hpbx : p.block < w.heap.size := by rw [← hpx, block_of_add]; exact habx
    rw [hpx] at hc16x
    have hwsx : w.heap.size ≤ wr.heap.size := kb0.size
    have hpwx : p.block < wr.heap.size := by omega
    obtain ⟨⟨xs, xe, xm, xa, xk, xc⟩, xh, xi, ⟨xp, xv, xo, xg⟩, ⟨xq, xu, xr, xt⟩⟩ := yx
    obtain ⟨c0, c1, c2, c3, c4, c5, c6, c7, c8, c9, c10, c11, c12, c13, c14, c15⟩ := hc16x.below hpbx kb0
    have HXx := Lib.hid hxx
    clear hxx hszx hc16x
    simp only [] at c0 c1 c2 c3 c4 c5 c6 c7 c8 c9 c10 c11 c12 c13 c14 c15
    have q1 : ∀ W, (binOp .eql 94 (.agg #[.bool xp, .int .i64 xv, .int .i64 xo, .int .i64 xg]) (.agg #[.bool false, .int .i64 0, .int .i64 0, .int .i64 0])).run Tryz.prog W = .ok (.bool (eEq ⟨xp, xv, xo, xg⟩ E0)) W := fun W => eql_ext ⟨xp, xv, xo, xg⟩ E0 W
    have q2 : ∀ W, (binOp .eql 94 (.agg #[.bool xq, .int .i64 xu, .int .i64 xr, .int .i64 xt]) (.agg #[.bool false, .int .i64 0, .int .i64 0, .int .i64 0])).run Tryz.prog W = .ok (.bool (eEq ⟨xq, xu, xr, xt⟩ E0)) W := fun W => eql_ext ⟨xq, xu, xr, xt⟩ E0 W
    have he : stOk ⟨⟨xs, xe, xm, xa, xk, xc⟩, xh, xi, ⟨xp, xv, xo, xg⟩, ⟨xq, xu, xr, xt⟩⟩ = stOkB xa xh (eEq ⟨xp, xv, xo, xg⟩ E0) (eEq ⟨xq, xu, xr, xt⟩ E0) (xi == 0) (flowsB xi) (xk == 4) (efitB xp xv xo xg) (efitB xq xu xr xt) := rfl
    have cn := fun W => srflow_any xi W
    have cm := fun W => erfit_any xp xv xo xg W
    have cx := fun W => erfit_any xq xu xr xt W
    obtain ⟨n1, hn1⟩ : ∃ b, eEq ⟨xp, xv, xo, xg⟩ E0 = b := ⟨_, rfl⟩
    obtain ⟨n2, hn2⟩ : ∃ b, eEq ⟨xq, xu, xr, xt⟩ E0 = b := ⟨_, rfl⟩
    obtain ⟨z, hz⟩ : ∃ b, (xi == 0) = b := ⟨_, rfl⟩
    obtain ⟨f, hf⟩ : ∃ b, flowsB xi = b := ⟨_, rfl⟩
    obtain ⟨k4, hk4⟩ : ∃ b, (xk == 4) = b := ⟨_, rfl⟩
    obtain ⟨f1, hf1⟩ : ∃ b, efitB xp xv xo xg = b := ⟨_, rfl⟩
    obtain ⟨f2, hf2⟩ : ∃ b, efitB xq xu xr xt = b := ⟨_, rfl⟩
    rw [hn1, hn2, hz, hf, hk4, hf1, hf2] at he
    rw [hn1] at q1
    rw [hn2] at q2
    rw [hf] at cn
    rw [hf1] at cm
    rw [hf2] at cx
    have hzn : (xi != 0) = !z := by rw [← hz]; rfl
    have hkn : (xk != 4) = !k4 := by rw [← hk4]; rfl
    have HE := Lib.hid he; have CN := Lib.hid cn; have CM := Lib.hid cm; have CX := Lib.hid cx
    clear he cn cm cx hn1 hn2 hf hf1 hf2
    go_upto_region 7 with (fail)
    cases n1 with
    | true =>
     cases n2 with
     | true =>
      go_upto_region 8 with (fail)
      cases xa with
      | true =>
       cases xh with
       | true =>
        go_wp2_with (fail)
        refine (CN.out _).mono ?_; rintro e w3 ⟨rfl, rfl⟩
        cases f with
        | true =>
         cases k4 with
         | true =>
          go_wp2_with (fail)
          refine (CM.out _).mono ?_; rintro e w4 ⟨rfl, hb4⟩; obtain ⟨hcc4, hff4⟩ := bcell hb4; have hz4 := hb4.size; (try simp at hz4); have hy4 : wr.heap.size < w4.heap.size := (by omega)
          cases f1 with
          | true =>
           go_wp2_with (fail)
           refine (CX.out _).mono ?_; rintro e w5 ⟨rfl, hb5⟩; obtain ⟨hcc5, hff5⟩ := bcell hb5; have hz5 := hb5.size; (try simp at hz5); have hy5 : wr.heap.size < w5.heap.size := (by omega)
           cases f2 with
           | true =>
            go_wp2
            go_roundw
            case rel => exact ⟨k + 1, by omega, by go_num, Lib.hid (okAll_next HXx.out HA.out (by rw [HE.out]; rfl)), (Qk3 kb0 hb4 hb5)⟩
            case measure => simp [intOf]; omega
           | false =>
            go_wp2
            refine bodyPost_ret (v := .bool false) (by simp [results, Tryz.results78, go_sem, *]) rfl ⟨by rw [okAll_off HXx.out (by rw [HE.out]; rfl)]; rfl, (Qb3 kb0 hb4 hb5)⟩
          | false =>
           go_wp2
           refine bodyPost_ret (v := .bool false) (by simp [results, Tryz.results78, go_sem, *]) rfl ⟨by rw [okAll_off HXx.out (by rw [HE.out]; rfl)]; rfl, (Qb2 kb0 hb4)⟩
         | false =>
          go_wp2_with (fail)
          refine (CM.out _).mono ?_; rintro e w4 ⟨rfl, hb4⟩; obtain ⟨hcc4, hff4⟩ := bcell hb4; have hz4 := hb4.size; (try simp at hz4); have hy4 : wr.heap.size < w4.heap.size := (by omega)
          cases f1 with
          | true =>
           go_wp2_with (fail)
           refine (CX.out _).mono ?_; rintro e w5 ⟨rfl, hb5⟩; obtain ⟨hcc5, hff5⟩ := bcell hb5; have hz5 := hb5.size; (try simp at hz5); have hy5 : wr.heap.size < w5.heap.size := (by omega)
           cases f2 with
           | true =>
            go_wp2
            go_roundw
            case rel => exact ⟨k + 1, by omega, by go_num, Lib.hid (okAll_next HXx.out HA.out (by rw [HE.out]; rfl)), (Qk3 kb0 hb4 hb5)⟩
            case measure => simp [intOf]; omega
           | false =>
            go_wp2
            refine bodyPost_ret (v := .bool false) (by simp [results, Tryz.results78, go_sem, *]) rfl ⟨by rw [okAll_off HXx.out (by rw [HE.out]; rfl)]; rfl, (Qb3 kb0 hb4 hb5)⟩
          | false =>
           go_wp2
           refine bodyPost_ret (v := .bool false) (by simp [results, Tryz.results78, go_sem, *]) rfl ⟨by rw [okAll_off HXx.out (by rw [HE.out]; rfl)]; rfl, (Qb2 kb0 hb4)⟩
        | false =>
         go_wp2
         refine bodyPost_ret (v := .bool false) (by simp [results, Tryz.results78, go_sem, *]) rfl ⟨by rw [okAll_off HXx.out (by rw [HE.out]; rfl)]; rfl, (Qb1 kb0)⟩
       | false =>
        cases z with
        | true =>
         go_wp2_with (fail)
         refine (CN.out _).mono ?_; rintro e w3 ⟨rfl, rfl⟩
         cases f with
         | true =>
          cases k4 with
          | true =>
           go_wp2_with (fail)
           refine (CM.out _).mono ?_; rintro e w4 ⟨rfl, hb4⟩; obtain ⟨hcc4, hff4⟩ := bcell hb4; have hz4 := hb4.size; (try simp at hz4); have hy4 : wr.heap.size < w4.heap.size := (by omega)
           cases f1 with
           | true =>
            go_wp2_with (fail)
            refine (CX.out _).mono ?_; rintro e w5 ⟨rfl, hb5⟩; obtain ⟨hcc5, hff5⟩ := bcell hb5; have hz5 := hb5.size; (try simp at hz5); have hy5 : wr.heap.size < w5.heap.size := (by omega)
            cases f2 with
            | true =>
             go_wp2
             go_roundw
             case rel => exact ⟨k + 1, by omega, by go_num, Lib.hid (okAll_next HXx.out HA.out (by rw [HE.out]; rfl)), (Qk3 kb0 hb4 hb5)⟩
             case measure => simp [intOf]; omega
            | false =>
             go_wp2
             refine bodyPost_ret (v := .bool false) (by simp [results, Tryz.results78, go_sem, *]) rfl ⟨by rw [okAll_off HXx.out (by rw [HE.out]; rfl)]; rfl, (Qb3 kb0 hb4 hb5)⟩
           | false =>
            go_wp2
            refine bodyPost_ret (v := .bool false) (by simp [results, Tryz.results78, go_sem, *]) rfl ⟨by rw [okAll_off HXx.out (by rw [HE.out]; rfl)]; rfl, (Qb2 kb0 hb4)⟩
          | false =>
           go_wp2_with (fail)
           refine (CM.out _).mono ?_; rintro e w4 ⟨rfl, hb4⟩; obtain ⟨hcc4, hff4⟩ := bcell hb4; have hz4 := hb4.size; (try simp at hz4); have hy4 : wr.heap.size < w4.heap.size := (by omega)
           cases f1 with
           | true =>
            go_wp2_with (fail)
            refine (CX.out _).mono ?_; rintro e w5 ⟨rfl, hb5⟩; obtain ⟨hcc5, hff5⟩ := bcell hb5; have hz5 := hb5.size; (try simp at hz5); have hy5 : wr.heap.size < w5.heap.size := (by omega)
            cases f2 with
            | true =>
             go_wp2
             go_roundw
             case rel => exact ⟨k + 1, by omega, by go_num, Lib.hid (okAll_next HXx.out HA.out (by rw [HE.out]; rfl)), (Qk3 kb0 hb4 hb5)⟩
             case measure => simp [intOf]; omega
            | false =>
             go_wp2
             refine bodyPost_ret (v := .bool false) (by simp [results, Tryz.results78, go_sem, *]) rfl ⟨by rw [okAll_off HXx.out (by rw [HE.out]; rfl)]; rfl, (Qb3 kb0 hb4 hb5)⟩
           | false =>
            go_wp2
            refine bodyPost_ret (v := .bool false) (by simp [results, Tryz.results78, go_sem, *]) rfl ⟨by rw [okAll_off HXx.out (by rw [HE.out]; rfl)]; rfl, (Qb2 kb0 hb4)⟩
         | false =>
          go_wp2
          refine bodyPost_ret (v := .bool false) (by simp [results, Tryz.results78, go_sem, *]) rfl ⟨by rw [okAll_off HXx.out (by rw [HE.out]; rfl)]; rfl, (Qb1 kb0)⟩
        | false =>
         go_wp2
         refine bodyPost_ret (v := .bool false) (by simp [results, Tryz.results78, go_sem, *]) rfl ⟨by rw [okAll_off HXx.out (by rw [HE.out]; rfl)]; rfl, (Qb1 kb0)⟩
      | false =>
       cases xh with
       | true =>
        go_wp2
        refine bodyPost_ret (v := .bool false) (by simp [results, Tryz.results78, go_sem, *]) rfl ⟨by rw [okAll_off HXx.out (by rw [HE.out]; rfl)]; rfl, (Qb1 kb0)⟩
       | false =>
        cases z with
        | true =>
         go_wp2_with (fail)
         refine (CN.out _).mono ?_; rintro e w3 ⟨rfl, rfl⟩
         cases f with
         | true =>
          cases k4 with
          | true =>
           go_wp2_with (fail)
           refine (CM.out _).mono ?_; rintro e w4 ⟨rfl, hb4⟩; obtain ⟨hcc4, hff4⟩ := bcell hb4; have hz4 := hb4.size; (try simp at hz4); have hy4 : wr.heap.size < w4.heap.size := (by omega)
           cases f1 with
           | true =>
            go_wp2_with (fail)
            refine (CX.out _).mono ?_; rintro e w5 ⟨rfl, hb5⟩; obtain ⟨hcc5, hff5⟩ := bcell hb5; have hz5 := hb5.size; (try simp at hz5); have hy5 : wr.heap.size < w5.heap.size := (by omega)
            cases f2 with
            | true =>
             go_wp2
             go_roundw
             case rel => exact ⟨k + 1, by omega, by go_num, Lib.hid (okAll_next HXx.out HA.out (by rw [HE.out]; rfl)), (Qk3 kb0 hb4 hb5)⟩
             case measure => simp [intOf]; omega
            | false =>
             go_wp2
             refine bodyPost_ret (v := .bool false) (by simp [results, Tryz.results78, go_sem, *]) rfl ⟨by rw [okAll_off HXx.out (by rw [HE.out]; rfl)]; rfl, (Qb3 kb0 hb4 hb5)⟩
           | false =>
            go_wp2
            refine bodyPost_ret (v := .bool false) (by simp [results, Tryz.results78, go_sem, *]) rfl ⟨by rw [okAll_off HXx.out (by rw [HE.out]; rfl)]; rfl, (Qb2 kb0 hb4)⟩
          | false =>
           go_wp2_with (fail)
           refine (CM.out _).mono ?_; rintro e w4 ⟨rfl, hb4⟩; obtain ⟨hcc4, hff4⟩ := bcell hb4; have hz4 := hb4.size; (try simp at hz4); have hy4 : wr.heap.size < w4.heap.size := (by omega)
           cases f1 with
           | true =>
            go_wp2_with (fail)
            refine (CX.out _).mono ?_; rintro e w5 ⟨rfl, hb5⟩; obtain ⟨hcc5, hff5⟩ := bcell hb5; have hz5 := hb5.size; (try simp at hz5); have hy5 : wr.heap.size < w5.heap.size := (by omega)
            cases f2 with
            | true =>
             go_wp2
             go_roundw
             case rel => exact ⟨k + 1, by omega, by go_num, Lib.hid (okAll_next HXx.out HA.out (by rw [HE.out]; rfl)), (Qk3 kb0 hb4 hb5)⟩
             case measure => simp [intOf]; omega
            | false =>
             go_wp2
             refine bodyPost_ret (v := .bool false) (by simp [results, Tryz.results78, go_sem, *]) rfl ⟨by rw [okAll_off HXx.out (by rw [HE.out]; rfl)]; rfl, (Qb3 kb0 hb4 hb5)⟩
           | false =>
            go_wp2
            refine bodyPost_ret (v := .bool false) (by simp [results, Tryz.results78, go_sem, *]) rfl ⟨by rw [okAll_off HXx.out (by rw [HE.out]; rfl)]; rfl, (Qb2 kb0 hb4)⟩
         | false =>
          go_wp2
          refine bodyPost_ret (v := .bool false) (by simp [results, Tryz.results78, go_sem, *]) rfl ⟨by rw [okAll_off HXx.out (by rw [HE.out]; rfl)]; rfl, (Qb1 kb0)⟩
        | false =>
         go_wp2
         refine bodyPost_ret (v := .bool false) (by simp [results, Tryz.results78, go_sem, *]) rfl ⟨by rw [okAll_off HXx.out (by rw [HE.out]; rfl)]; rfl, (Qb1 kb0)⟩
     | false =>
      go_upto_region 8 with (fail)
      cases xa with
      | true =>
       cases xh with
       | true =>
        go_wp2_with (fail)
        refine (CN.out _).mono ?_; rintro e w3 ⟨rfl, rfl⟩
        cases f with
        | true =>
         cases k4 with
         | true =>
          go_wp2_with (fail)
          refine (CM.out _).mono ?_; rintro e w4 ⟨rfl, hb4⟩; obtain ⟨hcc4, hff4⟩ := bcell hb4; have hz4 := hb4.size; (try simp at hz4); have hy4 : wr.heap.size < w4.heap.size := (by omega)
          cases f1 with
          | true =>
           go_wp2_with (fail)
           refine (CX.out _).mono ?_; rintro e w5 ⟨rfl, hb5⟩; obtain ⟨hcc5, hff5⟩ := bcell hb5; have hz5 := hb5.size; (try simp at hz5); have hy5 : wr.heap.size < w5.heap.size := (by omega)
           cases f2 with
           | true =>
            go_wp2
            go_roundw
            case rel => exact ⟨k + 1, by omega, by go_num, Lib.hid (okAll_next HXx.out HA.out (by rw [HE.out]; rfl)), (Qk3 kb0 hb4 hb5)⟩
            case measure => simp [intOf]; omega
           | false =>
            go_wp2
            refine bodyPost_ret (v := .bool false) (by simp [results, Tryz.results78, go_sem, *]) rfl ⟨by rw [okAll_off HXx.out (by rw [HE.out]; rfl)]; rfl, (Qb3 kb0 hb4 hb5)⟩
          | false =>
           go_wp2
           refine bodyPost_ret (v := .bool false) (by simp [results, Tryz.results78, go_sem, *]) rfl ⟨by rw [okAll_off HXx.out (by rw [HE.out]; rfl)]; rfl, (Qb2 kb0 hb4)⟩
         | false =>
          go_wp2
          refine bodyPost_ret (v := .bool false) (by simp [results, Tryz.results78, go_sem, *]) rfl ⟨by rw [okAll_off HXx.out (by rw [HE.out]; rfl)]; rfl, (Qb1 kb0)⟩
        | false =>
         go_wp2
         refine bodyPost_ret (v := .bool false) (by simp [results, Tryz.results78, go_sem, *]) rfl ⟨by rw [okAll_off HXx.out (by rw [HE.out]; rfl)]; rfl, (Qb1 kb0)⟩
       | false =>
        cases z with
        | true =>
         go_wp2_with (fail)
         refine (CN.out _).mono ?_; rintro e w3 ⟨rfl, rfl⟩
         cases f with
         | true =>
          cases k4 with
          | true =>
           go_wp2_with (fail)
           refine (CM.out _).mono ?_; rintro e w4 ⟨rfl, hb4⟩; obtain ⟨hcc4, hff4⟩ := bcell hb4; have hz4 := hb4.size; (try simp at hz4); have hy4 : wr.heap.size < w4.heap.size := (by omega)
           cases f1 with
           | true =>
            go_wp2_with (fail)
            refine (CX.out _).mono ?_; rintro e w5 ⟨rfl, hb5⟩; obtain ⟨hcc5, hff5⟩ := bcell hb5; have hz5 := hb5.size; (try simp at hz5); have hy5 : wr.heap.size < w5.heap.size := (by omega)
            cases f2 with
            | true =>
             go_wp2
             go_roundw
             case rel => exact ⟨k + 1, by omega, by go_num, Lib.hid (okAll_next HXx.out HA.out (by rw [HE.out]; rfl)), (Qk3 kb0 hb4 hb5)⟩
             case measure => simp [intOf]; omega
            | false =>
             go_wp2
             refine bodyPost_ret (v := .bool false) (by simp [results, Tryz.results78, go_sem, *]) rfl ⟨by rw [okAll_off HXx.out (by rw [HE.out]; rfl)]; rfl, (Qb3 kb0 hb4 hb5)⟩
           | false =>
            go_wp2
            refine bodyPost_ret (v := .bool false) (by simp [results, Tryz.results78, go_sem, *]) rfl ⟨by rw [okAll_off HXx.out (by rw [HE.out]; rfl)]; rfl, (Qb2 kb0 hb4)⟩
          | false =>
           go_wp2
           refine bodyPost_ret (v := .bool false) (by simp [results, Tryz.results78, go_sem, *]) rfl ⟨by rw [okAll_off HXx.out (by rw [HE.out]; rfl)]; rfl, (Qb1 kb0)⟩
         | false =>
          go_wp2
          refine bodyPost_ret (v := .bool false) (by simp [results, Tryz.results78, go_sem, *]) rfl ⟨by rw [okAll_off HXx.out (by rw [HE.out]; rfl)]; rfl, (Qb1 kb0)⟩
        | false =>
         go_wp2
         refine bodyPost_ret (v := .bool false) (by simp [results, Tryz.results78, go_sem, *]) rfl ⟨by rw [okAll_off HXx.out (by rw [HE.out]; rfl)]; rfl, (Qb1 kb0)⟩
      | false =>
       cases xh with
       | true =>
        go_wp2
        refine bodyPost_ret (v := .bool false) (by simp [results, Tryz.results78, go_sem, *]) rfl ⟨by rw [okAll_off HXx.out (by rw [HE.out]; rfl)]; rfl, (Qb1 kb0)⟩
       | false =>
        go_wp2
        refine bodyPost_ret (v := .bool false) (by simp [results, Tryz.results78, go_sem, *]) rfl ⟨by rw [okAll_off HXx.out (by rw [HE.out]; rfl)]; rfl, (Qb1 kb0)⟩
    | false =>
     go_upto_region 8 with (fail)
     cases xa with
     | true =>
      cases xh with
      | true =>
       go_wp2_with (fail)
       refine (CN.out _).mono ?_; rintro e w3 ⟨rfl, rfl⟩
       cases f with
       | true =>
        cases k4 with
        | true =>
         go_wp2_with (fail)
         refine (CM.out _).mono ?_; rintro e w4 ⟨rfl, hb4⟩; obtain ⟨hcc4, hff4⟩ := bcell hb4; have hz4 := hb4.size; (try simp at hz4); have hy4 : wr.heap.size < w4.heap.size := (by omega)
         cases f1 with
         | true =>
          go_wp2_with (fail)
          refine (CX.out _).mono ?_; rintro e w5 ⟨rfl, hb5⟩; obtain ⟨hcc5, hff5⟩ := bcell hb5; have hz5 := hb5.size; (try simp at hz5); have hy5 : wr.heap.size < w5.heap.size := (by omega)
          cases f2 with
          | true =>
           go_wp2
           go_roundw
           case rel => exact ⟨k + 1, by omega, by go_num, Lib.hid (okAll_next HXx.out HA.out (by rw [HE.out]; rfl)), (Qk3 kb0 hb4 hb5)⟩
           case measure => simp [intOf]; omega
          | false =>
           go_wp2
           refine bodyPost_ret (v := .bool false) (by simp [results, Tryz.results78, go_sem, *]) rfl ⟨by rw [okAll_off HXx.out (by rw [HE.out]; rfl)]; rfl, (Qb3 kb0 hb4 hb5)⟩
         | false =>
          go_wp2
          refine bodyPost_ret (v := .bool false) (by simp [results, Tryz.results78, go_sem, *]) rfl ⟨by rw [okAll_off HXx.out (by rw [HE.out]; rfl)]; rfl, (Qb2 kb0 hb4)⟩
        | false =>
         go_wp2
         refine bodyPost_ret (v := .bool false) (by simp [results, Tryz.results78, go_sem, *]) rfl ⟨by rw [okAll_off HXx.out (by rw [HE.out]; rfl)]; rfl, (Qb1 kb0)⟩
       | false =>
        go_wp2
        refine bodyPost_ret (v := .bool false) (by simp [results, Tryz.results78, go_sem, *]) rfl ⟨by rw [okAll_off HXx.out (by rw [HE.out]; rfl)]; rfl, (Qb1 kb0)⟩
      | false =>
       cases z with
       | true =>
        go_wp2_with (fail)
        refine (CN.out _).mono ?_; rintro e w3 ⟨rfl, rfl⟩
        cases f with
        | true =>
         cases k4 with
         | true =>
          go_wp2_with (fail)
          refine (CM.out _).mono ?_; rintro e w4 ⟨rfl, hb4⟩; obtain ⟨hcc4, hff4⟩ := bcell hb4; have hz4 := hb4.size; (try simp at hz4); have hy4 : wr.heap.size < w4.heap.size := (by omega)
          cases f1 with
          | true =>
           go_wp2_with (fail)
           refine (CX.out _).mono ?_; rintro e w5 ⟨rfl, hb5⟩; obtain ⟨hcc5, hff5⟩ := bcell hb5; have hz5 := hb5.size; (try simp at hz5); have hy5 : wr.heap.size < w5.heap.size := (by omega)
           cases f2 with
           | true =>
            go_wp2
            go_roundw
            case rel => exact ⟨k + 1, by omega, by go_num, Lib.hid (okAll_next HXx.out HA.out (by rw [HE.out]; rfl)), (Qk3 kb0 hb4 hb5)⟩
            case measure => simp [intOf]; omega
           | false =>
            go_wp2
            refine bodyPost_ret (v := .bool false) (by simp [results, Tryz.results78, go_sem, *]) rfl ⟨by rw [okAll_off HXx.out (by rw [HE.out]; rfl)]; rfl, (Qb3 kb0 hb4 hb5)⟩
          | false =>
           go_wp2
           refine bodyPost_ret (v := .bool false) (by simp [results, Tryz.results78, go_sem, *]) rfl ⟨by rw [okAll_off HXx.out (by rw [HE.out]; rfl)]; rfl, (Qb2 kb0 hb4)⟩
         | false =>
          go_wp2
          refine bodyPost_ret (v := .bool false) (by simp [results, Tryz.results78, go_sem, *]) rfl ⟨by rw [okAll_off HXx.out (by rw [HE.out]; rfl)]; rfl, (Qb1 kb0)⟩
        | false =>
         go_wp2
         refine bodyPost_ret (v := .bool false) (by simp [results, Tryz.results78, go_sem, *]) rfl ⟨by rw [okAll_off HXx.out (by rw [HE.out]; rfl)]; rfl, (Qb1 kb0)⟩
       | false =>
        go_wp2
        refine bodyPost_ret (v := .bool false) (by simp [results, Tryz.results78, go_sem, *]) rfl ⟨by rw [okAll_off HXx.out (by rw [HE.out]; rfl)]; rfl, (Qb1 kb0)⟩
     | false =>
      cases xh with
      | true =>
       go_wp2
       refine bodyPost_ret (v := .bool false) (by simp [results, Tryz.results78, go_sem, *]) rfl ⟨by rw [okAll_off HXx.out (by rw [HE.out]; rfl)]; rfl, (Qb1 kb0)⟩
      | false =>
       go_wp2
       refine bodyPost_ret (v := .bool false) (by simp [results, Tryz.results78, go_sem, *]) rfl ⟨by rw [okAll_off HXx.out (by rw [HE.out]; rfl)]; rfl, (Qb1 kb0)⟩
end Go.Proofs.YtkfodkbgmpbmfaaGreat
