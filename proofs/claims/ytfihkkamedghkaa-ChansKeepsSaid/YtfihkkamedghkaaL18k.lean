/- Whatever the arguments: eddylaw18's ChansKeeps returns true. No conditions. -/
import Derived.Test.YtfihkkamedghkaaStY
import Derived.Test.YtfihkkamedghkaaStS
import Derived.Test.YtfihkkamedghkaaStO
import Derived.Test.YtfihkkamedghkaaStP
import Derived.Test.YtfihkkamedghkaaStN
import Derived.Test.YtfihkkamedghkaaLaw
import Derived.ChangeMaps5
import Derived.Deep.Cut
namespace Go.Proofs.Ytfihkkamedghkaa
open Go.ChangeShapes Go.WideShapes Go.ChangeAt Go.RowKit Go.Joins Go.ChangeMaps
set_option linter.unusedVariables false
set_option maxRecDepth 100000
theorem keep_cre {id : Int} {ls : List St} {nm : ByteArray} {k sc : Int} {x : St} (h : x ∈ ls) (hn : eqN x.ch.name nm = false) : x ∈ (stCre ls id nm k sc).1 := by
  unfold stCre
  split
  · exact stPut_has h hn
  · exact h
theorem keep_del {id : Int} {ls : List St} {nm : ByteArray} {x : St} (h : x ∈ ls) (hn : eqN x.ch.name nm = false) : x ∈ (stDel ls id nm).1 := by
  unfold stDel
  split
  · rename_i he
    obtain ⟨o, ho, _, e⟩ := del_some he
    rw [ho]
    refine stPut_has h ?_
    have e2 : (delC ((some o).getD Ch0) id).name.toList = nm.toList := e
    cases hq : eqN x.ch.name (delC ((some o).getD Ch0) id).name with
    | false => rfl
    | true =>
      have := eqN_iff.1 hq
      rw [e2] at this
      rw [eqN_iff.2 this] at hn
      cases hn
  · exact h
theorem keep_lrn {ls : List St} {c : Ch} {x : St} (h : x ∈ ls) (hn : eqN x.ch.name c.name = false) : x ∈ (stLrn ls c).1 := by
  unfold stLrn
  split
  · exact stPut_has h hn
  · exact h
theorem keep_set {id : Int} {ls : List St} {nm : ByteArray} {v : Int} {x : St} (h : x ∈ ls) (hn : eqN x.ch.name nm = false) : x ∈ (setR id ls nm v).1 := by
  rcases set_cases id ls nm v with e | ⟨k, y, n, _, hy, hi, _, e⟩
  · rw [e]; exact h
  · rw [e]
    obtain ⟨j, hj, ej⟩ := List.getElem_of_mem h
    by_cases hjk : k = j
    · subst hjk
      obtain ⟨_, e3⟩ := List.getElem?_eq_some_iff.1 hy
      rw [← ej, e3] at hn
      simp only [isS, Bool.and_eq_true] at hi
      have h2 : eqN y.ch.name nm = true := eqN_iff.2 (by simpa using hi.1)
      rw [h2] at hn
      cases hn
    · refine List.mem_of_getElem? (i := j) ?_
      rw [List.getElem?_set_ne hjk, List.getElem?_eq_getElem hj, ej]
theorem isS_tick (id : Int) (nm : ByteArray) (y : St) : isS nm (tickX id y) = isS nm y := by unfold isS; rw [tickX_ch]
theorem find_tick {id : Int} {ls : List St} {nm : ByteArray} {y : St} (h : findS ls nm = some y) : findS (ls.map (tickX id)) nm = some (tickX id y) := by
  unfold findS at *
  rw [List.find?_map, show (isS nm ∘ tickX id) = isS nm from funext (isS_tick id nm), h]
  rfl
theorem set_found {id : Int} {ls : List St} {nm : ByteArray} {v : Int} (h : (setR id ls nm v).2 = 0) : ∃ y, findS (setR id ls nm v).1 nm = some y ∧ y.has = true := by
  cases hp : plc ls nm with
  | none => rw [setR_none hp] at h; simp at h
  | some k =>
    obtain ⟨y, hy, hi, _⟩ := plc_some hp
    by_cases he : (toldF y.ch.kd v y.ch.sc).2 = 0
    · rw [setR_ok (a := (toldF y.ch.kd v y.ch.sc).1) hp hy (by rw [← he])]
      refine ⟨setX id (toldF y.ch.kd v y.ch.sc).1 y, ?_, rfl⟩
      obtain ⟨hk, _⟩ := List.getElem?_eq_some_iff.1 hy
      have hf : plc (ls.set k (setX id (toldF y.ch.kd v y.ch.sc).1 y)) nm = some k := by
        unfold plc at hp ⊢
        rw [List.findIdx?_eq_some_iff_getElem] at hp ⊢
        obtain ⟨h1, h2, h3⟩ := hp
        refine ⟨by rw [List.length_set]; exact h1, ?_, fun j hj => ?_⟩
        · rw [List.getElem_set_self]
          exact hi
        · rw [List.getElem_set_ne (by omega)]
          exact h3 j hj
      obtain ⟨z, hz, _, hf2⟩ := plc_some hf
      rw [List.getElem?_set_self hk] at hz
      obtain rfl := Option.some.inj hz
      exact hf2
    · rw [setR_bad hp hy rfl he] at h
      exact absurd h he
theorem tick_same (id : Int) (y : St) : ∃ P Q, tickX id y = ⟨y.ch, y.has, y.inp, P, Q⟩ := by
  unfold tickX
  split
  · exact ⟨_, _, rfl⟩
  · exact ⟨_, _, rfl⟩
theorem lrn_fit {id : Int} {ls : List St} {c : Ch} (h : stsB id ls = true) (hc : chFit c.name c.ep c.who c.kd c.sc = true) : stsB id (stLrn ls c).1 = true := by
  by_cases hok : (learnR (ls.map St.ch) c).2 = 4 ∨ (learnR (ls.map St.ch) c).2 = 3
  · rw [lrn_ok hok]
    refine sts_put h ?_
    rw [← (learn_put (srt_of_fits (sts_fits h)) hok).1]
    exact learnR_fits c (sts_fits h) hc
  · rw [lrn_no hok]; exact h
theorem lrn_names {ls : List St} {c : Ch} (hc : c.name.size ≤ maxLen) (h : ∀ x ∈ ls, x.ch.name.size ≤ maxLen) : ∀ x ∈ (stLrn ls c).1, x.ch.name.size ≤ maxLen := by
  unfold stLrn
  split
  · exact put_names hc h
  · exact h
set_option maxRecDepth 100000 in
set_option maxHeartbeats 8000000 in
theorem has_in (A : Option Addr) (n cp : Nat) (rs : List St) (y : St) (w : World) (hr : StsAt w w.heap.size A n rs) (hm : n * 136 ≤ 140737488351232) (hy : y ∈ rs) :
    Calls Try.prog 33 #[.slice A n cp, .agg #[.string y.ch.name, .int .i64 y.ch.ep, .int .i64 y.ch.who, .bool y.ch.al, .int .i64 y.ch.kd, .int .i64 y.ch.sc, .bool y.has, .int .i64 y.inp, .bool y.mn.has, .int .i64 y.mn.val, .int .i64 y.mn.org, .int .i64 y.mn.age, .bool y.mx.has, .int .i64 y.mx.val, .int .i64 y.mx.org, .int .i64 y.mx.age]] w fun e w' => e = .returned (.bool true) ∧ Below w.heap.size w w' := by
  obtain ⟨⟨ys, ye, ym, ya, yk, yc⟩, yh, yi, ⟨yp, yv, yo, yg⟩, ⟨yq, yu, yr, yt⟩⟩ := y
  have HR := Lib.hid hr
  have HY := Lib.hid hy
  clear hr hy
  go_enter Try.func33, Try.ntmps33
  go_wp2
  go_loopw [5] (fun i w' => ∃ (k : Nat), k ≤ n ∧ i = .int .i64 k ∧ Hid (∀ z ∈ rs.take k, z ≠ ⟨⟨ys, ye, ym, ya, yk, yc⟩, yh, yi, ⟨yp, yv, yo, yg⟩, ⟨yq, yu, yr, yt⟩⟩) ∧ KeptC w [(⟨w.heap.size, 0, none⟩, .string ys), (⟨w.heap.size, 1, none⟩, .int .i64 ye), (⟨w.heap.size, 2, none⟩, .int .i64 ym), (⟨w.heap.size, 3, none⟩, .bool ya), (⟨w.heap.size, 4, none⟩, .int .i64 yk), (⟨w.heap.size, 5, none⟩, .int .i64 yc), (⟨w.heap.size, 6, none⟩, .bool yh), (⟨w.heap.size, 7, none⟩, .int .i64 yi), (⟨w.heap.size, 8, none⟩, .bool yp), (⟨w.heap.size, 9, none⟩, .int .i64 yv), (⟨w.heap.size, 10, none⟩, .int .i64 yo), (⟨w.heap.size, 11, none⟩, .int .i64 yg), (⟨w.heap.size, 12, none⟩, .bool yq), (⟨w.heap.size, 13, none⟩, .int .i64 yu), (⟨w.heap.size, 14, none⟩, .int .i64 yr), (⟨w.heap.size, 15, none⟩, .int .i64 yt)] [] w') (fun i _ => n - (intOf i).toNat)
  case atStart => exact ⟨0, Nat.zero_le _, rfl, Lib.hid (by simp), (by (repeat' (first | refine KeptC.cons ?_ ?_ | refine KeptC.consF ?_ ?_ ?_ | refine KeptC.mk0 ?_)); all_goals (first | with_reducible assumption | (go_simp; done) | (simp; omega) | exact (by repeat (first | with_reducible refine Below.setCell ?_ (by first | (simp; done) | (simp; omega) | omega) _ | with_reducible refine Below.alloc ?_ (by first | (simp; done) | (simp; omega) | omega) _ | with_reducible refine Below.drew ?_ | with_reducible refine below_drewN ?_ _ | with_reducible exact Below.refl _ _))))⟩
  case round =>
    obtain ⟨k, hk, rfl, HA, hK⟩ := hrel
    have HK0 := Lib.hid hK
    simp only [KeptC, List.forall_mem_cons] at hK; obtain ⟨kb0, ⟨kc0_0, kc0_1, kc0_2, kc0_3, kc0_4, kc0_5, kc0_6, kc0_7, kc0_8, kc0_9, kc0_10, kc0_11, kc0_12, kc0_13, kc0_14, kc0_15, _⟩, _⟩ := hK
    by_cases hlt : k < n
    rotate_left
    · obtain rfl : k = n := by omega
      exact absurd rfl (HA.out _ (by rw [List.take_of_length_le (Nat.le_of_eq HR.out.len)]; exact HY.out))
    · obtain ⟨adx, yx, hAx, habx, hxx, hszx, hc16x⟩ := HR.out.get hlt
      subst hAx
      obtain ⟨p, hpx⟩ : ∃ p, adx.add (k * 16) = p := ⟨_, rfl⟩
      have hpbx : p.block < w.heap.size := by rw [← hpx, block_of_add]; exact habx
      rw [hpx] at hc16x
      have hwsx : w.heap.size ≤ wr.heap.size := kb0.size
      have hpwx : p.block < wr.heap.size := by omega
      obtain ⟨⟨xs, xe, xm, xa, xk, xc⟩, xh, xi, ⟨xp, xv, xo, xg⟩, ⟨xq, xu, xr, xt⟩⟩ := yx
      obtain ⟨c0, c1, c2, c3, c4, c5, c6, c7, c8, c9, c10, c11, c12, c13, c14, c15⟩ := hc16x.below hpbx kb0
      have HXx := Lib.hid hxx
      clear hxx hszx hc16x
      simp only [] at c0 c1 c2 c3 c4 c5 c6 c7 c8 c9 c10 c11 c12 c13 c14 c15
      cases he : stEq ⟨⟨xs, xe, xm, xa, xk, xc⟩, xh, xi, ⟨xp, xv, xo, xg⟩, ⟨xq, xu, xr, xt⟩⟩ ⟨⟨ys, ye, ym, ya, yk, yc⟩, yh, yi, ⟨yp, yv, yo, yg⟩, ⟨yq, yu, yr, yt⟩⟩ with
      | true =>
        as_aux_lemma =>
          have qe : ∀ W, (binOp .eql 43 (.agg #[.string xs, .int .i64 xe, .int .i64 xm, .bool xa, .int .i64 xk, .int .i64 xc, .bool xh, .int .i64 xi, .bool xp, .int .i64 xv, .int .i64 xo, .int .i64 xg, .bool xq, .int .i64 xu, .int .i64 xr, .int .i64 xt]) (.agg #[.string ys, .int .i64 ye, .int .i64 ym, .bool ya, .int .i64 yk, .int .i64 yc, .bool yh, .int .i64 yi, .bool yp, .int .i64 yv, .int .i64 yo, .int .i64 yg, .bool yq, .int .i64 yu, .int .i64 yr, .int .i64 yt])).run Try.prog W = .ok (.bool true) W := fun W => by rw [eql_state ⟨⟨xs, xe, xm, xa, xk, xc⟩, xh, xi, ⟨xp, xv, xo, xg⟩, ⟨xq, xu, xr, xt⟩⟩ ⟨⟨ys, ye, ym, ya, yk, yc⟩, yh, yi, ⟨yp, yv, yo, yg⟩, ⟨yq, yu, yr, yt⟩⟩ W, he]
          go_wp2_with (fail)
          go_quiet (fail)
          go_wp2
          go_ret
          exact ⟨rfl, (by repeat (first | with_reducible refine Below.setCell ?_ (by first | (simp; done) | (simp; omega) | omega) _ | with_reducible refine Below.alloc ?_ (by first | (simp; done) | (simp; omega) | omega) _ | with_reducible refine Below.drew ?_ | with_reducible refine below_drewN ?_ _ | with_reducible exact Below.refl _ _ | with_reducible refine Below.trans ?_ (Below.mono kb0 (by first | (simp; done) | (simp; omega) | omega))))⟩
      | false =>
        as_aux_lemma =>
          have qe : ∀ W, (binOp .eql 43 (.agg #[.string xs, .int .i64 xe, .int .i64 xm, .bool xa, .int .i64 xk, .int .i64 xc, .bool xh, .int .i64 xi, .bool xp, .int .i64 xv, .int .i64 xo, .int .i64 xg, .bool xq, .int .i64 xu, .int .i64 xr, .int .i64 xt]) (.agg #[.string ys, .int .i64 ye, .int .i64 ym, .bool ya, .int .i64 yk, .int .i64 yc, .bool yh, .int .i64 yi, .bool yp, .int .i64 yv, .int .i64 yo, .int .i64 yg, .bool yq, .int .i64 yu, .int .i64 yr, .int .i64 yt])).run Try.prog W = .ok (.bool false) W := fun W => by rw [eql_state ⟨⟨xs, xe, xm, xa, xk, xc⟩, xh, xi, ⟨xp, xv, xo, xg⟩, ⟨xq, xu, xr, xt⟩⟩ ⟨⟨ys, ye, ym, ya, yk, yc⟩, yh, yi, ⟨yp, yv, yo, yg⟩, ⟨yq, yu, yr, yt⟩⟩ W, he]
          have HN : Hid (∀ z ∈ rs.take (k + 1), z ≠ ⟨⟨ys, ye, ym, ya, yk, yc⟩, yh, yi, ⟨yp, yv, yo, yg⟩, ⟨yq, yu, yr, yt⟩⟩) := Lib.hid (by
            intro z hz
            rw [List.take_add_one, HXx.out] at hz
            rcases List.mem_append.1 hz with hz | hz
            · exact HA.out z hz
            · simp only [Option.toList_some, List.mem_singleton] at hz
              subst hz
              exact stEq_ne he)
          clear he
          go_wp2_with (fail)
          go_quiet (fail)
          go_wp2
          go_roundw
          case rel => exact ⟨k + 1, by omega, by go_num, HN, by first | exact HK0.out | exact KeptC.below HK0.out (by repeat (first | with_reducible refine Below.setCell ?_ (by first | (simp; done) | (simp; omega) | omega) _ | with_reducible refine Below.alloc ?_ (by first | (simp; done) | (simp; omega) | omega) _ | with_reducible refine Below.drew ?_ | with_reducible refine below_drewN ?_ _ | with_reducible exact Below.refl _ _))⟩
          case measure => simp [intOf]; omega
set_option maxRecDepth 100000 in
set_option maxHeartbeats 40000000 in
theorem chansKeeps_any (id : Int) (A : Option Addr) (n cp : Nat) (rs : List St) (nm : ByteArray) (kk vv : Int) (s : ByteArray) (e m : Int) (al : Bool) (k0 sc : Int) (w : World) (hnz : nm.size ≤ maxLen) (hs : s.size ≤ maxLen) (hr : StsAt w w.heap.size A n rs) (hm : n * 136 ≤ 140737488351232) :
    Calls Try.prog 7 #[.int .i64 id, .slice A n cp, .string nm, .int .i64 kk, .int .i64 vv, .agg #[.string s, .int .i64 e, .int .i64 m, .bool al, .int .i64 k0, .int .i64 sc]] w fun x w' => x = .returned (.bool true) ∧ Below w.heap.size w w' := by
  have HR := Lib.hid hr
  clear hr
  have f2 := fun W (hb : Below w.heap.size w W) => srfit_any id A n cp rs W ((HR.out.below hb).more hb.size) hm
  have fc := fun W => rfit_any s e m al k0 sc hs W
  obtain ⟨q1, hq1⟩ : ∃ b, stsB id rs = b := ⟨_, rfl⟩
  obtain ⟨q2, hq2⟩ : ∃ b, chFit s e m k0 sc = b := ⟨_, rfl⟩
  rw [hq1] at f2
  rw [hq2] at fc
  have F2 := Lib.hid f2; have FC := Lib.hid fc; have HQ1 := Lib.hid hq1; have HQ2 := Lib.hid hq2
  clear f2 fc hq1 hq2
  go_enter Try.func7, Try.ntmps7
  go_wp2_with (fail)
  refine (F2.out _ (by repeat (first | with_reducible refine Below.setCell ?_ (by first | (simp; done) | (simp; omega) | omega) _ | with_reducible refine Below.alloc ?_ (by first | (simp; done) | (simp; omega) | omega) _ | with_reducible refine Below.drew ?_ | with_reducible refine below_drewN ?_ _ | with_reducible exact Below.refl _ _))).mono ?_; rintro x w1 ⟨rfl, hb1⟩
  have K_w1 : KeptC w [(⟨w.heap.size, 0, none⟩, .string s), (⟨w.heap.size, 1, none⟩, .int .i64 e), (⟨w.heap.size, 2, none⟩, .int .i64 m), (⟨w.heap.size, 3, none⟩, .bool al), (⟨w.heap.size, 4, none⟩, .int .i64 k0), (⟨w.heap.size, 5, none⟩, .int .i64 sc)] [] w1 := KeptC.below (by (repeat' (first | refine KeptC.cons ?_ ?_ | refine KeptC.consF ?_ ?_ ?_ | refine KeptC.mk0 ?_)); all_goals (first | with_reducible assumption | (go_simp; done) | (simp; omega) | exact (by repeat (first | with_reducible refine Below.setCell ?_ (by first | (simp; done) | (simp; omega) | omega) _ | with_reducible refine Below.alloc ?_ (by first | (simp; done) | (simp; omega) | omega) _ | with_reducible refine Below.drew ?_ | with_reducible refine below_drewN ?_ _ | with_reducible exact Below.refl _ _)))) hb1
  clear hb1
  cases q1 with
  | false =>
    have kb1 := K_w1.low
    have hs1 := kb1.size
    go_wp2_with (fail)
    refine (awake_any _).mono ?_; rintro x w2 ⟨rfl, hb2⟩
    go_wp2
    go_ret
    exact ⟨rfl, (by repeat (first | with_reducible refine Below.setCell ?_ (by first | (simp; done) | (simp; omega) | omega) _ | with_reducible refine Below.alloc ?_ (by first | (simp; done) | (simp; omega) | omega) _ | with_reducible refine Below.drew ?_ | with_reducible refine below_drewN ?_ _ | with_reducible exact Below.refl _ _ | with_reducible refine Below.trans ?_ (Below.mono hb2 (by first | (simp; done) | (simp; omega) | omega)) | with_reducible refine Below.trans ?_ (Below.mono kb1 (by first | (simp; done) | (simp; omega) | omega))))⟩
  | true =>
  have hk1 := K_w1; simp only [KeptC, List.forall_mem_cons] at hk1; go_split_ands
  go_wp2_with (fail)
  refine (FC.out _).mono ?_; rintro x w2 ⟨rfl, hb2⟩
  have K_w2 := K_w1.below hb2
  clear hb2
  cases q2 with
  | false =>
    have kb2 := K_w2.low
    have hs2 := kb2.size
    go_wp2_with (fail)
    refine (awake_any _).mono ?_; rintro x w3 ⟨rfl, hb3⟩
    go_wp2
    go_ret
    exact ⟨rfl, (by repeat (first | with_reducible refine Below.setCell ?_ (by first | (simp; done) | (simp; omega) | omega) _ | with_reducible refine Below.alloc ?_ (by first | (simp; done) | (simp; omega) | omega) _ | with_reducible refine Below.drew ?_ | with_reducible refine below_drewN ?_ _ | with_reducible exact Below.refl _ _ | with_reducible refine Below.trans ?_ (Below.mono hb3 (by first | (simp; done) | (simp; omega) | omega)) | with_reducible refine Below.trans ?_ (Below.mono kb2 (by first | (simp; done) | (simp; omega) | omega))))⟩
  | true =>
  have HL := Lib.hid HR.out.len
  have HN1 : Hid (∀ y ∈ (stCre rs id nm kk vv).1, y.ch.name.size ≤ maxLen) := Lib.hid (cre_nms hnz HR.out.2)
  have p1 := fun W (hb : Below w.heap.size w W) => screate_any A n cp rs id nm kk vv W hnz ((HR.out.below hb).more hb.size) (sts_fits HQ1.out) hm
  have PA1 := Lib.hid p1
  clear p1
  have HN2 : Hid (∀ y ∈ (stDel rs id nm).1, y.ch.name.size ≤ maxLen) := Lib.hid (del_nms HR.out.2)
  have p2 := fun W (hb : Below w.heap.size w W) => sdelete_any A n cp rs id nm W hnz ((HR.out.below hb).more hb.size) (sts_fits HQ1.out) hm
  have PA2 := Lib.hid p2
  clear p2
  have HN3 : Hid (∀ y ∈ (setR id rs nm vv).1, y.ch.name.size ≤ maxLen) := Lib.hid (set_nms HR.out.2)
  have p3 := fun W (hb : Below w.heap.size w W) => sset_any A n cp rs id nm vv W ((HR.out.below hb).more hb.size) hm (sts_kind HQ1.out) (sts_ext HQ1.out) (sts_id HQ1.out).1 (sts_id HQ1.out).2
  have PA3 := Lib.hid p3
  clear p3
  have HN4 : Hid (∀ y ∈ (stLrn rs ⟨s, e, m, al, k0, sc⟩).1, y.ch.name.size ≤ maxLen) := Lib.hid (lrn_names hs HR.out.2)
  have p4 := fun W (hb : Below w.heap.size w W) => slearn_any A n cp rs s e m al k0 sc W hs ((HR.out.below hb).more hb.size) (sts_fits HQ1.out) hm
  have PA4 := Lib.hid p4
  clear p4
  have HM1 : Hid ((stCre rs id nm kk vv).1.length * 136 ≤ 140737488351232) := Lib.hid (sts_len (cre_fit HQ1.out))
  have HM2 : Hid ((stDel rs id nm).1.length * 136 ≤ 140737488351232) := Lib.hid (sts_len (del_fit HQ1.out))
  have HM3 : Hid ((setR id rs nm vv).1.length * 136 ≤ 140737488351232) := Lib.hid (sts_len (set_fit HQ1.out))
  have HM4 : Hid ((stLrn rs ⟨s, e, m, al, k0, sc⟩).1.length * 136 ≤ 140737488351232) := Lib.hid (sts_len (lrn_fit HQ1.out HQ2.out))
  have HE1 : Hid (∀ x ∈ rs, eqN x.ch.name nm = false → x ∈ (stCre rs id nm kk vv).1 ∧ x ∈ (stDel rs id nm).1 ∧ x ∈ (setR id rs nm vv).1) := Lib.hid (fun x hx hn => ⟨keep_cre hx hn, keep_del hx hn, keep_set hx hn⟩)
  have HE2 : Hid (∀ x ∈ rs, eqN x.ch.name s = false → x ∈ (stLrn rs ⟨s, e, m, al, k0, sc⟩).1) := Lib.hid (fun x hx hn => keep_lrn hx hn)
  have HF3 : Hid (stsB id (setR id rs nm vv).1 = true) := Lib.hid (set_fit HQ1.out)
  have HS3 : Hid ((setR id rs nm vv).2 = 0 → ∃ y, findS (setR id rs nm vv).1 nm = some y ∧ y.has = true) := Lib.hid set_found
  obtain ⟨L1, er1, hres1⟩ : ∃ a b, stCre rs id nm kk vv = (a, b) := ⟨_, _, rfl⟩
  obtain ⟨L2, er2, hres2⟩ : ∃ a b, stDel rs id nm = (a, b) := ⟨_, _, rfl⟩
  obtain ⟨L3, er3, hres3⟩ : ∃ a b, setR id rs nm vv = (a, b) := ⟨_, _, rfl⟩
  obtain ⟨L4, ok4, hres4⟩ : ∃ a b, stLrn rs ⟨s, e, m, al, k0, sc⟩ = (a, b) := ⟨_, _, rfl⟩
  rw [hres1, hres2, hres3] at HE1
  rw [hres1] at HN1 PA1 HM1
  rw [hres2] at HN2 PA2 HM2
  rw [hres3] at HN3 PA3 HM3 HF3 HS3
  rw [hres4] at HN4 PA4 HM4 HE2
  simp only [] at HN1 PA1 HM1 HN2 PA2 HM2 HN3 PA3 HM3 HN4 PA4 HM4 HE1 HE2 HF3 HS3
  clear hres1 hres2 hres3 hres4
  have kw_w2 : Below w.heap.size w w2 := K_w2.low
  go_wp2_with (fail)
  refine (PA1.out _ kw_w2).mono ?_; rintro e w3 ⟨lv3, rfl, hown3, hb3⟩
  have kw_w3 : Below w.heap.size w w3 := kw_w2.trans (hb3.mono kw_w2.size)
  have K_w3 := K_w2.below hb3
  obtain ⟨A3, c3, rfl, hat3⟩ := hown3.at_ HN1.out
  have T3 := Lib.hid hat3
  clear hat3 hown3
  have kw3_w3 : Below w3.heap.size w3 w3 := Below.refl _ _
  clear hb3 kw_w2
  go_wp2_with (fail)
  refine (PA2.out _ kw_w3).mono ?_; rintro e w4 ⟨lv4, rfl, hown4, hb4⟩
  have kw_w4 : Below w.heap.size w w4 := kw_w3.trans (hb4.mono kw_w3.size)
  have kw3_w4 : Below w3.heap.size w3 w4 := kw3_w3.trans (hb4.mono kw3_w3.size)
  have K_w4 := K_w3.below hb4
  obtain ⟨A4, c4, rfl, hat4⟩ := hown4.at_ HN2.out
  have T4 := Lib.hid hat4
  clear hat4 hown4
  have kw4_w4 : Below w4.heap.size w4 w4 := Below.refl _ _
  clear hb4 kw_w3 kw3_w3
  go_wp2_with (fail)
  refine (PA3.out _ kw_w4).mono ?_; rintro e w5 ⟨lv5, rfl, hown5, hb5⟩
  have kw_w5 : Below w.heap.size w w5 := kw_w4.trans (hb5.mono kw_w4.size)
  have kw3_w5 : Below w3.heap.size w3 w5 := kw3_w4.trans (hb5.mono kw3_w4.size)
  have kw4_w5 : Below w4.heap.size w4 w5 := kw4_w4.trans (hb5.mono kw4_w4.size)
  have K_w5 := K_w4.below hb5
  obtain ⟨A5, c5, rfl, hat5⟩ := hown5.at_n
  have T5 := Lib.hid hat5
  clear hat5 hown5
  have kw5_w5 : Below w5.heap.size w5 w5 := Below.refl _ _
  clear hb5 kw_w4 kw3_w4 kw4_w4
  have hkw5 := K_w5; simp only [KeptC, List.forall_mem_cons] at hkw5; go_split_ands
  go_wp2_with (fail)
  refine (PA4.out _ kw_w5).mono ?_; rintro e w6 ⟨lv6, rfl, hown6, hb6⟩
  have kw_w6 : Below w.heap.size w w6 := kw_w5.trans (hb6.mono kw_w5.size)
  have kw3_w6 : Below w3.heap.size w3 w6 := kw3_w5.trans (hb6.mono kw3_w5.size)
  have kw4_w6 : Below w4.heap.size w4 w6 := kw4_w5.trans (hb6.mono kw4_w5.size)
  have kw5_w6 : Below w5.heap.size w5 w6 := kw5_w5.trans (hb6.mono kw5_w5.size)
  have K_w6 := K_w5.below hb6
  obtain ⟨A6, c6, rfl, hat6⟩ := hown6.at_ HN4.out
  have T6 := Lib.hid hat6
  clear hat6 hown6
  have kw6_w6 : Below w6.heap.size w6 w6 := Below.refl _ _
  clear hb6 kw_w5 kw3_w5 kw4_w5 kw5_w5
  -- TIME a
  go_wp2_with (fail)
  -- TIME b
  go_loopw [21] (fun i w' => ∃ (k : Nat), k ≤ n ∧ i = .int .i64 k ∧ Hid (Below w3.heap.size w3 w' ∧ Below w4.heap.size w4 w' ∧ Below w5.heap.size w5 w' ∧ Below w6.heap.size w6 w') ∧ KeptC w [(⟨w.heap.size, 0, none⟩, .string s), (⟨w.heap.size, 1, none⟩, .int .i64 e), (⟨w.heap.size, 2, none⟩, .int .i64 m), (⟨w.heap.size, 3, none⟩, .bool al), (⟨w.heap.size, 4, none⟩, .int .i64 k0), (⟨w.heap.size, 5, none⟩, .int .i64 sc)] [] w') (fun i _ => n - (intOf i).toNat)
  case atStart => exact ⟨0, Nat.zero_le _, rfl, Lib.hid ⟨kw3_w6, kw4_w6, kw5_w6, kw6_w6⟩, K_w6⟩
  case round =>
    -- TIME c
    obtain ⟨k, hk, rfl, HB, hK⟩ := hrel
    clear kw_w6 kw3_w6 kw4_w6 kw5_w6 kw6_w6 K_w6
    obtain ⟨R0b3, R0b4, R0b5, R0b6⟩ := HB.out
    have R0K := hK
    have R0b : Below w.heap.size w wr := hK.low
    by_cases hlt : k < n
    · obtain ⟨adx, yx, hAx, habx, hxx, hszx, hc16x⟩ := HR.out.get hlt
      subst hAx
      obtain ⟨p, hpx⟩ : ∃ p, adx.add (k * 16) = p := ⟨_, rfl⟩
      have hpbx : p.block < w.heap.size := by rw [← hpx, block_of_add]; exact habx
      rw [hpx] at hc16x
      have hwsx : w.heap.size ≤ wr.heap.size := R0b.size
      have hpwx : p.block < wr.heap.size := by omega
      obtain ⟨⟨xs, xe, xm, xa, xk, xc⟩, xh, xi, ⟨xp, xv, xo, xg⟩, ⟨xq, xu, xr, xt⟩⟩ := yx
      have H16 := Lib.hid hc16x
      obtain ⟨ec0, ec1, ec2, ec3, ec4, ec5, ec6, ec7, ec8, ec9, ec10, ec11, ec12, ec13, ec14, ec15⟩ := hc16x.below hpbx R0b
      have HXx := Lib.hid hxx
      have kc0_0 := hK.2.1 _ (List.mem_cons_self ..)
      clear hxx hszx hc16x hK
      simp only [] at ec0 ec1 ec2 ec3 ec4 ec5 ec6 ec7 ec8 ec9 ec10 ec11 ec12 ec13 ec14 ec15 kc0_0
      -- TIME d
      cases ha : (xs.toList == nm.toList) with
      | true =>
        cases hb : (xs.toList == s.toList) with
        | true =>
          as_aux_lemma =>
            go_wp2
            go_roundw
            case rel => exact ⟨k + 1, by omega, by go_num, Lib.hid ⟨R0b3, R0b4, R0b5, R0b6⟩, R0K⟩
            case measure => simp [intOf]; omega
          -- TIME e
        | false =>
          have HNB : Hid (eqN xs s = false) := Lib.hid hb
          as_aux_lemma =>
            go_wp2_with (fail)
            refine (has_in A6 L4.length c6 L4 ⟨⟨xs, xe, xm, xa, xk, xc⟩, xh, xi, ⟨xp, xv, xo, xg⟩, ⟨xq, xu, xr, xt⟩⟩ _ ((T6.out.below R0b6).more R0b6.size) HM4.out (HE2.out _ (List.mem_of_getElem? HXx.out) HNB.out)).mono ?_; rintro e w20 ⟨rfl, hb20⟩
            have R20K := R0K.below hb20
            have R20b3 : Below w3.heap.size w3 w20 := R0b3.trans (hb20.mono R0b3.size)
            have R20b4 : Below w4.heap.size w4 w20 := R0b4.trans (hb20.mono R0b4.size)
            have R20b5 : Below w5.heap.size w5 w20 := R0b5.trans (hb20.mono R0b5.size)
            have R20b6 : Below w6.heap.size w6 w20 := R0b6.trans (hb20.mono R0b6.size)
            have R20b : Below w.heap.size w w20 := R20K.low
            have R20s := R20b.size
            clear hb20 R0K R0b3 R0b4 R0b5 R0b6 R0b ec0 ec1 ec2 ec3 ec4 ec5 ec6 ec7 ec8 ec9 ec10 ec11 ec12 ec13 ec14 ec15 kc0_0
            obtain ⟨z0, z1, z2, z3, z4, z5, z6, z7, z8, z9, z10, z11, z12, z13, z14, z15⟩ := H16.out.below hpbx R20b
            have zc0 := R20K.2.1 _ (List.mem_cons_self ..)
            simp only [] at z0 z1 z2 z3 z4 z5 z6 z7 z8 z9 z10 z11 z12 z13 z14 z15 zc0
            have hpz : p.block < w20.heap.size := by omega
            as_aux_lemma =>
              go_wp2
              go_roundw
              case rel => exact ⟨k + 1, by omega, by go_num, Lib.hid ⟨R20b3, R20b4, R20b5, R20b6⟩, R20K⟩
              case measure => simp [intOf]; omega
          -- TIME f
      | false =>
        have HNA : Hid (eqN xs nm = false) := Lib.hid ha
        cases hb : (xs.toList == s.toList) with
        | true =>
          as_aux_lemma =>
            go_wp2_with (fail)
            refine (has_in A3 L1.length c3 L1 ⟨⟨xs, xe, xm, xa, xk, xc⟩, xh, xi, ⟨xp, xv, xo, xg⟩, ⟨xq, xu, xr, xt⟩⟩ _ ((T3.out.below R0b3).more R0b3.size) HM1.out ((HE1.out _ (List.mem_of_getElem? HXx.out) HNA.out).1)).mono ?_; rintro e w20 ⟨rfl, hb20⟩
            have R20K := R0K.below hb20
            have R20b3 : Below w3.heap.size w3 w20 := R0b3.trans (hb20.mono R0b3.size)
            have R20b4 : Below w4.heap.size w4 w20 := R0b4.trans (hb20.mono R0b4.size)
            have R20b5 : Below w5.heap.size w5 w20 := R0b5.trans (hb20.mono R0b5.size)
            have R20b6 : Below w6.heap.size w6 w20 := R0b6.trans (hb20.mono R0b6.size)
            have R20b : Below w.heap.size w w20 := R20K.low
            have R20s := R20b.size
            clear hb20 R0K R0b3 R0b4 R0b5 R0b6 R0b ec0 ec1 ec2 ec3 ec4 ec5 ec6 ec7 ec8 ec9 ec10 ec11 ec12 ec13 ec14 ec15 kc0_0
            obtain ⟨z0, z1, z2, z3, z4, z5, z6, z7, z8, z9, z10, z11, z12, z13, z14, z15⟩ := H16.out.below hpbx R20b
            have zc0 := R20K.2.1 _ (List.mem_cons_self ..)
            simp only [] at z0 z1 z2 z3 z4 z5 z6 z7 z8 z9 z10 z11 z12 z13 z14 z15 zc0
            have hpz : p.block < w20.heap.size := by omega
            as_aux_lemma =>
              go_wp2_with (fail)
              refine (has_in A4 L2.length c4 L2 ⟨⟨xs, xe, xm, xa, xk, xc⟩, xh, xi, ⟨xp, xv, xo, xg⟩, ⟨xq, xu, xr, xt⟩⟩ _ ((T4.out.below R20b4).more R20b4.size) HM2.out ((HE1.out _ (List.mem_of_getElem? HXx.out) HNA.out).2.1)).mono ?_; rintro e w21 ⟨rfl, hb21⟩
              have R21K := R20K.below hb21
              have R21b3 : Below w3.heap.size w3 w21 := R20b3.trans (hb21.mono R20b3.size)
              have R21b4 : Below w4.heap.size w4 w21 := R20b4.trans (hb21.mono R20b4.size)
              have R21b5 : Below w5.heap.size w5 w21 := R20b5.trans (hb21.mono R20b5.size)
              have R21b6 : Below w6.heap.size w6 w21 := R20b6.trans (hb21.mono R20b6.size)
              have R21b : Below w.heap.size w w21 := R21K.low
              have R21s := R21b.size
              clear hb21 R20K R20b3 R20b4 R20b5 R20b6 R20b z0 z1 z2 z3 z4 z5 z6 z7 z8 z9 z10 z11 z12 z13 z14 z15
              obtain ⟨z0, z1, z2, z3, z4, z5, z6, z7, z8, z9, z10, z11, z12, z13, z14, z15⟩ := H16.out.below hpbx R21b
              have zc0 := R21K.2.1 _ (List.mem_cons_self ..)
              simp only [] at z0 z1 z2 z3 z4 z5 z6 z7 z8 z9 z10 z11 z12 z13 z14 z15 zc0
              have hpz : p.block < w21.heap.size := by omega
              as_aux_lemma =>
                go_wp2_with (fail)
                refine (has_in A5 L3.length c5 L3 ⟨⟨xs, xe, xm, xa, xk, xc⟩, xh, xi, ⟨xp, xv, xo, xg⟩, ⟨xq, xu, xr, xt⟩⟩ _ ((T5.out.below R21b5).more R21b5.size) HM3.out ((HE1.out _ (List.mem_of_getElem? HXx.out) HNA.out).2.2)).mono ?_; rintro e w22 ⟨rfl, hb22⟩
                have R22K := R21K.below hb22
                have R22b3 : Below w3.heap.size w3 w22 := R21b3.trans (hb22.mono R21b3.size)
                have R22b4 : Below w4.heap.size w4 w22 := R21b4.trans (hb22.mono R21b4.size)
                have R22b5 : Below w5.heap.size w5 w22 := R21b5.trans (hb22.mono R21b5.size)
                have R22b6 : Below w6.heap.size w6 w22 := R21b6.trans (hb22.mono R21b6.size)
                have R22b : Below w.heap.size w w22 := R22K.low
                have R22s := R22b.size
                clear hb22 R21K R21b3 R21b4 R21b5 R21b6 R21b z0 z1 z2 z3 z4 z5 z6 z7 z8 z9 z10 z11 z12 z13 z14 z15
                obtain ⟨z0, z1, z2, z3, z4, z5, z6, z7, z8, z9, z10, z11, z12, z13, z14, z15⟩ := H16.out.below hpbx R22b
                have zc0 := R22K.2.1 _ (List.mem_cons_self ..)
                simp only [] at z0 z1 z2 z3 z4 z5 z6 z7 z8 z9 z10 z11 z12 z13 z14 z15 zc0
                have hpz : p.block < w22.heap.size := by omega
                as_aux_lemma =>
                  go_wp2
                  go_roundw
                  case rel => exact ⟨k + 1, by omega, by go_num, Lib.hid ⟨R22b3, R22b4, R22b5, R22b6⟩, R22K⟩
                  case measure => simp [intOf]; omega
          -- TIME g
        | false =>
          have HNB : Hid (eqN xs s = false) := Lib.hid hb
          as_aux_lemma =>
            go_wp2_with (fail)
            refine (has_in A3 L1.length c3 L1 ⟨⟨xs, xe, xm, xa, xk, xc⟩, xh, xi, ⟨xp, xv, xo, xg⟩, ⟨xq, xu, xr, xt⟩⟩ _ ((T3.out.below R0b3).more R0b3.size) HM1.out ((HE1.out _ (List.mem_of_getElem? HXx.out) HNA.out).1)).mono ?_; rintro e w20 ⟨rfl, hb20⟩
            have R20K := R0K.below hb20
            have R20b3 : Below w3.heap.size w3 w20 := R0b3.trans (hb20.mono R0b3.size)
            have R20b4 : Below w4.heap.size w4 w20 := R0b4.trans (hb20.mono R0b4.size)
            have R20b5 : Below w5.heap.size w5 w20 := R0b5.trans (hb20.mono R0b5.size)
            have R20b6 : Below w6.heap.size w6 w20 := R0b6.trans (hb20.mono R0b6.size)
            have R20b : Below w.heap.size w w20 := R20K.low
            have R20s := R20b.size
            clear hb20 R0K R0b3 R0b4 R0b5 R0b6 R0b ec0 ec1 ec2 ec3 ec4 ec5 ec6 ec7 ec8 ec9 ec10 ec11 ec12 ec13 ec14 ec15 kc0_0
            obtain ⟨z0, z1, z2, z3, z4, z5, z6, z7, z8, z9, z10, z11, z12, z13, z14, z15⟩ := H16.out.below hpbx R20b
            have zc0 := R20K.2.1 _ (List.mem_cons_self ..)
            simp only [] at z0 z1 z2 z3 z4 z5 z6 z7 z8 z9 z10 z11 z12 z13 z14 z15 zc0
            have hpz : p.block < w20.heap.size := by omega
            as_aux_lemma =>
              go_wp2_with (fail)
              refine (has_in A4 L2.length c4 L2 ⟨⟨xs, xe, xm, xa, xk, xc⟩, xh, xi, ⟨xp, xv, xo, xg⟩, ⟨xq, xu, xr, xt⟩⟩ _ ((T4.out.below R20b4).more R20b4.size) HM2.out ((HE1.out _ (List.mem_of_getElem? HXx.out) HNA.out).2.1)).mono ?_; rintro e w21 ⟨rfl, hb21⟩
              have R21K := R20K.below hb21
              have R21b3 : Below w3.heap.size w3 w21 := R20b3.trans (hb21.mono R20b3.size)
              have R21b4 : Below w4.heap.size w4 w21 := R20b4.trans (hb21.mono R20b4.size)
              have R21b5 : Below w5.heap.size w5 w21 := R20b5.trans (hb21.mono R20b5.size)
              have R21b6 : Below w6.heap.size w6 w21 := R20b6.trans (hb21.mono R20b6.size)
              have R21b : Below w.heap.size w w21 := R21K.low
              have R21s := R21b.size
              clear hb21 R20K R20b3 R20b4 R20b5 R20b6 R20b z0 z1 z2 z3 z4 z5 z6 z7 z8 z9 z10 z11 z12 z13 z14 z15
              obtain ⟨z0, z1, z2, z3, z4, z5, z6, z7, z8, z9, z10, z11, z12, z13, z14, z15⟩ := H16.out.below hpbx R21b
              have zc0 := R21K.2.1 _ (List.mem_cons_self ..)
              simp only [] at z0 z1 z2 z3 z4 z5 z6 z7 z8 z9 z10 z11 z12 z13 z14 z15 zc0
              have hpz : p.block < w21.heap.size := by omega
              as_aux_lemma =>
                go_wp2_with (fail)
                refine (has_in A5 L3.length c5 L3 ⟨⟨xs, xe, xm, xa, xk, xc⟩, xh, xi, ⟨xp, xv, xo, xg⟩, ⟨xq, xu, xr, xt⟩⟩ _ ((T5.out.below R21b5).more R21b5.size) HM3.out ((HE1.out _ (List.mem_of_getElem? HXx.out) HNA.out).2.2)).mono ?_; rintro e w22 ⟨rfl, hb22⟩
                have R22K := R21K.below hb22
                have R22b3 : Below w3.heap.size w3 w22 := R21b3.trans (hb22.mono R21b3.size)
                have R22b4 : Below w4.heap.size w4 w22 := R21b4.trans (hb22.mono R21b4.size)
                have R22b5 : Below w5.heap.size w5 w22 := R21b5.trans (hb22.mono R21b5.size)
                have R22b6 : Below w6.heap.size w6 w22 := R21b6.trans (hb22.mono R21b6.size)
                have R22b : Below w.heap.size w w22 := R22K.low
                have R22s := R22b.size
                clear hb22 R21K R21b3 R21b4 R21b5 R21b6 R21b z0 z1 z2 z3 z4 z5 z6 z7 z8 z9 z10 z11 z12 z13 z14 z15
                obtain ⟨z0, z1, z2, z3, z4, z5, z6, z7, z8, z9, z10, z11, z12, z13, z14, z15⟩ := H16.out.below hpbx R22b
                have zc0 := R22K.2.1 _ (List.mem_cons_self ..)
                simp only [] at z0 z1 z2 z3 z4 z5 z6 z7 z8 z9 z10 z11 z12 z13 z14 z15 zc0
                have hpz : p.block < w22.heap.size := by omega
                as_aux_lemma =>
                  go_wp2_with (fail)
                  refine (has_in A6 L4.length c6 L4 ⟨⟨xs, xe, xm, xa, xk, xc⟩, xh, xi, ⟨xp, xv, xo, xg⟩, ⟨xq, xu, xr, xt⟩⟩ _ ((T6.out.below R22b6).more R22b6.size) HM4.out (HE2.out _ (List.mem_of_getElem? HXx.out) HNB.out)).mono ?_; rintro e w23 ⟨rfl, hb23⟩
                  have R23K := R22K.below hb23
                  have R23b3 : Below w3.heap.size w3 w23 := R22b3.trans (hb23.mono R22b3.size)
                  have R23b4 : Below w4.heap.size w4 w23 := R22b4.trans (hb23.mono R22b4.size)
                  have R23b5 : Below w5.heap.size w5 w23 := R22b5.trans (hb23.mono R22b5.size)
                  have R23b6 : Below w6.heap.size w6 w23 := R22b6.trans (hb23.mono R22b6.size)
                  have R23b : Below w.heap.size w w23 := R23K.low
                  have R23s := R23b.size
                  clear hb23 R22K R22b3 R22b4 R22b5 R22b6 R22b z0 z1 z2 z3 z4 z5 z6 z7 z8 z9 z10 z11 z12 z13 z14 z15
                  obtain ⟨z0, z1, z2, z3, z4, z5, z6, z7, z8, z9, z10, z11, z12, z13, z14, z15⟩ := H16.out.below hpbx R23b
                  have zc0 := R23K.2.1 _ (List.mem_cons_self ..)
                  simp only [] at z0 z1 z2 z3 z4 z5 z6 z7 z8 z9 z10 z11 z12 z13 z14 z15 zc0
                  have hpz : p.block < w23.heap.size := by omega
                  as_aux_lemma =>
                    go_wp2
                    go_roundw
                    case rel => exact ⟨k + 1, by omega, by go_num, Lib.hid ⟨R23b3, R23b4, R23b5, R23b6⟩, R23K⟩
                    case measure => simp [intOf]; omega
          -- TIME h
    · obtain rfl : k = n := by omega
      clear R0b3 R0b4 R0b6
      by_cases her : er3 = 0
      rotate_left
      · have hnb : (er3 != 0) = true := by simpa using her
        have hs0 := R0b.size
        go_wp2_with (fail)
        refine (awake_any _).mono ?_; rintro x w7 ⟨rfl, hb7⟩
        go_wp2
        go_ret
        exact ⟨rfl, (by repeat (first | with_reducible refine Below.setCell ?_ (by first | (simp; done) | (simp; omega) | omega) _ | with_reducible refine Below.alloc ?_ (by first | (simp; done) | (simp; omega) | omega) _ | with_reducible refine Below.drew ?_ | with_reducible refine below_drewN ?_ _ | with_reducible exact Below.refl _ _ | with_reducible refine Below.trans ?_ (Below.mono hb7 (by first | (simp; done) | (simp; omega) | omega)) | with_reducible refine Below.trans ?_ (Below.mono R0b (by first | (simp; done) | (simp; omega) | omega))))⟩
        -- TIME i
      as_aux_lemma =>
        subst her
        obtain ⟨y, hfy, hhy⟩ := HS3.out rfl
        obtain ⟨P, Q, htk⟩ := tick_same id y
        have hft := find_tick (id := id) hfy
        rw [htk] at hft
        have d1 := fun W (hb : Below w5.heap.size w5 W) => sfind_any A5 L3.length c5 L3 nm W ((T5.out.below hb).more hb.size) HM3.out
        have tk := fun W (hb : Below w5.heap.size w5 W) => stick_any A5 L3.length c5 L3 id W ((T5.out.below hb).more hb.size) HM3.out (sts_inp HF3.out) (sts_id HF3.out).1 (sts_id HF3.out).2
        rw [hfy] at d1
        simp only [Option.getD_some, Option.isSome_some] at d1
        have HFT := Lib.hid hft
        have HTN : Hid (∀ z ∈ L3.map (tickX id), z.ch.name.size ≤ maxLen) := Lib.hid (tick_names HN3.out)
        have HTM : Hid ((L3.map (tickX id)).length * 136 ≤ 140737488351232) := Lib.hid (by rw [List.length_map]; exact HM3.out)
        obtain ⟨LT, hLT⟩ : ∃ LT, L3.map (tickX id) = LT := ⟨_, rfl⟩
        rw [hLT] at tk HFT HTN HTM
        clear hLT
        obtain ⟨⟨ys, ye, ym, ya, yk, yc⟩, yh, yi, ⟨yp, yv, yo, yg⟩, ⟨yq, yu, yr, yt⟩⟩ := y
        obtain ⟨pp, pv, po, pg⟩ := P
        obtain ⟨qq, qv, qo, qg⟩ := Q
        simp only [] at hhy
        subst hhy
        simp only [] at d1 HFT
        have D1 := Lib.hid d1; have TK := Lib.hid tk
        clear d1 tk hft hfy htk
        have qc : ∀ W, (binOp .eql 38 (.agg #[.string ys, .int .i64 ye, .int .i64 ym, .bool ya, .int .i64 yk, .int .i64 yc]) (.agg #[.string ys, .int .i64 ye, .int .i64 ym, .bool ya, .int .i64 yk, .int .i64 yc])).run Try.prog W = .ok (.bool true) W := fun W => by rw [eql_chan ⟨ys, ye, ym, ya, yk, yc⟩ ⟨ys, ye, ym, ya, yk, yc⟩ W, chEq_iff.2 rfl]
        have ei : (yi == yi) = true := by simp
        have hs0 := R0b.size
        -- TIME j
        go_wp2_with (fail)
        -- TIME k
        refine (D1.out _ R0b5).mono ?_; rintro x w7 ⟨rfl, hb7⟩
        have kw7 : Below w.heap.size w w7 := R0b.trans (hb7.mono R0b.size)
        have k57 : Below w5.heap.size w5 w7 := R0b5.trans (hb7.mono R0b5.size)
        have hs7 := kw7.size
        have h57 := k57.size
        clear hb7 R0b R0b5 R0K hK HB
        -- TIME l
        go_wp2_with (fail)
        -- TIME m
        refine (TK.out _ (by repeat (first | with_reducible refine Below.setCell ?_ (by first | (simp; done) | (simp; omega) | omega) _ | with_reducible refine Below.alloc ?_ (by first | (simp; done) | (simp; omega) | omega) _ | with_reducible refine Below.drew ?_ | with_reducible refine below_drewN ?_ _ | with_reducible exact Below.refl _ _ | with_reducible refine Below.trans ?_ (Below.mono k57 (by first | (simp; done) | (simp; omega) | omega))))).mono ?_; rintro x w8 ⟨lv8, rfl, hrd8, hb8⟩
        have hy8 : w8.cell? ⟨w7.heap.size, 0, none⟩ = some (.string ys) ∧ w8.cell? ⟨w7.heap.size, 1, none⟩ = some (.int .i64 ye) ∧ w8.cell? ⟨w7.heap.size, 2, none⟩ = some (.int .i64 ym) ∧ w8.cell? ⟨w7.heap.size, 3, none⟩ = some (.bool ya) ∧ w8.cell? ⟨w7.heap.size, 4, none⟩ = some (.int .i64 yk) ∧ w8.cell? ⟨w7.heap.size, 5, none⟩ = some (.int .i64 yc) ∧ w8.cell? ⟨w7.heap.size, 6, none⟩ = some (.bool true) ∧ w8.cell? ⟨w7.heap.size, 7, none⟩ = some (.int .i64 yi) ∧ w8.cell? ⟨w7.heap.size, 8, none⟩ = some (.bool yp) ∧ w8.cell? ⟨w7.heap.size, 9, none⟩ = some (.int .i64 yv) ∧ w8.cell? ⟨w7.heap.size, 10, none⟩ = some (.int .i64 yo) ∧ w8.cell? ⟨w7.heap.size, 11, none⟩ = some (.int .i64 yg) ∧ w8.cell? ⟨w7.heap.size, 12, none⟩ = some (.bool yq) ∧ w8.cell? ⟨w7.heap.size, 13, none⟩ = some (.int .i64 yu) ∧ w8.cell? ⟨w7.heap.size, 14, none⟩ = some (.int .i64 yr) ∧ w8.cell? ⟨w7.heap.size, 15, none⟩ = some (.int .i64 yt) := ⟨(hb8.cell (p := ⟨w7.heap.size, 0, none⟩) (by first | (simp; done) | (simp; omega) | omega)).trans (by go_simp), (hb8.cell (p := ⟨w7.heap.size, 1, none⟩) (by first | (simp; done) | (simp; omega) | omega)).trans (by go_simp), (hb8.cell (p := ⟨w7.heap.size, 2, none⟩) (by first | (simp; done) | (simp; omega) | omega)).trans (by go_simp), (hb8.cell (p := ⟨w7.heap.size, 3, none⟩) (by first | (simp; done) | (simp; omega) | omega)).trans (by go_simp), (hb8.cell (p := ⟨w7.heap.size, 4, none⟩) (by first | (simp; done) | (simp; omega) | omega)).trans (by go_simp), (hb8.cell (p := ⟨w7.heap.size, 5, none⟩) (by first | (simp; done) | (simp; omega) | omega)).trans (by go_simp), (hb8.cell (p := ⟨w7.heap.size, 6, none⟩) (by first | (simp; done) | (simp; omega) | omega)).trans (by go_simp), (hb8.cell (p := ⟨w7.heap.size, 7, none⟩) (by first | (simp; done) | (simp; omega) | omega)).trans (by go_simp), (hb8.cell (p := ⟨w7.heap.size, 8, none⟩) (by first | (simp; done) | (simp; omega) | omega)).trans (by go_simp), (hb8.cell (p := ⟨w7.heap.size, 9, none⟩) (by first | (simp; done) | (simp; omega) | omega)).trans (by go_simp), (hb8.cell (p := ⟨w7.heap.size, 10, none⟩) (by first | (simp; done) | (simp; omega) | omega)).trans (by go_simp), (hb8.cell (p := ⟨w7.heap.size, 11, none⟩) (by first | (simp; done) | (simp; omega) | omega)).trans (by go_simp), (hb8.cell (p := ⟨w7.heap.size, 12, none⟩) (by first | (simp; done) | (simp; omega) | omega)).trans (by go_simp), (hb8.cell (p := ⟨w7.heap.size, 13, none⟩) (by first | (simp; done) | (simp; omega) | omega)).trans (by go_simp), (hb8.cell (p := ⟨w7.heap.size, 14, none⟩) (by first | (simp; done) | (simp; omega) | omega)).trans (by go_simp), (hb8.cell (p := ⟨w7.heap.size, 15, none⟩) (by first | (simp; done) | (simp; omega) | omega)).trans (by go_simp)⟩
        have kw8 : Below w.heap.size w w8 := (by repeat (first | with_reducible refine Below.setCell ?_ (by first | (simp; done) | (simp; omega) | omega) _ | with_reducible refine Below.alloc ?_ (by first | (simp; done) | (simp; omega) | omega) _ | with_reducible refine Below.drew ?_ | with_reducible refine below_drewN ?_ _ | with_reducible exact Below.refl _ _ | with_reducible refine Below.trans ?_ (Below.mono hb8 (by first | (simp; done) | (simp; omega) | omega)) | with_reducible refine Below.trans ?_ (Below.mono kw7 (by first | (simp; done) | (simp; omega) | omega))))
        have hs8 := kw8.size
        obtain ⟨A8, c8, rfl, hat8⟩ := hrd8.at_n
        have d2 := fun W (hb : Below w8.heap.size w8 W) => sfind_any A8 LT.length c8 LT nm W ((hat8.below hb).more hb.size) HTM.out
        rw [HFT.out] at d2
        simp only [Option.getD_some, Option.isSome_some] at d2
        have D2 := Lib.hid d2
        clear d2 hat8 hrd8 hb8 kw7
        -- TIME n
        go_wp2_with (fail)
        -- TIME o
        refine (D2.out _ (by repeat (first | with_reducible refine Below.setCell ?_ (by first | (simp; done) | (simp; omega) | omega) _ | with_reducible refine Below.alloc ?_ (by first | (simp; done) | (simp; omega) | omega) _ | with_reducible refine Below.drew ?_ | with_reducible refine below_drewN ?_ _ | with_reducible exact Below.refl _ _))).mono ?_; rintro x w9 ⟨rfl, hb9⟩
        obtain ⟨u0, u1, u2, u3, u4, u5, u6, u7, u8, u9, u10, u11, u12, u13, u14, u15⟩ := hy8
        have l8 := cell_lt u0
        have hy9 : w9.cell? ⟨w7.heap.size, 0, none⟩ = some (.string ys) ∧ w9.cell? ⟨w7.heap.size, 1, none⟩ = some (.int .i64 ye) ∧ w9.cell? ⟨w7.heap.size, 2, none⟩ = some (.int .i64 ym) ∧ w9.cell? ⟨w7.heap.size, 3, none⟩ = some (.bool ya) ∧ w9.cell? ⟨w7.heap.size, 4, none⟩ = some (.int .i64 yk) ∧ w9.cell? ⟨w7.heap.size, 5, none⟩ = some (.int .i64 yc) ∧ w9.cell? ⟨w7.heap.size, 6, none⟩ = some (.bool true) ∧ w9.cell? ⟨w7.heap.size, 7, none⟩ = some (.int .i64 yi) := ⟨(hb9.cell (p := ⟨w7.heap.size, 0, none⟩) l8).trans u0, (hb9.cell (p := ⟨w7.heap.size, 1, none⟩) l8).trans u1, (hb9.cell (p := ⟨w7.heap.size, 2, none⟩) l8).trans u2, (hb9.cell (p := ⟨w7.heap.size, 3, none⟩) l8).trans u3, (hb9.cell (p := ⟨w7.heap.size, 4, none⟩) l8).trans u4, (hb9.cell (p := ⟨w7.heap.size, 5, none⟩) l8).trans u5, (hb9.cell (p := ⟨w7.heap.size, 6, none⟩) l8).trans u6, (hb9.cell (p := ⟨w7.heap.size, 7, none⟩) l8).trans u7⟩
        have kw9 : Below w.heap.size w w9 := kw8.trans (hb9.mono kw8.size)
        have l9 := hb9.size
        have hs9 := kw9.size
        clear hb9 kw8 u0 u1 u2 u3 u4 u5 u6 u7 u8 u9 u10 u11 u12 u13 u14 u15
        obtain ⟨u0, u1, u2, u3, u4, u5, u6, u7⟩ := hy9
        simp only [] at l8
        have l79 : w7.heap.size < w9.heap.size := by omega
        -- TIME p
        go_wp2_with (fail)
        -- TIME q
        refine (awake_any _).mono ?_; rintro x w10 ⟨rfl, hb10⟩
        go_wp2
        go_ret
        exact ⟨rfl, (by repeat (first | with_reducible refine Below.setCell ?_ (by first | (simp; done) | (simp; omega) | omega) _ | with_reducible refine Below.alloc ?_ (by first | (simp; done) | (simp; omega) | omega) _ | with_reducible refine Below.drew ?_ | with_reducible refine below_drewN ?_ _ | with_reducible exact Below.refl _ _ | with_reducible refine Below.trans ?_ (Below.mono hb10 (by first | (simp; done) | (simp; omega) | omega)) | with_reducible refine Below.trans ?_ (Below.mono kw9 (by first | (simp; done) | (simp; omega) | omega))))⟩
      -- TIME r
theorem chansKeeps_lifted (os : Os) (started : os.Started) (H : Type) (enc : TypeId × Value → H) :
    ReturnsInHanded {} Try.checked os 7 .any (Rows.chansKeepsSpec.pre6 enc Try.prog Try.f7 Rows.chansKeepsRow.domain false) (Rows.chansKeepsSpec.post enc Try.prog Try.f7 false true false false) := by
  refine returnsInHanded_of_change_sized (C := Try.checked) own started (by kernel_rfl) Try.func7
    (ChangeSpec.witness6 (enc := enc) (C := Try.checked) false ⟨#[], #[.int .i64 0, .slice none 0 0, .string ⟨#[]⟩, .int .i64 0, .int .i64 0, .agg #[.string ⟨#[]⟩, .int .i64 0, .int .i64 0, .bool false, .int .i64 0, .int .i64 0]], []⟩ 8 (by kernel_rfl) (by kernel_rfl) (by kernel_rfl) (by kernel_rfl)) ?_
  intro W base args ds gs before hval hW _ hsz _
  have hW' := hW
  obtain ⟨p, q, hA, hV, rfl, hfz, hnd⟩ := hW
  obtain ⟨rfl, rfl⟩ := trodVars_none hV
  rw [Try.params7] at hA hval
  obtain ⟨v0, vs0, d0, ds0, p0, q0, hargs, rfl, rfl, h0, r0⟩ := trodAll_cons hA
  obtain ⟨v1, vs1, d1, ds1, p1, q1, rfl, rfl, rfl, h1, r1⟩ := trodAll_cons r0
  obtain ⟨v2, vs2, d2, ds2, p2, q2, rfl, rfl, rfl, h2, r2⟩ := trodAll_cons r1
  obtain ⟨v3, vs3, d3, ds3, p3, q3, rfl, rfl, rfl, h3, r3⟩ := trodAll_cons r2
  obtain ⟨v4, vs4, d4, ds4, p4, q4, rfl, rfl, rfl, h4, r4⟩ := trodAll_cons r3
  obtain ⟨v5, vs5, d5, ds5, p5, q5, rfl, rfl, rfl, h5, r5⟩ := trodAll_cons r4
  obtain ⟨rfl, rfl, rfl⟩ := trodAll_nil r5
  obtain rfl : args = #[v0, v1, v2, v3, v4, v5] := by cases args; simp_all
  obtain ⟨id, rfl, _, _, _⟩ := open_int Try.underlying3 (hval 0 _ v0 rfl rfl) h0
  obtain ⟨A, n, cp, rs, rfl, _, hr, hds⟩ := open_states (hval 1 _ v1 rfl rfl) h1
  obtain ⟨nm, rfl, _, _, wx⟩ := open_string Try.underlying9 (hval 2 _ v2 rfl rfl) h2
  obtain ⟨kk, rfl, _, _, _⟩ := open_int Try.underlying3 (hval 3 _ v3 rfl rfl) h3
  obtain ⟨vv, rfl, _, _, _⟩ := open_int Try.underlying2 (hval 4 _ v4 rfl rfl) h4
  obtain ⟨s, e, m, al, k0, sc, rfl, ws⟩ := open_chan (hval 5 _ v5 rfl rfl) h5
  refine (chansKeeps_any id A n cp rs nm kk vv s e m al k0 sc W wx ws hr (small_states hsz (j := 1) rfl rfl hds)).mono fun e W' ⟨he, hg⟩ => ?_
  subst he
  exact ⟨_, rfl, law_post laidOut rfl (by kernel_rfl) rfl Try.underlying4 rfl hW' hg⟩

theorem chansKeeps_holds : Rows.ChansKeepsSaid :=
  OpenClaim.holds_of_wide 7 Try.f7 rfl rfl rfl rfl rfl rfl rfl ⟨rfl, rfl, rfl, rfl, rfl⟩ rfl rfl rfl rfl rfl (by kernel_rfl) Try.func7 (by kernel_rfl)
    (of_decide_eq_true (by kernel_rfl)) (by unfold Func.isWrapper; first | (rw [if_pos (by decide +kernel)]; kernel_rfl) | (rw [if_neg (by decide +kernel)]; exact ⟨rfl, rfl⟩))
    (fun os started H enc _ => chansKeeps_lifted os started H enc)

end Go.Proofs.Ytfihkkamedghkaa
