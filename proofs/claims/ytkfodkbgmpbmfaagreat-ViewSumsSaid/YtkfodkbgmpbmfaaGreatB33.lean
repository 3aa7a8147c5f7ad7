/- Chapter 22, parts on the way: Wz -/
import Derived.Laws.IdiomStrings
import Derived.Deep.Cut
import Derived.Test.YtkfodkbgmpbmfaaGreatB01
import Derived.Test.YtkfodkbgmpbmfaaGreatB08
import Derived.Test.YtkfodkbgmpbmfaaGreatB14
import Derived.Test.YtkfodkbgmpbmfaaGreatB32
set_option linter.unusedVariables false
set_option linter.unusedSimpArgs false
namespace Go.Proofs.YtkfodkbgmpbmfaaGreat
open Go.Proofs.YtkfodkbgmpbmfaaGreat.Bg
open Go.RowKit Go.Shelf
set_option linter.unusedVariables false
set_option linter.unusedSimpArgs false
set_option maxRecDepth 100000
structure Sl where
 a : Option Addr
 n : Nat
 c : Nat
def encSl (x : Sl) : List Value := [.slice x.a x.n x.c]
def NdSz (y : Nd) : Prop := y.wn ≤ 70368744177664 ∧ y.sn ≤ 70368744177664 ∧ y.hn ≤ 70368744177664 ∧ y.cn * 136 ≤ 140737488351232
structure WdAll (w : World) (x : Wd) (dks : List Sl) (dgs : List Bg.Dg) (svs : List Bg.LK) : Prop where
 cells : WdAt w w.heap.size x
 dk : RowsE encSl 1 w w.heap.size x.da x.dn dks
 dg : RowsE Bg.encD 4 w w.heap.size x.la x.ll dgs
 sv : RowsE Bg.encL 2 w w.heap.size x.sa x.sl svs
 n1 : x.ll ≤ 70368744177664
 n2 : x.sl ≤ 70368744177664
 ns : ∀ y ∈ x.nds, NdSz y
 bs : ∀ d ∈ dgs, d.body.size ≤ 140737488351232
def NdDone (ups : List Bool) (i : Nat) (y : Nd) : Prop := FitNd i y ∧ (ups[i]? = some false → y.chans = [] ∧ y.halves = [] ∧ y.seen = [])
theorem fitW_of {x : Wd} (h0 : ¬ (x.nn : Int) < 1) (h1 : ¬ (16 : Int) < x.nn) (hl : x.nds.length = x.nn) (hu : x.ups.length = x.nn) (hn : ∀ (t : Nat) y, t < x.nn → x.nds[t]? = some y → NdDone x.ups t y) : FitW x :=
 ⟨by omega, by omega, by omega, fun i y hy => (hn i y (by have := (List.getElem?_eq_some_iff.1 hy).1; omega) hy).1, fun i y hy hb => (hn i y (by have := (List.getElem?_eq_some_iff.1 hy).1; omega) hy).2 hb⟩
theorem fitNd_zero {i : Nat} {y : Nd} (hi : i < 16) (h1 : y.id = i) (h2 : y.halves = []) (h3 : y.seen = []) (h4 : y.chans = []) : FitNd i y := by
 refine ⟨h1, ?_, ?_, ?_⟩
 · rw [h2]; exact ⟨List.Pairwise.nil, fun h hh => (by cases hh)⟩
 · rw [h3]; exact ⟨List.Pairwise.nil, fun h hh => (by cases hh)⟩
 · rw [h4]
   unfold stsB
   rw [decide_eq_true (show 0 ≤ (i : Int) by omega), decide_eq_true (show (i : Int) < 16 by omega)]
   rfl
theorem done_next {ups : List Bool} {nds : List Nd} {k : Nat} {y : Nd} (h : ∀ (t : Nat) y, t < k → nds[t]? = some y → NdDone ups t y) (hy : nds[k]? = some y) (hq : NdDone ups k y) : ∀ (t : Nat) y, t < k + 1 → nds[t]? = some y → NdDone ups t y := by
 intro t z ht hz
 rcases Nat.lt_or_eq_of_le (Nat.lt_succ_iff.1 ht) with h1 | h1
 · exact h t z h1 hz
 · subst h1
   rw [hy] at hz
   obtain rfl := Option.some.inj hz
   exact hq
theorem row_empty {α : Type} {enc : α → List Value} {k B : Nat} {w : World} {A : Option Addr} {rs : List α} (h : RowsE enc k w B A 0 rs) : rs = [] := List.length_eq_zero_iff.1 h.1
theorem bytes_of (W : World) (s : ByteArray) : ∃ C W3, (convert 9 77 (.string s)).run Tryz.prog W = .ok (.slice (some ⟨W.heap.size, 0, none⟩) s.size C) W3 ∧ Below W.heap.size W W3 ∧ RowsE encY8 1 W3 W3.heap.size (some ⟨W.heap.size, 0, none⟩) s.size (s.data.toList.map fun b => (b.toNat : Int)) ∧ s.size ≤ C := by
 refine ⟨_, _, run_bytes_of_string W _ _ _ s rfl rfl rfl, ?_, ?_, ?_⟩
 · exact (Below.drew (Below.refl _ _)).alloc (Nat.le_refl _) _
 · refine ⟨by rw [List.length_map, Array.length_toList]; rfl, fun _ => ⟨_, rfl, by simp, fun j x hx => ?_⟩⟩
   intro i u hu
   obtain rfl : i = 0 := by
    have := (List.getElem?_eq_some_iff.1 hu).1
    simp [encY8] at this
    omega
   simp only [encY8, List.getElem?_cons_zero, Option.some.injEq] at hu
   subst hu
   have hj : j < s.data.size := by
    have := (List.getElem?_eq_some_iff.1 hx).1
    simpa using this
   rw [Nat.mul_one, Bg.add_z, show (⟨W.heap.size, 0, none⟩ : Addr).add j = ⟨W.heap.size, j, none⟩ by unfold Addr.add; split <;> simp_all]
   have h1 := World.cell?_alloc_mark W.drew (bytesRow s (grownCap W s.size 0 5)) 5 ((bytesRow s (grownCap W s.size 0 5)).size, (bytesRow s (grownCap W s.size 0 5)).size + 1) j
   refine h1.trans ?_
   rw [bytesRow_at s _ j hj]
   rw [List.getElem?_map, List.getElem?_eq_getElem (by simpa using hj)] at hx
   simp at hx
   simp [hx]
 · exact grownCap_ge _ _ _ _
set_option maxHeartbeats 16000000 in
theorem wdfit_any (x : Wd) (dks : List Sl) (dgs : List Bg.Dg) (svs : List Bg.LK) (w : World) (hx : WdAll w x dks dgs svs) :
    Calls Tryz.prog 8 #[WdV x] w (FitPost (FitW x) w) := by
 have hx0 := hx
 obtain ⟨⟨hnd, hup⟩, hdk, hdg, hsv, hn1, hn2, hns, hbs⟩ := hx
 have CM := Lib.hid (fun W (hb : Below w.heap.size w W) => Bg.mfit_any x.nx x.la x.sa x.ll x.lc x.sl x.sc dgs svs W ((hdg.below hb).more hb.size) ((hsv.below hb).more hb.size) hn1 hn2)
 have HND := Lib.hid hnd; have HUP := Lib.hid hup; have HDK := Lib.hid hdk; have HDG := Lib.hid hdg; have HSV := Lib.hid hsv; have HNS := Lib.hid hns; have HBS := Lib.hid hbs
 have HN1 := Lib.hid hn1; have HN2 := Lib.hid hn2
 clear hnd hup hdk hdg hsv hn1 hn2 hns hbs hx0
 obtain ⟨na, nn, nc, ua, un, uc, da, dn, dc, nx, la, ll, lc, sa, sl, sc, lost, nds, ups⟩ := x
 simp only [] at CM HND HUP HDK HDG HSV HNS HN1 HN2 ⊢
 generalize Bg.fitB ⟨nx, dgs, svs⟩ = bm at CM
 by_cases g0 : (nn : Int) < 1
 · go_enter Tryz.func8, Tryz.ntmps8
   go_wp2
   go_ret
   exact FitPost.no Qb
 by_cases g1 : (16 : Int) < nn
 · go_enter Tryz.func8, Tryz.ntmps8
   go_wp2
   go_ret
   exact FitPost.no Qb
 by_cases g2 : un = nn
 rotate_left
 · have q : ((un : Int) != (nn : Int)) = true := by simpa using (by omega : (un : Int) ≠ nn)
   clear g2
   go_enter Tryz.func8, Tryz.ntmps8
   go_wp2
   go_ret
   exact FitPost.no Qb
 subst g2
 by_cases g3 : dn = un
 rotate_left
 · have q : ((dn : Int) != (un : Int)) = true := by simpa using (by omega : (dn : Int) ≠ un)
   clear g3
   go_enter Tryz.func8, Tryz.ntmps8
   go_wp2
   go_ret
   exact FitPost.no Qb
 subst g3
 have HFW : Hid ((∀ (t : Nat) y, t < dn → nds[t]? = some y → NdDone ups t y) → FitW ⟨na, dn, nc, ua, dn, uc, da, dn, dc, nx, la, ll, lc, sa, sl, sc, lost, nds, ups⟩) := Lib.hid (fun h => fitW_of g0 g1 HND.out.1.1 HUP.out.1 h)
 have HNL : Hid (dn ≤ 16) := Lib.hid (by omega)
 obtain ⟨k5, hk5⟩ : ∃ k, decide (lost < 0) = k := ⟨_, rfl⟩
 obtain ⟨k6, hk6⟩ : ∃ k, decide (4611686018427387904 < lost) = k := ⟨_, rfl⟩
 go_enter Tryz.func8, Tryz.ntmps8
 cases k5 with
 | false =>
  cases k6 with
  | false =>
   go_wp2_with (fail)
   refine (CM.out _ Qb).mono ?_; rintro e w1 ⟨rfl, hb1⟩
   have hk1 : KeptC w [(⟨w.heap.size, 0, none⟩, .slice na dn nc), (⟨w.heap.size, 1, none⟩, .slice ua dn uc), (⟨w.heap.size, 2, none⟩, .slice da dn dc), (⟨w.heap.size, 3, none⟩, .int .i64 nx), (⟨w.heap.size, 4, none⟩, .slice la ll lc), (⟨w.heap.size, 5, none⟩, .slice sa sl sc), (⟨w.heap.size, 6, none⟩, .int .i64 lost)] [] w1 := by
    refine KeptC.below ?_ hb1
    exact Qk
   simp only [KeptC, List.forall_mem_cons] at hk1; obtain ⟨kb1, ⟨kc1_0, kc1_1, kc1_2, kc1_3, kc1_4, kc1_5, kc1_6, _⟩, _⟩ := hk1
   have hz1 : w.heap.size < w1.heap.size := cell_lt kc1_0
   clear hb1
   cases bm with
   | false =>
    go_wp2
    go_ret
    exact FitPost.no (Qb1 kb1)
   | true =>
    go_wp2
    clear hk5 hk6 g0 g1 CM
    go_loopw [4] (fun i w' => ∃ (k : Nat), k ≤ dn ∧ i = .int .i64 k ∧ Hid (∀ (t : Nat) y, t < k → nds[t]? = some y → NdDone ups t y) ∧ KeptC w [(⟨w.heap.size, 0, none⟩, .slice na dn nc), (⟨w.heap.size, 1, none⟩, .slice ua dn uc), (⟨w.heap.size, 2, none⟩, .slice da dn dc), (⟨w.heap.size, 3, none⟩, .int .i64 nx), (⟨w.heap.size, 4, none⟩, .slice la ll lc), (⟨w.heap.size, 5, none⟩, .slice sa sl sc), (⟨w.heap.size, 6, none⟩, .int .i64 lost)] [] w') (fun i _ => dn - (intOf i).toNat)
    case atStart => exact ⟨0, Nat.zero_le _, rfl, Lib.hid (fun t y h => absurd h (by omega)), (Qk1 kb1)⟩
    case round =>
     obtain ⟨k, hk, rfl, HA, hK⟩ := hrel
     clear kb1 hz1 kc1_0 kc1_1 kc1_2 kc1_3 kc1_4 kc1_5 kc1_6
     simp only [KeptC, List.forall_mem_cons] at hK; obtain ⟨kb3, ⟨kc3_0, kc3_1, kc3_2, kc3_3, kc3_4, kc3_5, kc3_6, _⟩, _⟩ := hK
     have hs3 := kb3.size
     have hz3 : w.heap.size < wr.heap.size := cell_lt kc3_0
     by_cases hlt : k < dn
     rotate_left
     · obtain rfl : k = dn := by omega
       have HFIT : Hid (FitW ⟨na, k, nc, ua, k, uc, da, k, dc, nx, la, ll, lc, sa, sl, sc, lost, nds, ups⟩) := Lib.hid (HFW.out HA.out)
       clear HFW HA
       go_wp2
       go_loopw [7] (fun i w' => ∃ (j : Nat), j ≤ ll ∧ i = .int .i64 j ∧ KeptC w [(⟨w.heap.size, 0, none⟩, .slice na k nc), (⟨w.heap.size, 1, none⟩, .slice ua k uc), (⟨w.heap.size, 2, none⟩, .slice da k dc), (⟨w.heap.size, 3, none⟩, .int .i64 nx), (⟨w.heap.size, 4, none⟩, .slice la ll lc), (⟨w.heap.size, 5, none⟩, .slice sa sl sc), (⟨w.heap.size, 6, none⟩, .int .i64 lost)] [] w') (fun i _ => ll - (intOf i).toNat)
       case atStart => exact ⟨0, Nat.zero_le _, rfl, (Qk1 kb3)⟩
       case round =>
        obtain ⟨j, hj, rfl, hK⟩ := hrel
        clear kb3 hz3 hs3 kc3_0 kc3_1 kc3_2 kc3_3 kc3_4 kc3_5 kc3_6
        simp only [KeptC, List.forall_mem_cons] at hK; obtain ⟨kb6, ⟨kc6_0, kc6_1, kc6_2, kc6_3, kc6_4, kc6_5, kc6_6, _⟩, _⟩ := hK
        have hs6 := kb6.size
        have hz6 : w.heap.size < wr.heap.size := cell_lt kc6_0
        by_cases hlj : j < ll
        rotate_left
        · obtain rfl : ll = j := by omega
          go_wp2
          go_loopw [11] (fun i w' => ∃ (j : Nat), j ≤ sl ∧ i = .int .i64 j ∧ KeptC w [(⟨w.heap.size, 0, none⟩, .slice na k nc), (⟨w.heap.size, 1, none⟩, .slice ua k uc), (⟨w.heap.size, 2, none⟩, .slice da k dc), (⟨w.heap.size, 3, none⟩, .int .i64 nx), (⟨w.heap.size, 4, none⟩, .slice la ll lc), (⟨w.heap.size, 5, none⟩, .slice sa sl sc), (⟨w.heap.size, 6, none⟩, .int .i64 lost)] [] w') (fun i _ => sl - (intOf i).toNat)
          case atStart => exact ⟨0, Nat.zero_le _, rfl, (Qk1 kb6)⟩
          case round =>
           obtain ⟨j, hj, rfl, hK⟩ := hrel
           clear kb6 hz6 hs6 kc6_0 kc6_1 kc6_2 kc6_3 kc6_4 kc6_5 kc6_6
           simp only [KeptC, List.forall_mem_cons] at hK; obtain ⟨kb9, ⟨kc9_0, kc9_1, kc9_2, kc9_3, kc9_4, kc9_5, kc9_6, _⟩, _⟩ := hK
           have hs9 := kb9.size
           have hz9 : w.heap.size < wr.heap.size := cell_lt kc9_0
           by_cases hlj : j < sl
           rotate_left
           · obtain rfl : j = sl := by omega
             go_wp2
             go_ret
             exact FitPost.yes HFIT.out kb9
           · obtain ⟨ads, v, rfl, habs, hxv, h4⟩ := HSV.out.at hlj
             obtain ⟨Q, hQ⟩ : ∃ Q, ads.add (j * 2) = Q := ⟨_, rfl⟩
             rw [hQ] at h4 habs
             have e0 : wr.cell? Q = some (.int .i64 v.1) := by have := h4 0 _ rfl; rw [Bg.add_z] at this; exact (kb9.cell habs).trans this
             have e1 : wr.cell? ⟨Q.block, Q.off + 1, none⟩ = some (.int .i64 v.2) := by have := h4 1 _ rfl; rw [Bg.add_next] at this; exact (kb9.cell (p := ⟨Q.block, Q.off + 1, none⟩) habs).trans this
             have hQw : Q.block < wr.heap.size := by omega
             obtain ⟨j1, hj1⟩ : ∃ k, decide (v.1 < 0) = k := ⟨_, rfl⟩
             obtain ⟨j2, hj2⟩ : ∃ b, decide ((k : Int) ≤ v.2) = b := ⟨_, rfl⟩
             have hwj : IntKind.i64.wrap ((j : Int) + 1) = (j : Int) + 1 := by rw [IntKind.wrap_i64]; have := HN2.out; omega
             clear h4 hxv
             cases j1 with
             | true =>
              go_wp2
              go_ret
              exact FitPost.no (Qb1 kb9)
             | false =>
              cases j2 with
              | true =>
               go_wp2
               go_ret
               exact FitPost.no (Qb1 kb9)
              | false =>
               go_wp2
               go_roundw
               case rel => exact ⟨j + 1, by omega, by go_num, (Qk1 kb9)⟩
               case measure => simp [intOf]; omega
        · obtain ⟨add, d, rfl, habd, hxd, h4⟩ := HDG.out.at hlj
          obtain ⟨Q, hQ⟩ : ∃ Q, add.add (j * 4) = Q := ⟨_, rfl⟩
          rw [hQ] at h4 habd
          have HBD := Lib.hid (HBS.out d (List.mem_of_getElem? hxd))
          have e0 : wr.cell? Q = some (.int .i64 d.num) := by have := h4 0 _ rfl; rw [Bg.add_z] at this; exact (kb6.cell habd).trans this
          have e1 : wr.cell? ⟨Q.block, Q.off + 1, none⟩ = some (.int .i64 d.frm) := by have := h4 1 _ rfl; rw [Bg.add_next] at this; exact (kb6.cell (p := ⟨Q.block, Q.off + 1, none⟩) habd).trans this
          have e2 : wr.cell? ⟨Q.block, Q.off + 2, none⟩ = some (.int .i64 d.dst) := by have := h4 2 _ rfl; rw [Bg.add_next] at this; exact (kb6.cell (p := ⟨Q.block, Q.off + 2, none⟩) habd).trans this
          have e3 : wr.cell? ⟨Q.block, Q.off + 3, none⟩ = some (.string d.body) := by have := h4 3 _ rfl; rw [Bg.add_next] at this; exact (kb6.cell (p := ⟨Q.block, Q.off + 3, none⟩) habd).trans this
          have hQw : Q.block < wr.heap.size := by omega
          have hwj : IntKind.i64.wrap ((j : Int) + 1) = (j : Int) + 1 := by rw [IntKind.wrap_i64]; have := HN1.out; omega
          clear h4 hxd
          obtain ⟨dnum, dfrm, ddst, dbody⟩ := d
          simp only [] at e0 e1 e2 e3 HBD
          obtain ⟨w2, h⟩ : ∃ w2, w2 = wr := ⟨_, rfl⟩
          subst h
          go_upto_region 24 with (fail)
          refine lay1 (fun W => KeptC w [(⟨w.heap.size, 0, none⟩, .slice na k nc), (⟨w.heap.size, 1, none⟩, .slice ua k uc), (⟨w.heap.size, 2, none⟩, .slice da k dc), (⟨w.heap.size, 3, none⟩, .int .i64 nx), (⟨w.heap.size, 4, none⟩, .slice (some add) ll lc), (⟨w.heap.size, 5, none⟩, .slice sa sl sc), (⟨w.heap.size, 6, none⟩, .int .i64 lost), (⟨w2.heap.size, 0, none⟩, .int .i64 dnum), (⟨w2.heap.size, 1, none⟩, .int .i64 dfrm), (⟨w2.heap.size, 2, none⟩, .int .i64 ddst), (⟨w2.heap.size, 3, none⟩, .string dbody)] [] W) (Qk1 kb6) ?_
          intro w3 hK3
          clear e0 e1 e2 e3 kb6 hz6 hs6 hQw habd kc6_0 kc6_1 kc6_2 kc6_3 kc6_4 kc6_5 kc6_6
          simp only [KeptC, List.forall_mem_cons] at hK3; obtain ⟨kb7, ⟨kc7_0, kc7_1, kc7_2, kc7_3, kc7_4, kc7_5, kc7_6, kc7_7, kc7_8, kc7_9, kc7_10, _⟩, _⟩ := hK3
          have hz7 : w.heap.size < w3.heap.size := cell_lt kc7_0
          have hz7b : w2.heap.size < w3.heap.size := cell_lt kc7_7
          obtain ⟨C, w4, hconv, hb4, hrow, hcap⟩ := bytes_of w3 dbody
          have CD := Lib.hid (wdecode_any _ dbody.size C _ w4 hrow hcap HBD.out (by
           intro x hx
           obtain ⟨b, _, rfl⟩ := List.mem_map.1 hx
           have := b.toNat_lt
           omega))
          have hk5 : KeptC w [(⟨w.heap.size, 0, none⟩, .slice na k nc), (⟨w.heap.size, 1, none⟩, .slice ua k uc), (⟨w.heap.size, 2, none⟩, .slice da k dc), (⟨w.heap.size, 3, none⟩, .int .i64 nx), (⟨w.heap.size, 4, none⟩, .slice (some add) ll lc), (⟨w.heap.size, 5, none⟩, .slice sa sl sc), (⟨w.heap.size, 6, none⟩, .int .i64 lost), (⟨w2.heap.size, 0, none⟩, .int .i64 dnum), (⟨w2.heap.size, 1, none⟩, .int .i64 dfrm), (⟨w2.heap.size, 2, none⟩, .int .i64 ddst), (⟨w2.heap.size, 3, none⟩, .string dbody)] [] w4 := by
           refine KeptC.below ?_ hb4
           exact Qk1 kb7
          simp only [KeptC, List.forall_mem_cons] at hk5; obtain ⟨kb5, ⟨kc5_0, kc5_1, kc5_2, kc5_3, kc5_4, kc5_5, kc5_6, kc5_7, kc5_8, kc5_9, kc5_10, _⟩, _⟩ := hk5
          have hs4 := hb4.size
          clear hrow hcap hb4 kb7 hz7 hz7b kc7_0 kc7_1 kc7_2 kc7_3 kc7_4 kc7_5 kc7_6 kc7_7 kc7_8 kc7_9
          go_wp2_with (fail)
          refine CD.out.mono ?_; rintro e w5 ⟨p, er, rfl, hb5⟩
          have hk8 : KeptC w [(⟨w.heap.size, 0, none⟩, .slice na k nc), (⟨w.heap.size, 1, none⟩, .slice ua k uc), (⟨w.heap.size, 2, none⟩, .slice da k dc), (⟨w.heap.size, 3, none⟩, .int .i64 nx), (⟨w.heap.size, 4, none⟩, .slice (some add) ll lc), (⟨w.heap.size, 5, none⟩, .slice sa sl sc), (⟨w.heap.size, 6, none⟩, .int .i64 lost), (⟨w2.heap.size, 0, none⟩, .int .i64 dnum), (⟨w2.heap.size, 1, none⟩, .int .i64 dfrm), (⟨w2.heap.size, 2, none⟩, .int .i64 ddst), (⟨w2.heap.size, 3, none⟩, .string dbody)] [] w5 := by
           refine KeptC.below ?_ hb5
           exact Qk1 kb5
          simp only [KeptC, List.forall_mem_cons] at hk8; obtain ⟨kb8, ⟨kc8_0, kc8_1, kc8_2, kc8_3, kc8_4, kc8_5, kc8_6, kc8_7, kc8_8, kc8_9, kc8_10, _⟩, _⟩ := hk8
          have hz8 : w.heap.size < w5.heap.size := cell_lt kc8_0
          have hz8b : w2.heap.size < w5.heap.size := cell_lt kc8_7
          clear hb5 hs4 CD hconv kb5 kc7_10 kc5_0 kc5_1 kc5_2 kc5_3 kc5_4 kc5_5 kc5_6 kc5_7 kc5_8 kc5_9 kc5_10
          obtain ⟨pkd, pfrm, pdst, pboot, plife, pecho, pelife, pia, pil, pic⟩ := p
          obtain ⟨m1, hm1⟩ : ∃ b, (er != 0) = b := ⟨_, rfl⟩
          obtain ⟨m2, hm2⟩ : ∃ b, (pfrm != dfrm) = b := ⟨_, rfl⟩
          obtain ⟨m3, hm3⟩ : ∃ b, (pdst != ddst) = b := ⟨_, rfl⟩
          obtain ⟨m4, hm4⟩ : ∃ b, decide ((k : Int) ≤ pfrm) = b := ⟨_, rfl⟩
          obtain ⟨m5, hm5⟩ : ∃ b, decide ((k : Int) ≤ pdst) = b := ⟨_, rfl⟩
          cases m1 with
          | false =>
           cases m2 with
           | false =>
            cases m3 with
            | false =>
             cases m4 with
             | false =>
              cases m5 with
              | false =>
               go_wp2
               go_roundw
               case rel => exact ⟨j + 1, by omega, by go_num, (Qk1 kb8)⟩
               case measure => simp [intOf]; omega
              | true =>
               go_wp2
               go_ret
               exact FitPost.no (Qb1 kb8)
             | true =>
              go_wp2
              go_ret
              exact FitPost.no (Qb1 kb8)
            | true =>
             go_wp2
             go_ret
             exact FitPost.no (Qb1 kb8)
           | true =>
            go_wp2
            go_ret
            exact FitPost.no (Qb1 kb8)
          | true =>
           go_wp2
           go_ret
           exact FitPost.no (Qb1 kb8)
     · obtain ⟨ad, y, rfl, hab, hy, h4⟩ := HND.out.1.at hlt
       obtain ⟨P, hP⟩ : ∃ P, ad.add (k * 8) = P := ⟨_, rfl⟩
       rw [hP] at h4 hab
       obtain ⟨c0, c1, c2, c3, c4, c5, c6, c7⟩ := (nd8_of h4).below hab kb3
       have hPw : P.block < wr.heap.size := by omega
       have HX := Lib.hid hy
       have HNA := Lib.hid (HND.out.2 y (List.mem_of_getElem? hy))
       have HNZ := Lib.hid (HNS.out y (List.mem_of_getElem? hy))
       obtain ⟨adu, bu, rfl, habu, hyu, h5⟩ := HUP.out.at (show k < dn from hlt)
       obtain ⟨U, hU⟩ : ∃ U, adu.add (k * 1) = U := ⟨_, rfl⟩
       rw [hU] at h5 habu
       rw [Nat.mul_one] at hU
       have cu : wr.cell? U = some (.bool bu) := by have := h5 0 _ rfl; rw [Bg.add_z] at this; exact (kb3.cell habu).trans this
       have hUw : U.block < wr.heap.size := by omega
       have HU := Lib.hid hyu
       obtain ⟨add, d, rfl, habd, hyd, h6⟩ := HDK.out.at (show k < dn from hlt)
       obtain ⟨V, hV⟩ : ∃ V, add.add (k * 1) = V := ⟨_, rfl⟩
       rw [hV] at h6 habd
       rw [Nat.mul_one] at hV
       have cd : wr.cell? V = some (.slice d.a d.n d.c) := by have := h6 0 _ rfl; rw [Bg.add_z] at this; exact (kb3.cell habd).trans this
       have hDw : V.block < wr.heap.size := by omega
       clear h4 hy h5 hyu h6 hyd hab habu habd
       have hwk : IntKind.i64.wrap ((k : Int) + 1) = (k : Int) + 1 := by rw [IntKind.wrap_i64]; have := HNL.out; omega
       obtain ⟨id, boot, ticks, wa, wn, wc, turn, sea, sen, sec, ha, hn, hc, ca, cn, cc, want, seen, halves, chans⟩ := y
       simp only [] at c0 c1 c2 c3 c4 c5 c6 c7
       have HNW : Hid (RowsE encI 1 w w.heap.size wa wn want) := Lib.hid HNA.out.1
       have CFT := Lib.hid (fun W (hb : Below w.heap.size w W) => nfit_any ⟨id, boot, ticks, wa, wn, wc, turn, sea, sen, sec, ha, hn, hc, ca, cn, cc, want, seen, halves, chans⟩ W ((HNA.out.below hb).more hb.size) HNZ.out.1 HNZ.out.2.1 HNZ.out.2.2.1 HNZ.out.2.2.2)
       have CNS := Lib.hid (fun W (hb : Below w.heap.size w W) => nsame_any ⟨id, boot, ticks, wa, wn, wc, turn, sea, sen, sec, ha, hn, hc, ca, cn, cc, want, seen, halves, chans⟩ (k : Int) W ((HNA.out.below hb).more hb.size) HNZ.out.2.2.2)
       obtain ⟨k7, hk7⟩ : ∃ b, (id != (k : Int)) = b := ⟨_, rfl⟩
       have HID' := Lib.hid hk7
       obtain ⟨k8, hk8⟩ : ∃ b, ((d.n : Int) != 64) = b := ⟨_, rfl⟩
       obtain ⟨w1, h⟩ : ∃ w1, w1 = wr := ⟨_, rfl⟩
       subst h
       cases k7 with
       | true =>
        go_wp2
        go_ret
        exact FitPost.no (Qb1 kb3)
       | false =>
       have HID : Hid (id = (k : Int)) := Lib.hid (by simpa using HID'.out)
       cases k8 with
       | true =>
        go_wp2
        go_ret
        exact FitPost.no (Qb1 kb3)
       | false =>
       cases bu with
       | false =>
        go_wp2_with (fail)
        refine (CNS.out _ (Qb1 kb3)).mono ?_; rintro e w5 ⟨b5, rfl, f5, hb5⟩
        have HF := Lib.hid f5
        have hk5 : KeptC w [(⟨w.heap.size, 0, none⟩, .slice (some ad) dn nc), (⟨w.heap.size, 1, none⟩, .slice (some adu) dn uc), (⟨w.heap.size, 2, none⟩, .slice (some add) dn dc), (⟨w.heap.size, 3, none⟩, .int .i64 nx), (⟨w.heap.size, 4, none⟩, .slice la ll lc), (⟨w.heap.size, 5, none⟩, .slice sa sl sc), (⟨w.heap.size, 6, none⟩, .int .i64 lost)] [] w5 := by
         refine KeptC.below ?_ hb5
         exact Qk1 kb3
        simp only [KeptC, List.forall_mem_cons] at hk5; obtain ⟨kb5, ⟨kc5_0, kc5_1, kc5_2, kc5_3, kc5_4, kc5_5, kc5_6, _⟩, _⟩ := hk5
        have hz5 : w.heap.size < w5.heap.size := cell_lt kc5_0
        clear hb5 f5 c0 c1 c2 c3 c4 c5 c6 c7 cu cd kb3 hs3 hz3 hPw hUw hDw kc3_0 kc3_1 kc3_2 kc3_3 kc3_4 kc3_5 kc3_6
        cases b5 with
        | false =>
         go_wp2
         go_ret
         exact FitPost.no (Qb1 kb5)
        | true =>
         have HQ : Hid (NdDone ups k ⟨id, boot, ticks, wa, wn, wc, turn, sea, sen, sec, ha, hn, hc, ca, cn, cc, want, seen, halves, chans⟩) := Lib.hid (by
          obtain ⟨f1, f2, f3, f4⟩ := HF.out rfl
          have e1 : seen = [] := by have h := HNA.out.2.1; simp only [] at h f2; rw [f2] at h; exact row_empty h
          have e2 : halves = [] := by have h := HNA.out.2.2.1.1; simp only [] at h f3; rw [f3] at h; exact row_empty h
          have e3 : chans = [] := by have h := HNA.out.2.2.2.1; simp only [] at h f4; rw [f4] at h; exact row_empty h
          exact ⟨fitNd_zero (by have := HNL.out; omega) f1 e2 e1 e3, fun _ => ⟨e3, e2, e1⟩⟩)
         go_wp2
         go_roundw
         case rel => exact ⟨k + 1, by omega, by go_num, Lib.hid (done_next HA.out HX.out HQ.out), (Qk1 kb5)⟩
         case measure => simp [intOf]; omega
       | true =>
        go_wp2_with (fail)
        refine (CFT.out _ (Qb1 kb3)).mono ?_; rintro e w5 ⟨b5, rfl, f5, hb5⟩
        have HF := Lib.hid f5
        have hk5 : KeptC w [(⟨w.heap.size, 0, none⟩, .slice (some ad) dn nc), (⟨w.heap.size, 1, none⟩, .slice (some adu) dn uc), (⟨w.heap.size, 2, none⟩, .slice (some add) dn dc), (⟨w.heap.size, 3, none⟩, .int .i64 nx), (⟨w.heap.size, 4, none⟩, .slice la ll lc), (⟨w.heap.size, 5, none⟩, .slice sa sl sc), (⟨w.heap.size, 6, none⟩, .int .i64 lost), (⟨w1.heap.size, 0, none⟩, .int .i64 id), (⟨w1.heap.size, 1, none⟩, .int .i64 boot), (⟨w1.heap.size, 2, none⟩, .int .i64 ticks), (⟨w1.heap.size, 3, none⟩, .slice wa wn wc), (⟨w1.heap.size, 4, none⟩, .int .i64 turn), (⟨w1.heap.size, 5, none⟩, .slice sea sen sec), (⟨w1.heap.size, 6, none⟩, .slice ha hn hc), (⟨w1.heap.size, 7, none⟩, .slice ca cn cc)] [] w5 := by
         refine KeptC.below ?_ hb5
         exact Qk1 kb3
        simp only [KeptC, List.forall_mem_cons] at hk5; obtain ⟨kb5, ⟨kc5_0, kc5_1, kc5_2, kc5_3, kc5_4, kc5_5, kc5_6, kc5_7, kc5_8, kc5_9, kc5_10, kc5_11, kc5_12, kc5_13, kc5_14, _⟩, _⟩ := hk5
        have hz5 : w.heap.size < w5.heap.size := cell_lt kc5_0
        have hz5b : w1.heap.size < w5.heap.size := cell_lt kc5_7
        clear hb5 f5 c0 c1 c2 c3 c4 c5 c6 c7 cu cd kb3 hs3 hz3 hPw hUw hDw kc3_0 kc3_1 kc3_2 kc3_3 kc3_4 kc3_5 kc3_6
        cases b5 with
        | false =>
         go_wp2
         go_ret
         exact FitPost.no (Qb1 kb5)
        | true =>
         have HQ : Hid (NdDone ups k ⟨id, boot, ticks, wa, wn, wc, turn, sea, sen, sec, ha, hn, hc, ca, cn, cc, want, seen, halves, chans⟩) := Lib.hid ⟨⟨by simpa using HID.out, by have h := (HF.out rfl).1; rwa [show id = (k : Int) by simpa using HID.out] at h, (HF.out rfl).2.1, by have h := (HF.out rfl).2.2; rwa [show id = (k : Int) by simpa using HID.out] at h⟩, fun h => by rw [HU.out] at h; cases h⟩
         go_wp2
         go_loopw [6] (fun i w' => ∃ (j : Nat), j ≤ wn ∧ i = .int .i64 j ∧ KeptC w [(⟨w.heap.size, 0, none⟩, .slice (some ad) dn nc), (⟨w.heap.size, 1, none⟩, .slice (some adu) dn uc), (⟨w.heap.size, 2, none⟩, .slice (some add) dn dc), (⟨w.heap.size, 3, none⟩, .int .i64 nx), (⟨w.heap.size, 4, none⟩, .slice la ll lc), (⟨w.heap.size, 5, none⟩, .slice sa sl sc), (⟨w.heap.size, 6, none⟩, .int .i64 lost), (⟨w1.heap.size, 3, none⟩, .slice wa wn wc)] [] w') (fun i _ => wn - (intOf i).toNat)
         case atStart => exact ⟨0, Nat.zero_le _, rfl, (Qk1 kb5)⟩
         case round =>
          obtain ⟨j, hj, rfl, hK⟩ := hrel
          clear kb5 hz5 hz5b kc5_0 kc5_1 kc5_2 kc5_3 kc5_4 kc5_5 kc5_6 kc5_7 kc5_8 kc5_9 kc5_10 kc5_11 kc5_12 kc5_13 kc5_14
          simp only [KeptC, List.forall_mem_cons] at hK; obtain ⟨kb6, ⟨kc6_0, kc6_1, kc6_2, kc6_3, kc6_4, kc6_5, kc6_6, kc6_7, _⟩, _⟩ := hK
          have hs6 := kb6.size
          have hz6 : w.heap.size < wr.heap.size := cell_lt kc6_0
          have hz6b : w1.heap.size < wr.heap.size := cell_lt kc6_7
          by_cases hlj : j < wn
          rotate_left
          · obtain rfl : j = wn := by omega
            go_wp2
            go_roundw
            case rel => exact ⟨k + 1, by omega, by go_num, Lib.hid (done_next HA.out HX.out HQ.out), (Qk1 kb6)⟩
            case measure => simp [intOf]; omega
          · obtain ⟨adw, v, rfl, habw, hxv, h4⟩ := HNW.out.at hlj
            obtain ⟨Q, hQ⟩ : ∃ Q, adw.add (j * 1) = Q := ⟨_, rfl⟩
            rw [hQ] at h4 habw
            rw [Nat.mul_one] at hQ
            have e0 : wr.cell? Q = some (.int .i64 v) := by have := h4 0 _ rfl; rw [Bg.add_z] at this; exact (kb6.cell habw).trans this
            have hQw : Q.block < wr.heap.size := by omega
            obtain ⟨k8, hk8⟩ : ∃ k, decide ((dn : Int) ≤ v) = k := ⟨_, rfl⟩
            have hwj : IntKind.i64.wrap ((j : Int) + 1) = (j : Int) + 1 := by rw [IntKind.wrap_i64]; have h7 : wn ≤ 70368744177664 := HNZ.out.1; omega
            clear h4 hxv
            cases k8 with
            | true =>
             go_wp2
             go_ret
             exact FitPost.no (Qb1 kb6)
            | false =>
             go_wp2
             go_roundw
             case rel => exact ⟨j + 1, by omega, by go_num, (Qk1 kb6)⟩
             case measure => simp [intOf]; omega
  | true =>
   go_wp2
   go_ret
   exact FitPost.no Qb
 | true =>
  go_wp2
  go_ret
  exact FitPost.no Qb
end Go.Proofs.YtkfodkbgmpbmfaaGreat
