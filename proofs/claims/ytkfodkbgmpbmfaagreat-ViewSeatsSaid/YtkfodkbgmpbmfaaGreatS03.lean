/- ViewSeats: of any world and any name: view's Seats, Everywhere, Spread and Squares answer as the document says. For every input, without a condition. -/
import Derived.Shelf.SlSortCmp.WholeK
import Derived.Shelf.SlicesG.Cmp
import Derived.Test.YtkfodkbgmpbmfaaGreatProg
import Derived.RangeFuncNested
import Derived.RangeFuncCalls
import Derived.OrdersIn
import Derived.OwnWalkIn
import Derived.Test.YtkfodkbgmpbmfaaGreatRows
import Derived.Below
import Derived.Laws.OwnMore
import Derived.Deep.AppendLies
import Derived.Deep.Draws
import Derived.Maps.AppendAt
import Derived.RegionTactic
import Derived.OwnWalk
import Derived.Laws.IdiomCopy
import Derived.RowKit
import Derived.Shelf.SlSortCmp.NoneTotal
import Derived.RangeFuncBound
import Derived.RangeFuncLeaves
import Derived.RangeFuncBox
import Derived.Shelf.Abstract
import Derived.Shelf.RegionOpen
import Derived.TacticsInMore
import Derived.LoopNIn
import Derived.LoopIn
import Derived.Maps.OwnIn
import Derived.WalkKit
import Derived.WalkSpells
import Derived.WalkLawsBesides
import Derived.WalkMore
import Derived.Deep.QuietTactic
import Derived.BigQuiet
import Derived.Lib.Hide
import Derived.Laws.Strings
import Derived.ChangeSame
import Derived.Deep.Slices
import Derived.Deep.Fields
import Derived.SizedLaws
import Derived.Lib.SmallJoins
import Derived.OpenShut
import Derived.Lib.SliceRun
import Derived.Deep.RegionHeld3
import Derived.Laws.EntriesVeiled
import Derived.Outline
import Derived.Deep.Cut
import Derived.Laws.BytesString
import Derived.Deep.MidRow
import Derived.Laws.ResultCell
import Derived.Deep.RegionLaw
import Derived.Maps.Own
import Derived.Maps.OwnOps
import Derived.Maps.OwnSet
import Derived.Maps.Views
import Derived.Maps.RangeWalk
import Derived.DeepKeys4
import Derived.Deep.OwnRows
import Derived.Deep.CutRange
import Derived.Deep.DeepAppendWide
import Derived.Laws.IdiomStrings
import Derived.ProofKit
import Derived.ChangeSlices
import Derived.Shelf.SlGeneric
import Derived.Ground.SlgmProg
import Derived.Shelf.SortM.Plain
import Derived.Sort.OwnSortedInts
import Derived.ChangeMaps5
import Derived.Test.YtkfodkbgmpbmfaaGreatB01
import Derived.Test.YtkfodkbgmpbmfaaGreatB02
import Derived.Test.YtkfodkbgmpbmfaaGreatB03
import Derived.Test.YtkfodkbgmpbmfaaGreatB04
import Derived.Test.YtkfodkbgmpbmfaaGreatB05
import Derived.Test.YtkfodkbgmpbmfaaGreatB06
import Derived.Test.YtkfodkbgmpbmfaaGreatB07
import Derived.Test.YtkfodkbgmpbmfaaGreatB08
import Derived.Test.YtkfodkbgmpbmfaaGreatB09
import Derived.Test.YtkfodkbgmpbmfaaGreatB10
import Derived.Test.YtkfodkbgmpbmfaaGreatB11
import Derived.Test.YtkfodkbgmpbmfaaGreatB12
import Derived.Test.YtkfodkbgmpbmfaaGreatB13
import Derived.Test.YtkfodkbgmpbmfaaGreatB14
import Derived.Test.YtkfodkbgmpbmfaaGreatB15
import Derived.Test.YtkfodkbgmpbmfaaGreatB16
import Derived.Test.YtkfodkbgmpbmfaaGreatB17
import Derived.Test.YtkfodkbgmpbmfaaGreatB18
import Derived.Test.YtkfodkbgmpbmfaaGreatB19
import Derived.Test.YtkfodkbgmpbmfaaGreatB20
import Derived.Test.YtkfodkbgmpbmfaaGreatB21
import Derived.Test.YtkfodkbgmpbmfaaGreatB22
import Derived.Test.YtkfodkbgmpbmfaaGreatB23
import Derived.Test.YtkfodkbgmpbmfaaGreatB24
import Derived.Test.YtkfodkbgmpbmfaaGreatB25
import Derived.Test.YtkfodkbgmpbmfaaGreatB26
import Derived.Test.YtkfodkbgmpbmfaaGreatB27
import Derived.Test.YtkfodkbgmpbmfaaGreatB28
import Derived.Test.YtkfodkbgmpbmfaaGreatB29
import Derived.Test.YtkfodkbgmpbmfaaGreatB30
import Derived.Test.YtkfodkbgmpbmfaaGreatB31
import Derived.Test.YtkfodkbgmpbmfaaGreatB32
import Derived.Test.YtkfodkbgmpbmfaaGreatB33
import Derived.Test.YtkfodkbgmpbmfaaGreatB34
import Derived.Test.YtkfodkbgmpbmfaaGreatB35
import Derived.Test.YtkfodkbgmpbmfaaGreatB36
import Derived.Test.YtkfodkbgmpbmfaaGreatB37
import Derived.Test.YtkfodkbgmpbmfaaGreatB38
import Derived.Test.YtkfodkbgmpbmfaaGreatB39
import Derived.Test.YtkfodkbgmpbmfaaGreatB40
import Derived.Test.YtkfodkbgmpbmfaaGreatB41
import Derived.Test.YtkfodkbgmpbmfaaGreatB42
import Derived.Test.YtkfodkbgmpbmfaaGreatS01
import Derived.Test.YtkfodkbgmpbmfaaGreatS02
set_option linter.unusedVariables false
set_option linter.unusedSimpArgs false
namespace Go.Proofs.YtkfodkbgmpbmfaaGreat
open Go.RowKit Go.Shelf
set_option linter.unusedVariables false
set_option linter.unusedSimpArgs false
set_option maxRecDepth 100000
set_option maxHeartbeats 4000000 in
theorem vspread_any (x : Wd) (nm : ByteArray) (w : World) (hx : WdOk w x) :
    Calls Tryz.prog 30 #[WdV x, .string nm] w fun e w' => e = .returned (.tuple #[.int .i64 (if valE (seatsB x nm) = 0 then lowL (valL (seatsB x nm)) else 0), .int .i64 (if valE (seatsB x nm) = 0 then highL (valL (seatsB x nm)) else 0), .int .i64 (valE (seatsB x nm))]) ∧ Below w.heap.size w w' := by
 have CE := Lib.hid (fun W (hb : Below w.heap.size w W) => vestimates_any x nm W (hx.below hb))
 have HLN := Lib.hid (show (valL (seatsB x nm)).length ≤ 16 from by have := val_len x nm; have := hx.fit.n1; omega)
 have HZ : Hid (valE (seatsB x nm) = 0 → 0 < (valL (seatsB x nm)).length) := Lib.hid (fun h => by
  unfold valE at h
  unfold valL
  split at h
  · cases h
  · rename_i h1
    rw [if_neg h1, List.length_map]
    split at h
    · cases h
    · rename_i h2
      exact List.length_pos_iff.2 h2)
 clear hx
 generalize valL (seatsB x nm) = V at CE HLN HZ ⊢
 generalize valE (seatsB x nm) = er at CE HZ ⊢
 obtain ⟨na, nn, nc, ua, un, uc, da, dn, dc, nx, la, ll, lc, sa, sl, sc, lost, nds, ups⟩ := x
 try simp only [] at CE ⊢
 go_enter Tryz.func30, Tryz.ntmps30
 go_wp2_with (fail)
 refine (CE.out _ Qb).mono ?_; rintro e w1 ⟨A, n, c, rfl, hn, hown, hb1⟩
 have HB : Hid (Below w.heap.size w w1) := Lib.hid (Qb1 hb1)
 have HR : Hid (RowsE encI 1 w1 w1.heap.size A n V) := Lib.hid (by
  obtain ⟨A4, c4, e, h⟩ := OwnE.at_ encI_len hown
  injection e with e1 e2 e3
  rw [e1, e2]
  exact h)
 have HN := Lib.hid hn
 clear hb1 CE hown hn
 by_cases he : er = 0
 rotate_left
 · have q1 : (er != 0) = true := by simpa using he
   have HE := Lib.hid he
   clear he
   go_wp2
   go_ret3
   exact ⟨by first | rfl | (simp [HE.out]; done), HB.out⟩
 subst he
 have hn0 : 0 < n := by have := HZ.out rfl; rw [HN.out] at this; exact this
 have hn16 : n ≤ 16 := by rw [← HN.out]; exact HLN.out
 have CM := Lib.hid (smin_any A n c V w1 HR.out hn0 (by omega))
 have CX := Lib.hid (smax_any A n c V w1 HR.out hn0 (by omega))
 go_wp2_with (fail)
 refine CM.out.mono ?_; rintro e w2 ⟨rfl, rfl⟩
 go_wp2_with (fail)
 refine CX.out.mono ?_; rintro e w3 ⟨rfl, rfl⟩
 go_wp2
 go_ret3
 exact ⟨by first | rfl | (simp [lowL, highL]; done), HB.out⟩
set_option maxHeartbeats 4000000 in
theorem lseats_any (A1 A2 : Option Addr) (n1 c1 c2 : Nat) (xs : List Seat) (w : World) (h1 : RowsE encSe 4 w w.heap.size A1 n1 xs) (h2 : RowsE encSe 4 w w.heap.size A2 n1 xs) (hm : n1 ≤ 1000) :
    Calls Tryz.prog 34 #[.slice A1 n1 c1, .slice A2 n1 c2] w fun e w' => e = .returned (.bool true) ∧ Below w.heap.size w w' := by
 have H1 := Lib.hid h1
 have H2 := Lib.hid h2
 clear h1 h2
 go_enter Tryz.func34, Tryz.ntmps34
 go_wp2
 go_loopw [5] (fun i w' => ∃ (k : Nat), k ≤ n1 ∧ i = .int .i64 k ∧ KeptC w [] [] w') (fun i _ => n1 - (intOf i).toNat)
 case atStart => exact ⟨0, Nat.zero_le _, rfl, Qk⟩
 case round =>
  obtain ⟨k, hk, rfl, hK⟩ := hrel
  have kb0 := hK.1
  clear hK
  have hs0 := kb0.size
  by_cases hlt : k < n1
  rotate_left
  · obtain rfl : k = n1 := by omega
    go_wp2
    go_ret
    exact ⟨rfl, (Qb1 kb0)⟩
  · obtain ⟨ad, x, rfl, hab, hx, g2⟩ := H1.out.at hlt
    obtain ⟨ad2, x2, rfl, hab2, hx2, g3⟩ := H2.out.at hlt
    obtain rfl := Option.some.inj (hx.symm.trans hx2)
    obtain ⟨P, hP⟩ : ∃ P, ad.add (k * 4) = P := ⟨_, rfl⟩
    rw [hP] at g2 hab
    obtain ⟨Q, hQ⟩ : ∃ Q, ad2.add (k * 4) = Q := ⟨_, rfl⟩
    rw [hQ] at g3 hab2
    have e0 : wr.cell? P = some (.int .i64 x.node) := (kb0.cell (p := P) hab).trans (by have := g2 0 _ rfl; rwa [Bg.add_z P] at this)
    have e1 : wr.cell? ⟨P.block, P.off + 1, none⟩ = some (.int .i64 x.inp) := (kb0.cell (p := ⟨P.block, P.off + 1, none⟩) hab).trans (by have := g2 1 _ rfl; rwa [add_next P 0] at this)
    have e2 : wr.cell? ⟨P.block, P.off + 2, none⟩ = some (.int .i64 x.est) := (kb0.cell (p := ⟨P.block, P.off + 2, none⟩) hab).trans (by have := g2 2 _ rfl; rwa [add_next P 1] at this)
    have e3 : wr.cell? ⟨P.block, P.off + 3, none⟩ = some (.int .i64 x.err) := (kb0.cell (p := ⟨P.block, P.off + 3, none⟩) hab).trans (by have := g2 3 _ rfl; rwa [add_next P 2] at this)
    have f0 : wr.cell? Q = some (.int .i64 x.node) := (kb0.cell (p := Q) hab2).trans (by have := g3 0 _ rfl; rwa [Bg.add_z Q] at this)
    have f1 : wr.cell? ⟨Q.block, Q.off + 1, none⟩ = some (.int .i64 x.inp) := (kb0.cell (p := ⟨Q.block, Q.off + 1, none⟩) hab2).trans (by have := g3 1 _ rfl; rwa [add_next Q 0] at this)
    have f2 : wr.cell? ⟨Q.block, Q.off + 2, none⟩ = some (.int .i64 x.est) := (kb0.cell (p := ⟨Q.block, Q.off + 2, none⟩) hab2).trans (by have := g3 2 _ rfl; rwa [add_next Q 1] at this)
    have f3 : wr.cell? ⟨Q.block, Q.off + 3, none⟩ = some (.int .i64 x.err) := (kb0.cell (p := ⟨Q.block, Q.off + 3, none⟩) hab2).trans (by have := g3 3 _ rfl; rwa [add_next Q 2] at this)
    have hPw : P.block < wr.heap.size := by omega
    have hQw : Q.block < wr.heap.size := by omega
    obtain ⟨xn, xi, xe, xr⟩ := x
    simp only [] at e0 e1 e2 e3 f0 f1 f2 f3
    clear g2 g3 hx hx2
    go_wp2_with (fail)
    refine wp_region_quietC_lit (KeptC w [(P, .int .i64 xn), (⟨P.block, P.off + 1, none⟩, .int .i64 xi), (⟨P.block, P.off + 2, none⟩, .int .i64 xe), (⟨P.block, P.off + 3, none⟩, .int .i64 xr), (Q, .int .i64 xn), (⟨Q.block, Q.off + 1, none⟩, .int .i64 xi), (⟨Q.block, Q.off + 2, none⟩, .int .i64 xe), (⟨Q.block, Q.off + 3, none⟩, .int .i64 xr)] []) (by kernel_rfl) (by kernel_rfl) ?_ ?_
    · refine KeptC.drewn ?_
      exact Qk1 kb0
    repeat (first
     | go_big_quiet_skip
     | (go_big_quiet_want; (apply quietC_run); (· intro w' hw'; (have hk' := hw'; simp only [KeptC, List.forall_mem_cons] at hk'; go_split_ands); go_simp; first | done | rfl); (simp only [Act.put, List.setIfInBounds_toArray, List.set_cons_zero, List.set_cons_succ]; go_big_quiet_on))
     | (go_big_quiet_want; (apply quietC_call); (· intro w' hw'; go_simp; first | done | exact ⟨rfl, rfl⟩ | rfl); (· intro w' hw'; first | ((with_reducible refine (fail).mono ?_); rintro e w2 ⟨rfl, hb⟩; exact ⟨rfl, hw'.below hb⟩)); (simp only [Act.put, List.setIfInBounds_toArray, List.set_cons_zero, List.set_cons_succ]; go_big_quiet_on)))
    refine wpQuiet_nil ?_
    intro w9 hk9
    (have hk' := hk9; simp only [KeptC, List.forall_mem_cons] at hk'; go_split_ands); have hkB9 := hk9.1
    go_wp2
    go_roundw
    case rel => exact ⟨k + 1, by omega, by go_num, (Qk1 hkB9)⟩
    case measure => simp [intOf]; omega
end Go.Proofs.YtkfodkbgmpbmfaaGreat
namespace Go.Proofs.YtkfodkbgmpbmfaaGreat
open Go.ChangeShapes Go.WideShapes Go.ChangeAt Go.RowKit Go.Shelf Go.Deep Go.Joins Go.ChangeMaps
set_option linter.unusedVariables false
set_option linter.unusedSimpArgs false
set_option maxRecDepth 100000
theorem own_se {w : World} {base n c : Nat} {A : Option Addr} {l : List Seat} (h : OwnE encSe 4 124 w base (.slice A n c) l) (hn : l.length = n) : RowsE encSe 4 w w.heap.size A n l := by
 obtain ⟨A4, c4, e, h2⟩ := OwnE.at_ encSe_len h
 injection e with e1 e2 e3
 rw [e1, ← hn]
 exact h2
set_option maxHeartbeats 16000000 in
theorem viewSeats_any (x : Wd) (dks : List Sl) (dgs : List Bg.Dg) (svs : List Bg.LK) (nm : ByteArray) (w : World) (hx : WdAll w x dks dgs svs) :
    Calls Tryz.prog 7 #[WdV x, .string nm] w fun e w' => e = .returned (.bool true) ∧ Below w.heap.size w w' := by
 have CF := Lib.hid (fun W (hb : Below w.heap.size w W) => wdfit_any x dks dgs svs W (hx.below hb))
 have HOK := Lib.hid (fun (h : FitW x) => (⟨hx.cells, h⟩ : WdOk w x))
 clear hx
 go_enter Tryz.func7, Tryz.ntmps7
 go_wp2_with (fail)
 refine (CF.out _ Qb).mono ?_; rintro e w1 ⟨bo, rfl, hF, hb1⟩
 have hk1 : KeptC w [(⟨w.heap.size, 0, none⟩, .slice x.na x.nn x.nc), (⟨w.heap.size, 1, none⟩, .slice x.ua x.un x.uc), (⟨w.heap.size, 2, none⟩, .slice x.da x.dn x.dc), (⟨w.heap.size, 3, none⟩, .int .i64 x.nx), (⟨w.heap.size, 4, none⟩, .slice x.la x.ll x.lc), (⟨w.heap.size, 5, none⟩, .slice x.sa x.sl x.sc), (⟨w.heap.size, 6, none⟩, .int .i64 x.lost)] [] w1 := by
  refine KeptC.below ?_ hb1
  exact Qk
 simp only [KeptC, List.forall_mem_cons] at hk1; obtain ⟨kb1, ⟨kc1_0, kc1_1, kc1_2, kc1_3, kc1_4, kc1_5, kc1_6, _⟩, _⟩ := hk1
 have hz1 : w.heap.size < w1.heap.size := cell_lt kc1_0
 clear hb1 CF
 cases bo with
 | false =>
  clear HOK hF
  go_wp2_with (fail)
  refine (awake_any _).mono ?_; rintro e w2 ⟨rfl, hb2⟩
  go_wp2
  go_ret
  exact ⟨rfl, (Qb2 hb2 kb1)⟩
 | true =>
  have hok := HOK.out (hF rfl)
  clear HOK hF
  have ci := (fun W (hb : Below w.heap.size w W) => vspread_any x nm W (hok.below hb))
  have cj := (fun W (hb : Below w.heap.size w W) => rspread_any x nm W (hok.below hb))
  have ch := (fun W (hb : Below w.heap.size w W) => vsquares_any x nm W (hok.below hb))
  have cg := (fun W (hb : Below w.heap.size w W) => rsquares22_any x nm W (hok.below hb))
  have HB1 : Hid (∀ W, (Below w.heap.size w W) → Calls Tryz.prog 35 #[WdV x, .string nm] W fun e w' => ∃ A c, e = .returned (.slice A (seatsB x nm).length c) ∧ RowsE encSe 4 w' w'.heap.size A (seatsB x nm).length (seatsB x nm) ∧ Below W.heap.size W w') := Lib.hid (fun W hS => (vseats_any x nm W (hok.below hS)).mono (fun e w' ⟨A, n, c, he, hn, ho, hb⟩ => ⟨A, c, by rw [hn]; exact he, by rw [hn]; exact own_se ho hn, hb⟩))
  have HB2 : Hid (∀ W, (Below w.heap.size w W) → Calls Tryz.prog 36 #[WdV x, .string nm] W fun e w' => ∃ A c, e = .returned (.slice A (seatsB x nm).length c) ∧ RowsE encSe 4 w' w'.heap.size A (seatsB x nm).length (seatsB x nm) ∧ Below W.heap.size W w') := Lib.hid (fun W hS => (rseats_any x nm W (hok.below hS)).mono (fun e w' ⟨A, n, c, he, hn, ho, hb⟩ => ⟨A, c, by rw [hn]; exact he, by rw [hn]; exact own_se ho hn, hb⟩))
  have HB3 : Hid (∀ W, (Below w.heap.size w W) → Calls Tryz.prog 37 #[WdV x, .string nm] W fun e w' => e = .returned (.bool (everyB x nm)) ∧ Below W.heap.size W w') := Lib.hid (fun W hS => vevery_any x nm W (hok.below hS))
  have HB4 : Hid (∀ W, (Below w.heap.size w W) → Calls Tryz.prog 38 #[WdV x, .string nm] W fun e w' => e = .returned (.bool (everyB x nm)) ∧ Below W.heap.size W w') := Lib.hid (fun W hS => revery_any x nm W (hok.below hS))
  have hle := seats_len x nm
  have hln : (seatsB x nm).length ≤ 1000 := by have h1 := hok.fit.n1; omega
  generalize (if valE (seatsB x nm) = 0 then lowL (valL (seatsB x nm)) else 0) = q1 at ci cj
  generalize (if valE (seatsB x nm) = 0 then highL (valL (seatsB x nm)) else 0) = q2 at ci cj
  generalize Rg.sqL (valL (seatsB x nm)) = qs at ch cg
  generalize valE (seatsB x nm) = er at ci cj ch cg
  obtain ⟨qh, ql⟩ := qs
  generalize seatsB x nm = L1 at HB1 HB2 hln
  generalize hN1 : L1.length = N1 at HB1 HB2 hln
  generalize everyB x nm = ev at HB3 HB4
  have CS1 := Lib.hid (fun (A1 A2 : Option Addr) (c1 c2 : Nat) W (h1 : RowsE encSe 4 W W.heap.size A1 N1 L1) (h2 : RowsE encSe 4 W W.heap.size A2 N1 L1) => lseats_any A1 A2 N1 c1 c2 L1 W h1 h2 hln)
  have CAW := Lib.hid (fun W => awake_any W)
  clear hok hle hln hN1
  have CI := Lib.hid ci; have CJ := Lib.hid cj; have CH := Lib.hid ch; have CG := Lib.hid cg
  clear ci cj ch cg
  obtain ⟨na, nn, nc, ua, un, uc, da, dn, dc, nx, la, ll, lc, sa, sl, sc, lost, nds, ups⟩ := x
  simp only [] at kc1_0 kc1_1 kc1_2 kc1_3 kc1_4 kc1_5 kc1_6
  go_wp2_with (fail)
  refine (CI.out _ (Qb1 kb1)).mono ?_; rintro e w2 ⟨rfl, hb2⟩
  have hk2 : KeptC w [(⟨w.heap.size, 0, none⟩, .slice na nn nc), (⟨w.heap.size, 1, none⟩, .slice ua un uc), (⟨w.heap.size, 2, none⟩, .slice da dn dc), (⟨w.heap.size, 3, none⟩, .int .i64 nx), (⟨w.heap.size, 4, none⟩, .slice la ll lc), (⟨w.heap.size, 5, none⟩, .slice sa sl sc), (⟨w.heap.size, 6, none⟩, .int .i64 lost)] [] w2 := by
   refine KeptC.below ?_ hb2
   exact Qk1 kb1
  simp only [KeptC, List.forall_mem_cons] at hk2; obtain ⟨kb2, ⟨kc2_0, kc2_1, kc2_2, kc2_3, kc2_4, kc2_5, kc2_6, _⟩, _⟩ := hk2
  have hz2 : w.heap.size < w2.heap.size := cell_lt kc2_0
  clear hb2 CI kb1 hz1 kc1_0 kc1_1 kc1_2 kc1_3 kc1_4 kc1_5 kc1_6
  go_wp2_with (fail)
  refine (CJ.out _ (Qb1 kb2)).mono ?_; rintro e w3 ⟨rfl, hb3⟩
  have hk3 : KeptC w [(⟨w.heap.size, 0, none⟩, .slice na nn nc), (⟨w.heap.size, 1, none⟩, .slice ua un uc), (⟨w.heap.size, 2, none⟩, .slice da dn dc), (⟨w.heap.size, 3, none⟩, .int .i64 nx), (⟨w.heap.size, 4, none⟩, .slice la ll lc), (⟨w.heap.size, 5, none⟩, .slice sa sl sc), (⟨w.heap.size, 6, none⟩, .int .i64 lost)] [] w3 := by
   refine KeptC.below ?_ hb3
   exact Qk1 kb2
  simp only [KeptC, List.forall_mem_cons] at hk3; obtain ⟨kb3, ⟨kc3_0, kc3_1, kc3_2, kc3_3, kc3_4, kc3_5, kc3_6, _⟩, _⟩ := hk3
  have hz3 : w.heap.size < w3.heap.size := cell_lt kc3_0
  clear hb3 CJ kb2 hz2 kc2_0 kc2_1 kc2_2 kc2_3 kc2_4 kc2_5 kc2_6
  go_wp2_with (fail)
  refine (CH.out _ (Qb1 kb3)).mono ?_; rintro e w4 ⟨rfl, hb4⟩
  have hk4 : KeptC w [(⟨w.heap.size, 0, none⟩, .slice na nn nc), (⟨w.heap.size, 1, none⟩, .slice ua un uc), (⟨w.heap.size, 2, none⟩, .slice da dn dc), (⟨w.heap.size, 3, none⟩, .int .i64 nx), (⟨w.heap.size, 4, none⟩, .slice la ll lc), (⟨w.heap.size, 5, none⟩, .slice sa sl sc), (⟨w.heap.size, 6, none⟩, .int .i64 lost)] [] w4 := by
   refine KeptC.below ?_ hb4
   exact Qk1 kb3
  simp only [KeptC, List.forall_mem_cons] at hk4; obtain ⟨kb4, ⟨kc4_0, kc4_1, kc4_2, kc4_3, kc4_4, kc4_5, kc4_6, _⟩, _⟩ := hk4
  have hz4 : w.heap.size < w4.heap.size := cell_lt kc4_0
  clear hb4 CH kb3 hz3 kc3_0 kc3_1 kc3_2 kc3_3 kc3_4 kc3_5 kc3_6
  go_wp2_with (fail)
  refine (CG.out _ (Qb1 kb4)).mono ?_; rintro e w5 ⟨rfl, hb5⟩
  have hk5 : KeptC w [(⟨w.heap.size, 0, none⟩, .slice na nn nc), (⟨w.heap.size, 1, none⟩, .slice ua un uc), (⟨w.heap.size, 2, none⟩, .slice da dn dc), (⟨w.heap.size, 3, none⟩, .int .i64 nx), (⟨w.heap.size, 4, none⟩, .slice la ll lc), (⟨w.heap.size, 5, none⟩, .slice sa sl sc), (⟨w.heap.size, 6, none⟩, .int .i64 lost), (⟨w4.heap.size, 0, none⟩, .int .u64 qh), (⟨w4.heap.size, 1, none⟩, .int .u64 ql)] [] w5 := by
   refine KeptC.below ?_ hb5
   exact Qk1 kb4
  simp only [KeptC, List.forall_mem_cons] at hk5; obtain ⟨kb5, ⟨kc5_0, kc5_1, kc5_2, kc5_3, kc5_4, kc5_5, kc5_6, kc5_7, kc5_8, _⟩, _⟩ := hk5
  have hz5 : w.heap.size < w5.heap.size := cell_lt kc5_0
  have hy5 : w4.heap.size < w5.heap.size := cell_lt kc5_7
  clear hb5 CG kb4 hz4 kc4_0 kc4_1 kc4_2 kc4_3 kc4_4 kc4_5 kc4_6
  go_upto_region 7 with (fail)
  refine lay1 (fun W => Below w.heap.size w W ∧ W.cell? ⟨w.heap.size, 0, none⟩ = some (.slice na nn nc) ∧ W.cell? ⟨w.heap.size, 1, none⟩ = some (.slice ua un uc) ∧ W.cell? ⟨w.heap.size, 2, none⟩ = some (.slice da dn dc) ∧ W.cell? ⟨w.heap.size, 3, none⟩ = some (.int .i64 nx) ∧ W.cell? ⟨w.heap.size, 4, none⟩ = some (.slice la ll lc) ∧ W.cell? ⟨w.heap.size, 5, none⟩ = some (.slice sa sl sc) ∧ W.cell? ⟨w.heap.size, 6, none⟩ = some (.int .i64 lost) ∧ W.cell? ⟨w4.heap.size, 0, none⟩ = some (.int .u64 qh) ∧ W.cell? ⟨w4.heap.size, 1, none⟩ = some (.int .u64 ql) ∧ W.cell? ⟨w5.heap.size, 0, none⟩ = some (.int .u64 qh) ∧ W.cell? ⟨w5.heap.size, 1, none⟩ = some (.int .u64 ql)) ⟨(Qb1 kb5), by go_simp, by go_simp, by go_simp, by go_simp, by go_simp, by go_simp, by go_simp, by go_simp, by go_simp, by go_simp, by go_simp⟩ ?_
  rintro w7 ⟨kb7, kc7_0, kc7_1, kc7_2, kc7_3, kc7_4, kc7_5, kc7_6, kc7_7, kc7_8, kc7_9, kc7_10⟩
  clear kb5 hz5 hy5 kc5_0 kc5_1 kc5_2 kc5_3 kc5_4 kc5_5 kc5_6 kc5_7 kc5_8
  have HI : Hid (Below w.heap.size w w7 ∧ w7.cell? ⟨w.heap.size, 0, none⟩ = some (.slice na nn nc) ∧ w7.cell? ⟨w.heap.size, 1, none⟩ = some (.slice ua un uc) ∧ w7.cell? ⟨w.heap.size, 2, none⟩ = some (.slice da dn dc) ∧ w7.cell? ⟨w.heap.size, 3, none⟩ = some (.int .i64 nx) ∧ w7.cell? ⟨w.heap.size, 4, none⟩ = some (.slice la ll lc) ∧ w7.cell? ⟨w.heap.size, 5, none⟩ = some (.slice sa sl sc) ∧ w7.cell? ⟨w.heap.size, 6, none⟩ = some (.int .i64 lost) ∧ w7.cell? ⟨w4.heap.size, 0, none⟩ = some (.int .u64 qh) ∧ w7.cell? ⟨w4.heap.size, 1, none⟩ = some (.int .u64 ql) ∧ w7.cell? ⟨w5.heap.size, 0, none⟩ = some (.int .u64 qh) ∧ w7.cell? ⟨w5.heap.size, 1, none⟩ = some (.int .u64 ql)) := Lib.hid ⟨kb7, kc7_0, kc7_1, kc7_2, kc7_3, kc7_4, kc7_5, kc7_6, kc7_7, kc7_8, kc7_9, kc7_10⟩
  have kS : ∀ p q : World, (Below w.heap.size w p ∧ p.cell? ⟨w.heap.size, 0, none⟩ = some (.slice na nn nc) ∧ p.cell? ⟨w.heap.size, 1, none⟩ = some (.slice ua un uc) ∧ p.cell? ⟨w.heap.size, 2, none⟩ = some (.slice da dn dc) ∧ p.cell? ⟨w.heap.size, 3, none⟩ = some (.int .i64 nx) ∧ p.cell? ⟨w.heap.size, 4, none⟩ = some (.slice la ll lc) ∧ p.cell? ⟨w.heap.size, 5, none⟩ = some (.slice sa sl sc) ∧ p.cell? ⟨w.heap.size, 6, none⟩ = some (.int .i64 lost) ∧ p.cell? ⟨w4.heap.size, 0, none⟩ = some (.int .u64 qh) ∧ p.cell? ⟨w4.heap.size, 1, none⟩ = some (.int .u64 ql) ∧ p.cell? ⟨w5.heap.size, 0, none⟩ = some (.int .u64 qh) ∧ p.cell? ⟨w5.heap.size, 1, none⟩ = some (.int .u64 ql)) → Below p.heap.size p q → (Below w.heap.size w q ∧ q.cell? ⟨w.heap.size, 0, none⟩ = some (.slice na nn nc) ∧ q.cell? ⟨w.heap.size, 1, none⟩ = some (.slice ua un uc) ∧ q.cell? ⟨w.heap.size, 2, none⟩ = some (.slice da dn dc) ∧ q.cell? ⟨w.heap.size, 3, none⟩ = some (.int .i64 nx) ∧ q.cell? ⟨w.heap.size, 4, none⟩ = some (.slice la ll lc) ∧ q.cell? ⟨w.heap.size, 5, none⟩ = some (.slice sa sl sc) ∧ q.cell? ⟨w.heap.size, 6, none⟩ = some (.int .i64 lost) ∧ q.cell? ⟨w4.heap.size, 0, none⟩ = some (.int .u64 qh) ∧ q.cell? ⟨w4.heap.size, 1, none⟩ = some (.int .u64 ql) ∧ q.cell? ⟨w5.heap.size, 0, none⟩ = some (.int .u64 qh) ∧ q.cell? ⟨w5.heap.size, 1, none⟩ = some (.int .u64 ql)) := by
   rintro p q ⟨k0, k1, k2, k3, k4, k5, k6, k7, k8, k9, ka, kb⟩ hb
   exact ⟨k0.trans (hb.mono k0.size), (hb.cell (cell_lt k1)).trans k1, (hb.cell (cell_lt k2)).trans k2, (hb.cell (cell_lt k3)).trans k3, (hb.cell (cell_lt k4)).trans k4, (hb.cell (cell_lt k5)).trans k5, (hb.cell (cell_lt k6)).trans k6, (hb.cell (cell_lt k7)).trans k7, (hb.cell (cell_lt k8)).trans k8, (hb.cell (cell_lt k9)).trans k9, (hb.cell (cell_lt ka)).trans ka, (hb.cell (cell_lt kb)).trans kb⟩
  have KS := Lib.hid kS
  have HBW : Hid (∀ p : World, (Below w.heap.size w p ∧ p.cell? ⟨w.heap.size, 0, none⟩ = some (.slice na nn nc) ∧ p.cell? ⟨w.heap.size, 1, none⟩ = some (.slice ua un uc) ∧ p.cell? ⟨w.heap.size, 2, none⟩ = some (.slice da dn dc) ∧ p.cell? ⟨w.heap.size, 3, none⟩ = some (.int .i64 nx) ∧ p.cell? ⟨w.heap.size, 4, none⟩ = some (.slice la ll lc) ∧ p.cell? ⟨w.heap.size, 5, none⟩ = some (.slice sa sl sc) ∧ p.cell? ⟨w.heap.size, 6, none⟩ = some (.int .i64 lost) ∧ p.cell? ⟨w4.heap.size, 0, none⟩ = some (.int .u64 qh) ∧ p.cell? ⟨w4.heap.size, 1, none⟩ = some (.int .u64 ql) ∧ p.cell? ⟨w5.heap.size, 0, none⟩ = some (.int .u64 qh) ∧ p.cell? ⟨w5.heap.size, 1, none⟩ = some (.int .u64 ql)) → Below w.heap.size w p) := Lib.hid (fun p h => h.1)
  clear kS kb7 kc7_0 kc7_1 kc7_2 kc7_3 kc7_4 kc7_5 kc7_6 kc7_7 kc7_8 kc7_9 kc7_10
  cases ev with
  | true =>
   first | (go_region_held3 (fun w' => Below w.heap.size w w' ∧ w'.cell? ⟨w.heap.size, 0, none⟩ = some (.slice na nn nc) ∧ w'.cell? ⟨w.heap.size, 1, none⟩ = some (.slice ua un uc) ∧ w'.cell? ⟨w.heap.size, 2, none⟩ = some (.slice da dn dc) ∧ w'.cell? ⟨w.heap.size, 3, none⟩ = some (.int .i64 nx) ∧ w'.cell? ⟨w.heap.size, 4, none⟩ = some (.slice la ll lc) ∧ w'.cell? ⟨w.heap.size, 5, none⟩ = some (.slice sa sl sc) ∧ w'.cell? ⟨w.heap.size, 6, none⟩ = some (.int .i64 lost) ∧ w'.cell? ⟨w4.heap.size, 0, none⟩ = some (.int .u64 qh) ∧ w'.cell? ⟨w4.heap.size, 1, none⟩ = some (.int .u64 ql) ∧ w'.cell? ⟨w5.heap.size, 0, none⟩ = some (.int .u64 qh) ∧ w'.cell? ⟨w5.heap.size, 1, none⟩ = some (.int .u64 ql)) (repeat (first | with_reducible assumption | with_reducible exact HI.out | (with_reducible refine KS.out _ _ ?_ ((Below.refl _ _).alloc (Nat.le_refl _) _)) | (with_reducible refine KS.out _ _ ?_ (Below.drew (Below.refl _ _))) | (with_reducible refine KS.out _ _ ?_ (by with_reducible assumption)))) (first | ((with_reducible refine (HB1.out _ (HBW.out _ (by with_reducible assumption))).mono ?_); rintro e w21 ⟨A1, cA1, rfl, ho21, hb21⟩; have hS21 := KS.out _ _ (by with_reducible assumption) hb21) | ((with_reducible refine (HB2.out _ (HBW.out _ (by with_reducible assumption))).mono ?_); rintro e w22 ⟨A2, cA2, rfl, ho22, hb22⟩; have hS22 := KS.out _ _ (by with_reducible assumption) hb22) | ((with_reducible refine (CS1.out A1 A2 _ _ _ ((ho21.below hb22).more hb22.size) ho22).mono ?_); rintro e w25 ⟨rfl, hb25⟩; have hS25 := KS.out _ _ (by with_reducible assumption) hb25) | ((with_reducible refine (CS1.out A1 A2 _ _ _ ho21 ((ho22.below hb21).more hb21.size)).mono ?_); rintro e w25 ⟨rfl, hb25⟩; have hS25 := KS.out _ _ (by with_reducible assumption) hb25) | ((with_reducible refine (HB3.out _ (HBW.out _ (by with_reducible assumption))).mono ?_); rintro e w27 ⟨rfl, hb27⟩; have hS27 := KS.out _ _ (by with_reducible assumption) hb27) | ((with_reducible refine (HB4.out _ (HBW.out _ (by with_reducible assumption))).mono ?_); rintro e w28 ⟨rfl, hb28⟩; have hS28 := KS.out _ _ (by with_reducible assumption) hb28) | ((with_reducible refine (CAW.out _).mono ?_); rintro e w29 ⟨rfl, hb29⟩; have hS29 := KS.out _ _ (by with_reducible assumption) hb29))) | fail
   all_goals (go_wp2; go_ret; exact ⟨rfl, hS29.1⟩)
  | false =>
   first | (go_region_held3 (fun w' => Below w.heap.size w w' ∧ w'.cell? ⟨w.heap.size, 0, none⟩ = some (.slice na nn nc) ∧ w'.cell? ⟨w.heap.size, 1, none⟩ = some (.slice ua un uc) ∧ w'.cell? ⟨w.heap.size, 2, none⟩ = some (.slice da dn dc) ∧ w'.cell? ⟨w.heap.size, 3, none⟩ = some (.int .i64 nx) ∧ w'.cell? ⟨w.heap.size, 4, none⟩ = some (.slice la ll lc) ∧ w'.cell? ⟨w.heap.size, 5, none⟩ = some (.slice sa sl sc) ∧ w'.cell? ⟨w.heap.size, 6, none⟩ = some (.int .i64 lost) ∧ w'.cell? ⟨w4.heap.size, 0, none⟩ = some (.int .u64 qh) ∧ w'.cell? ⟨w4.heap.size, 1, none⟩ = some (.int .u64 ql) ∧ w'.cell? ⟨w5.heap.size, 0, none⟩ = some (.int .u64 qh) ∧ w'.cell? ⟨w5.heap.size, 1, none⟩ = some (.int .u64 ql)) (repeat (first | with_reducible assumption | with_reducible exact HI.out | (with_reducible refine KS.out _ _ ?_ ((Below.refl _ _).alloc (Nat.le_refl _) _)) | (with_reducible refine KS.out _ _ ?_ (Below.drew (Below.refl _ _))) | (with_reducible refine KS.out _ _ ?_ (by with_reducible assumption)))) (first | ((with_reducible refine (HB1.out _ (HBW.out _ (by with_reducible assumption))).mono ?_); rintro e w21 ⟨A1, cA1, rfl, ho21, hb21⟩; have hS21 := KS.out _ _ (by with_reducible assumption) hb21) | ((with_reducible refine (HB2.out _ (HBW.out _ (by with_reducible assumption))).mono ?_); rintro e w22 ⟨A2, cA2, rfl, ho22, hb22⟩; have hS22 := KS.out _ _ (by with_reducible assumption) hb22) | ((with_reducible refine (CS1.out A1 A2 _ _ _ ((ho21.below hb22).more hb22.size) ho22).mono ?_); rintro e w25 ⟨rfl, hb25⟩; have hS25 := KS.out _ _ (by with_reducible assumption) hb25) | ((with_reducible refine (CS1.out A1 A2 _ _ _ ho21 ((ho22.below hb21).more hb21.size)).mono ?_); rintro e w25 ⟨rfl, hb25⟩; have hS25 := KS.out _ _ (by with_reducible assumption) hb25) | ((with_reducible refine (HB3.out _ (HBW.out _ (by with_reducible assumption))).mono ?_); rintro e w27 ⟨rfl, hb27⟩; have hS27 := KS.out _ _ (by with_reducible assumption) hb27) | ((with_reducible refine (HB4.out _ (HBW.out _ (by with_reducible assumption))).mono ?_); rintro e w28 ⟨rfl, hb28⟩; have hS28 := KS.out _ _ (by with_reducible assumption) hb28) | ((with_reducible refine (CAW.out _).mono ?_); rintro e w29 ⟨rfl, hb29⟩; have hS29 := KS.out _ _ (by with_reducible assumption) hb29))) | fail
   all_goals (go_wp2; go_ret; exact ⟨rfl, hS29.1⟩)
theorem viewSeats_lifted (os : Os) (started : os.Started) (H : Type) (enc : TypeId × Value → H) :
    ReturnsInHanded {} Tryz.checked os 7 .any (Rows.viewSeatsSpec.pre6 enc Tryz.prog Tryz.f7 Rows.viewSeatsRow.domain false) (Rows.viewSeatsSpec.post enc Tryz.prog Tryz.f7 false true false false) := by
 refine returnsInHanded_of_change_sized (C := Tryz.checked) own started (by kernel_rfl) Tryz.func7
  (ChangeSpec.witness6 (enc := enc) (C := Tryz.checked) false ⟨#[], #[.agg #[.slice none 0 0, .slice none 0 0, .slice none 0 0, .int .i64 0, .slice none 0 0, .slice none 0 0, .int .i64 0], .string ⟨#[]⟩], []⟩ 8 (by kernel_rfl) (by kernel_rfl) (by kernel_rfl) (by kernel_rfl)) ?_
 intro W base args ds gs before hval hW _ hsz _
 have hW' := hW
 obtain ⟨p, q, hA, hV, rfl, hfz, hnd⟩ := hW
 obtain ⟨rfl, rfl⟩ := trodVars_none hV
 rw [Tryz.params7] at hA hval
 obtain ⟨v0, vs0, d0, ds0, p0, q0, hargs, rfl, rfl, h0, r0⟩ := trodAll_cons hA
 obtain ⟨v1, vs1, d1, ds1, p1, q1, rfl, rfl, rfl, h1, r1⟩ := trodAll_cons r0
 obtain ⟨rfl, rfl, rfl⟩ := trodAll_nil r1
 obtain rfl : args = #[v0, v1] := by cases args; simp_all
 obtain ⟨x, dks, dgs, svs, rfl, hx⟩ := open_world hsz (j := 0) rfl rfl (hval 0 _ v0 rfl rfl) h0
 obtain ⟨nm, rfl, _, _, wx⟩ := open_string Tryz.underlying9 (hval 1 _ v1 rfl rfl) h1
 refine (viewSeats_any x dks dgs svs nm W hx).mono fun e W' ⟨he, hg⟩ => ?_
 subst he
 exact ⟨_, rfl, law_post laidOut rfl (by kernel_rfl) rfl Tryz.underlying4 rfl hW' hg⟩

theorem viewSeats_holds : Rows.ViewSeatsSaid :=
 OpenClaim.holds_of_wide 7 Tryz.f7 rfl rfl rfl rfl rfl rfl rfl ⟨rfl, rfl, rfl, rfl, rfl⟩ rfl rfl rfl rfl rfl (by kernel_rfl) Tryz.func7 (by kernel_rfl)
  (of_decide_eq_true (by kernel_rfl)) (by unfold Func.isWrapper; first | (rw [if_pos (by decide +kernel)]; kernel_rfl) | (rw [if_neg (by decide +kernel)]; exact ⟨rfl, rfl⟩))
  (fun os started H enc _ => viewSeats_lifted os started H enc)

end Go.Proofs.YtkfodkbgmpbmfaaGreat
