/- Chapter 22, parts on the way: Yi Yk Yl Ym Yo -/
import Derived.Test.YtkfodkbgmpbmfaaGreatB01
import Derived.Test.YtkfodkbgmpbmfaaGreatB09
import Derived.Test.YtkfodkbgmpbmfaaGreatB36
set_option linter.unusedVariables false
set_option linter.unusedSimpArgs false
namespace Go.Proofs.YtkfodkbgmpbmfaaGreat
open Go.RowKit Go.Shelf
set_option linter.unusedVariables false
set_option linter.unusedSimpArgs false
set_option maxRecDepth 100000
theorem encI_one (x : Int) : ∀ u ∈ encI x, u.oneCell' = true := by
 intro u hu
 simp only [encI, List.mem_cons, List.not_mem_nil, or_false] at hu
 subst hu
 rfl
theorem i64_inf : (Tryz.prog.info? 2).map (fun i => (i.zero, i.size, i.bytes)) = some (some (.int .i64 0), 1, 8) := by kernel_rfl
def badS (L : List Seat) : Bool := L.any fun s => s.err != 0
def valE (L : List Seat) : Int := if badS L = true then 10 else if L = [] then 50 else 0
def valL (L : List Seat) : List Int := if badS L = true then [] else L.map Seat.est
theorem seats_err {x : Wd} {nm : ByteArray} {s : Seat} (h : s ∈ seatsB x nm) : s.err = 0 ∨ s.err = 10 := by
 unfold seatsB at h
 obtain ⟨k, _, hk⟩ := List.mem_filterMap.1 h
 unfold seatO at hk
 have ht : ∀ q : Int, (tellN q).2 = 0 ∨ (tellN q).2 = 10 := fun q => by unfold tellN; split <;> simp
 split at hk
 · cases hk
 · split at hk
   · cases hk
   · split at hk
     · obtain rfl := Option.some.inj hk
       exact ht _
     · cases hk
theorem bad_at {L : List Seat} {k : Nat} {s : Seat} (h : L[k]? = some s) (he : s.err ≠ 0) : badS L = true := by
 unfold badS
 rw [List.any_eq_true]
 exact ⟨s, List.mem_of_getElem? h, by simpa using he⟩
theorem bad_none {L : List Seat} (h : ∀ (t : Nat) s, t < L.length → L[t]? = some s → s.err = 0) : badS L = false := by
 unfold badS
 rw [List.any_eq_false]
 intro s hs
 obtain ⟨t, ht, e⟩ := List.getElem_of_mem hs
 have := h t s ht (by rw [List.getElem?_eq_getElem ht, e])
 simp [this]
theorem seats_len (x : Wd) (nm : ByteArray) : (seatsB x nm).length ≤ x.nds.length := by
 unfold seatsB
 have := List.length_filterMap_le (seatO x nm) (List.range x.nds.length)
 simpa using this
set_option maxHeartbeats 8000000 in
theorem vestimates_any (x : Wd) (nm : ByteArray) (w : World) (hx : WdOk w x) :
    Calls Tryz.prog 63 #[WdV x, .string nm] w fun e w' => ∃ A n c, e = .returned (.tuple #[.slice A n c, .int .i64 (valE (seatsB x nm))]) ∧ (valL (seatsB x nm)).length = n ∧ OwnE encI 1 2 w' w.heap.size (.slice A n c) (valL (seatsB x nm)) ∧ Below w.heap.size w w' := by
 have CS := Lib.hid (fun W (hb : Below w.heap.size w W) => vseats_any x nm W (hx.below hb))
 have HER := Lib.hid (fun s (h : s ∈ seatsB x nm) => seats_err h)
 have HLN := Lib.hid (show (seatsB x nm).length ≤ 16 from by have := seats_len x nm; have := hx.fit.n1; omega)
 clear hx
 generalize seatsB x nm = L at CS HER HLN ⊢
 obtain ⟨na, nn, nc, ua, un, uc, da, dn, dc, nx, la, ll, lc, sa, sl, sc, lost, nds, ups⟩ := x
 try simp only [] at CS ⊢
 go_enter Tryz.func63, Tryz.ntmps63
 go_wp2_with (fail)
 refine (CS.out _ Qb).mono ?_; rintro e w1 ⟨A0, n0, c0, rfl, hn0, hown, hb1⟩
 have HR : Hid (RowsE encSe 4 w1 w1.heap.size A0 n0 L) := Lib.hid (by
  obtain ⟨A4, c4, e, h⟩ := OwnE.at_ encSe_len hown
  injection e with e1 e2 e3
  rw [e1, e2]
  exact h)
 have kb1 : Below w.heap.size w w1 := (Qb1 hb1)
 have HK1 := Lib.hid kb1
 have HN0 := Lib.hid hn0
 have hn16 : n0 ≤ 16 := by rw [← hn0]; exact HLN.out
 clear hown hb1 hn0
 go_wp2
 go_loopw [13, 6] (fun i l w' => ∃ (k : Nat) (A : Option Addr) (n c : Nat), k ≤ n0 ∧ i = .int .i64 k ∧ l = .slice A n c ∧ Hid (((L.take k).map Seat.est).length = n) ∧ Hid (OwnE encI 1 2 w' w1.heap.size (.slice A n c) ((L.take k).map Seat.est)) ∧ Hid (∀ (t : Nat) s, t < k → L[t]? = some s → s.err = 0) ∧ Hid (Below w1.heap.size w1 w')) (fun i _ _ => n0 - (intOf i).toNat)
 case atStart => exact ⟨0, none, 0, 0, Nat.zero_le _, rfl, rfl, Lib.hid rfl, Lib.hid (OwnE.nil _ _ _), Lib.hid (fun t s h => absurd h (by omega)), Lib.hid (Below.refl _ _)⟩
 case round =>
  obtain ⟨k, A, n, c, hk, rfl, rfl, HLn, HO, HG, HB⟩ := hrel
  have hsr := HB.out.size
  by_cases hlt : k < n0
  rotate_left
  · obtain rfl : k = n0 := by omega
    have hbad : badS L = false := bad_none (fun t s ht => HG.out t s (by rw [← HN0.out]; exact ht))
    have htk : L.take k = L := List.take_of_length_le (by rw [HN0.out]; exact Nat.le_refl _)
    have HVL : Hid (valL L = L.map Seat.est) := Lib.hid (by unfold valL; rw [hbad]; rfl)
    have HVE : Hid (valE L = if L = [] then 50 else 0) := Lib.hid (by unfold valE; rw [hbad]; rfl)
    have HKB : Hid (Below w.heap.size w wr) := Lib.hid (HK1.out.trans (HB.out.mono HK1.out.size))
    rw [htk] at HLn HO
    have hnk : n = k := by have h1 := HLn.out; rw [List.length_map, HN0.out] at h1; exact h1.symm
    clear hbad htk
    by_cases h0 : n = 0
    · have HL0 : Hid (L = []) := Lib.hid (List.length_eq_zero_iff.1 (by rw [HN0.out]; omega))
      subst h0
      clear hnk
      go_wp2
      go_ret2
      refine ⟨none, 0, 0, by rw [HVE.out, if_pos HL0.out]; rfl, by rw [HVL.out, HL0.out]; rfl, by rw [HVL.out, HL0.out]; exact OwnE.nil _ _ _, HKB.out⟩
    · have HL0 : Hid (¬ L = []) := Lib.hid (fun h => h0 (by have h1 := HN0.out; rw [h] at h1; simp at h1; omega))
      have q : ((n : Int) == 0) = false := by simpa using h0
      clear hnk
      go_wp2
      go_ret2
      refine ⟨A, n, c, by rw [HVE.out, if_neg HL0.out]; rfl, by rw [HVL.out]; exact HLn.out, by rw [HVL.out]; exact HO.out.less HK1.out.size, HKB.out⟩
  · obtain ⟨ad, s, rfl, hab, hs, h4⟩ := HR.out.at hlt
    obtain ⟨P, hP⟩ : ∃ P, ad.add (k * 4) = P := ⟨_, rfl⟩
    rw [hP] at h4 hab
    have hPw : P.block < wr.heap.size := by omega
    have p0 : wr.cell? P = some (.int .i64 s.node) := by have := h4 0 _ rfl; rw [Bg.add_z] at this; exact (HB.out.cell hab).trans this
    have p1 : wr.cell? ⟨P.block, P.off + 1, none⟩ = some (.int .i64 s.inp) := by have := h4 1 _ rfl; rw [Bg.add_next] at this; exact (HB.out.cell (p := ⟨P.block, P.off + 1, none⟩) hab).trans this
    have p2 : wr.cell? ⟨P.block, P.off + 2, none⟩ = some (.int .i64 s.est) := by have := h4 2 _ rfl; rw [Bg.add_next] at this; exact (HB.out.cell (p := ⟨P.block, P.off + 2, none⟩) hab).trans this
    have p3 : wr.cell? ⟨P.block, P.off + 3, none⟩ = some (.int .i64 s.err) := by have := h4 3 _ rfl; rw [Bg.add_next] at this; exact (HB.out.cell (p := ⟨P.block, P.off + 3, none⟩) hab).trans this
    have HS := Lib.hid hs
    have hwk : IntKind.i64.wrap ((k : Int) + 1) = (k : Int) + 1 := by rw [IntKind.wrap_i64]; omega
    have HKB : Hid (Below w.heap.size w wr) := Lib.hid (HK1.out.trans (HB.out.mono HK1.out.size))
    clear h4 hs
    obtain ⟨node, inp, est, err⟩ := s
    simp only [] at p0 p1 p2 p3
    by_cases he : err = 0
    · subst he
      have HB9 : Hid (n + 1 ≤ maxLen ∧ (n + 1) * 8 ≤ 140737488355328) := Lib.hid (by have h1 := HLn.out; rw [List.length_map, List.length_take] at h1; simp only [maxLen]; omega)
      have HT : Hid ((L.take (k + 1)).map Seat.est = (L.take k).map Seat.est ++ [est]) := Lib.hid (by rw [List.take_add_one, HS.out]; simp)
      have HG2 : Hid (∀ (t : Nat) s, t < k + 1 → L[t]? = some s → s.err = 0) := Lib.hid (by
       intro t s ht hs
       rcases Nat.lt_or_eq_of_le (Nat.lt_succ_iff.1 ht) with h1 | h1
       · exact HG.out t s h1 hs
       · subst h1
         rw [HS.out] at hs
         obtain rfl := Option.some.inj hs
         rfl)
      go_upto_region 7 with (fail)
      refine lay1 (fun W => W.cell? ⟨wr.heap.size, 2, none⟩ = some (.int .i64 est) ∧ Below wr.heap.size wr W) ⟨by go_simp, Qb⟩ ?_
      rintro w2 ⟨k2, hb2⟩
      have hz2 : wr.heap.size < w2.heap.size := cell_lt k2
      have HO2 := Lib.hid (HO.out.below hb2)
      have HB2 := Lib.hid hb2
      clear hb2 p0 p1 p2 p3
      go_wp2_with (at_builtin; refine wpList_app1H encI_len encI_one (by decide) rfl (.tmp 22) (.tmp 25) 116 2 rfl Tryz.underlying116 i64_inf rfl w1.heap.size ((L.take k).map Seat.est) A n c HLn.out rfl (HO2.out.below ((Below.refl _ _).alloc (Nat.le_refl _) _)) P.block (by simp; omega) (own_ne HO2.out hab) ⟨w2.heap.size, 0, none⟩ 1 rfl est (fun i u hu => by have h := ((LocX.fresh (enc := encI) w2 #[.int .i64 est] 2 est rfl).2 i u hu).1; rw [Addr.add_lit, Nat.zero_add]; exact h) (by simp) HB9.out.1 HB9.out.2 (by simp; omega) ?_; rintro O7 A7 n7 c7 w7 hO7 hn7 hown7 hb7 _ _; have HO7 := Lib.hid hO7; have HN7 := Lib.hid hn7; have HW7 := Lib.hid hown7; have HB7 : Hid (Below w1.heap.size wr w7) := Lib.hid (((Qb1 HB2.out) : Below w1.heap.size wr _).trans hb7); clear hO7 hn7 hown7 hb7)
      have HT7 : Hid ((L.take (k + 1)).map Seat.est = O7) := Lib.hid (by rw [HT.out, HO7.out])
      go_roundw
      case rel => exact ⟨k + 1, A7, n7, c7, by omega, by go_num, rfl, Lib.hid (by rw [HT7.out]; exact HN7.out), Lib.hid (by rw [HT7.out]; exact HW7.out), HG2, Lib.hid (HB.out.trans HB7.out)⟩
      case measure => simp [intOf]; omega
    · obtain rfl : err = 10 := by
        have := HER.out _ (List.mem_of_getElem? HS.out)
        simp only [] at this
        omega
      have HBD : Hid (badS L = true) := Lib.hid (bad_at HS.out (by simp))
      clear he
      go_wp2_with (fail)
      refine wp_region_quietC_lit (KeptC wr [(⟨wr.heap.size, 3, none⟩, .int .i64 10)] []) (by kernel_rfl) (by kernel_rfl) ?_ ?_
      · refine KeptC.drewn ?_
        exact Qk
      repeat (first
       | go_big_quiet_skip
       | (go_big_quiet_want; (apply quietC_run); (· intro w' hw'; (have hk' := hw'; simp only [KeptC, List.forall_mem_cons] at hk'; go_split_ands); go_simp; first | done | rfl); (simp only [Act.put, List.setIfInBounds_toArray, List.set_cons_zero, List.set_cons_succ]; go_big_quiet_on))
       | (go_big_quiet_want; (apply quietC_call); (· intro w' hw'; go_simp; first | done | exact ⟨rfl, rfl⟩ | rfl); (· intro w' hw'; first | ((with_reducible refine (fail).mono ?_); rintro e w2 ⟨rfl, hb⟩; exact ⟨rfl, hw'.below hb⟩)); (simp only [Act.put, List.setIfInBounds_toArray, List.set_cons_zero, List.set_cons_succ]; go_big_quiet_on)))
      refine wpQuiet_nil ?_
      intro w9 hk9
      (have hk' := hk9; simp only [KeptC, List.forall_mem_cons] at hk'; go_split_ands); have hkB9 := hk9.1
      have HB9 : Hid (Below w.heap.size w w9) := Lib.hid (HKB.out.trans (hkB9.mono HKB.out.size))
      go_wp2
      go_ret2
      exact ⟨none, 0, 0, by unfold valE; rw [HBD.out]; rfl, by unfold valL; rw [HBD.out]; rfl, by unfold valL; rw [HBD.out]; exact OwnE.nil _ _ _, HB9.out⟩
end Go.Proofs.YtkfodkbgmpbmfaaGreat
namespace Go.Proofs.YtkfodkbgmpbmfaaGreat
open Go.Proofs.YtkfodkbgmpbmfaaGreat.Rg
open Go.RowKit Go.Shelf
set_option linter.unusedVariables false
set_option linter.unusedSimpArgs false
set_option maxRecDepth 100000
theorem flatI : ∀ L : List Int, flatE encI L = L.map (Value.int .i64)
 | [] => rfl
 | x :: xs => by
  have ih := flatI xs
  have e : flatE encI (x :: xs) = encI x ++ flatE encI xs := rfl
  rw [e, ih]
  rfl
theorem vals_reads {w : World} {B n : Nat} {A : Option Addr} {L : List Int} (h : RowsE encI 1 w B A n L) : Reads w B 1 A n (L.map (Value.int .i64)) := by
 have h1 := h.reads encI_len
 rwa [flatI] at h1
theorem est_bd {x : Wd} {nm : ByteArray} {s : Seat} (h : s ∈ seatsB x nm) : -2147483647 ≤ s.est ∧ s.est ≤ 2147483647 := by
 unfold seatsB at h
 obtain ⟨k, _, hk⟩ := List.mem_filterMap.1 h
 unfold seatO at hk
 have ht : ∀ q : Int, -2147483647 ≤ (tellN q).1 ∧ (tellN q).1 ≤ 2147483647 := fun q => by
  unfold tellN
  split
  · rename_i h
    unfold Rg.flowsB at h
    simpa using h
  · simp
 split at hk
 · cases hk
 · split at hk
   · cases hk
   · split at hk
     · obtain rfl := Option.some.inj hk
       exact ht _
     · cases hk
theorem val_bd {x : Wd} {nm : ByteArray} {v : Int} (h : v ∈ valL (seatsB x nm)) : -2147483647 ≤ v ∧ v ≤ 2147483647 := by
 unfold valL at h
 split at h
 · cases h
 · obtain ⟨s, hs, rfl⟩ := List.mem_map.1 h
   exact est_bd hs
theorem val_len (x : Wd) (nm : ByteArray) : (valL (seatsB x nm)).length ≤ x.nds.length := by
 unfold valL
 split
 · simp
 · rw [List.length_map]; exact seats_len x nm
set_option maxHeartbeats 4000000 in
theorem vsquares_any (x : Wd) (nm : ByteArray) (w : World) (hx : WdOk w x) :
    Calls Tryz.prog 32 #[WdV x, .string nm] w fun e w' => e = .returned (.tuple #[.agg #[.int .u64 (Rg.sqL (valL (seatsB x nm))).hi, .int .u64 (Rg.sqL (valL (seatsB x nm))).lo], .int .i64 (valE (seatsB x nm))]) ∧ Below w.heap.size w w' := by
 have CE := Lib.hid (fun W (hb : Below w.heap.size w W) => vestimates_any x nm W (hx.below hb))
 have HBD := Lib.hid (fun v (h : v ∈ valL (seatsB x nm)) => val_bd h)
 have HLN := Lib.hid (show (valL (seatsB x nm)).length ≤ 16 from by have := val_len x nm; have := hx.fit.n1; omega)
 have HZ : Hid (valE (seatsB x nm) ≠ 0 → Rg.sqL (valL (seatsB x nm)) = ⟨0, 0⟩) := Lib.hid (fun h => by
  have e : valL (seatsB x nm) = [] := by
   unfold valL
   unfold valE at h
   split at h
   · rename_i h1; rw [if_pos h1]
   · split at h
     · rename_i h1 h2; rw [h2] at *; rfl
     · exact absurd rfl h
  rw [e]
  rfl)
 clear hx
 generalize valL (seatsB x nm) = V at CE HBD HLN HZ ⊢
 generalize valE (seatsB x nm) = er at CE HZ ⊢
 have CQ := Lib.hid (fun (A : Option Addr) (n c : Nat) W (hn : V.length = n) (hr : RowsE encI 1 W W.heap.size A n V) => Rg.squares_any A n c V W hn (vals_reads hr) (fun v hv => by have := HBD.out v hv; omega) (by have := HLN.out; simp only [maxLen]; omega))
 generalize Rg.sqL V = q at CQ HZ ⊢
 obtain ⟨qh, ql⟩ := q
 obtain ⟨na, nn, nc, ua, un, uc, da, dn, dc, nx, la, ll, lc, sa, sl, sc, lost, nds, ups⟩ := x
 try simp only [] at CE CQ ⊢
 go_enter Tryz.func32, Tryz.ntmps32
 go_wp2_with (fail)
 refine (CE.out _ Qb).mono ?_; rintro e w1 ⟨A, n, c, rfl, hn, hown, hb1⟩
 have hk1 : KeptC w [(⟨w.heap.size + 1, 0, none⟩, .int .u64 0), (⟨w.heap.size + 1, 1, none⟩, .int .u64 0)] [⟨w.heap.size + 1, 0, none⟩, ⟨w.heap.size + 1, 1, none⟩] w1 := by
  refine KeptC.below ?_ hb1
  exact Qk
 simp only [KeptC, List.forall_mem_cons] at hk1; obtain ⟨kb1, ⟨kc1_0, kc1_1, _⟩, ⟨kz1_0, kg1_0⟩, ⟨kz1_1, kg1_1⟩, _⟩ := hk1
 have hz1 : w.heap.size + 1 < w1.heap.size := cell_lt kc1_0
 have HR : Hid (RowsE encI 1 w1 w1.heap.size A n V) := Lib.hid (by
  obtain ⟨A4, c4, e, h⟩ := OwnE.at_ encI_len hown
  injection e with e1 e2 e3
  rw [e1, e2]
  exact h)
 have HN := Lib.hid hn
 clear hb1 CE hown hn
 go_wp2_with (fail)
 refine (CQ.out A n c _ HN.out HR.out).mono ?_; rintro e w2 ⟨rfl, hb2⟩
 have hk2 : KeptC w [(⟨w.heap.size + 1, 0, none⟩, .int .u64 0), (⟨w.heap.size + 1, 1, none⟩, .int .u64 0)] [⟨w.heap.size + 1, 0, none⟩, ⟨w.heap.size + 1, 1, none⟩] w2 := by
  refine KeptC.below ?_ hb2
  exact Qk1 kb1
 simp only [KeptC, List.forall_mem_cons] at hk2; obtain ⟨kb2, ⟨kc2_0, kc2_1, _⟩, ⟨kz2_0, kg2_0⟩, ⟨kz2_1, kg2_1⟩, _⟩ := hk2
 clear hb2
 go_wp2
 refine bodyPost_ret (v := .tuple #[.agg #[.int .u64 qh, .int .u64 ql], .int .i64 er]) (by simp [results, Tryz.results32, go_sem, *]) rfl ⟨rfl, (Qb1 kb2)⟩
end Go.Proofs.YtkfodkbgmpbmfaaGreat
namespace Go.Proofs.YtkfodkbgmpbmfaaGreat
open Go.RowKit Go.Shelf
set_option linter.unusedVariables false
set_option linter.unusedSimpArgs false
set_option maxRecDepth 100000
theorem has_hit {rs : List Int} {v : Int} {k : Nat} (h : rs[k]? = some v) : rs.contains v = true := by
 rw [List.contains_iff_mem]
 exact List.mem_of_getElem? h
theorem has_none {rs : List Int} {v : Int} (h : ∀ (t : Nat) y, t < rs.length → rs[t]? = some y → y ≠ v) : rs.contains v = false := by
 cases hc : rs.contains v with
 | false => rfl
 | true =>
  rw [List.contains_iff_mem] at hc
  obtain ⟨t, ht, e⟩ := List.getElem_of_mem hc
  exact absurd e (h t rs[t] ht (List.getElem?_eq_getElem ht))
end Go.Proofs.YtkfodkbgmpbmfaaGreat
namespace Go.Proofs.YtkfodkbgmpbmfaaGreat
open Go.RowKit Go.Shelf
set_option linter.unusedVariables false
set_option linter.unusedSimpArgs false
set_option maxRecDepth 100000
theorem int_inf : (Tryz.prog.info? 3).map (fun i => (i.zero, i.size, i.bytes)) = some (some (.int .i64 0), 1, 8) := by kernel_rfl
set_option maxHeartbeats 8000000 in
theorem peers_any (A0 : Option Addr) (n0 c0 : Nat) (hs : List Hf) (w1 : World) (hr : HfsAt w1 w1.heap.size A0 n0 hs) (hn16 : n0 ≤ 16) :
    Calls Tryz.prog 60 #[.slice A0 n0 c0] w1 fun e w' => ∃ A n c, e = .returned (.slice A n c) ∧ (hs.map Hf.peer).length = n ∧ OwnE encI 1 3 w' w1.heap.size (.slice A n c) (hs.map Hf.peer) ∧ Below w1.heap.size w1 w' := by
 have HR := Lib.hid hr.1
 clear hr
 go_enter Tryz.func60, Tryz.ntmps60
 go_wp2
 go_loopw [8, 3] (fun i l w' => ∃ (k : Nat) (A : Option Addr) (n c : Nat), k ≤ n0 ∧ i = .int .i64 k ∧ l = .slice A n c ∧ Hid (((hs.take k).map Hf.peer).length = n) ∧ Hid (OwnE encI 1 3 w' w1.heap.size (.slice A n c) ((hs.take k).map Hf.peer)) ∧ Hid (Below w1.heap.size w1 w')) (fun i _ _ => n0 - (intOf i).toNat)
 case atStart => exact ⟨0, none, 0, 0, Nat.zero_le _, rfl, rfl, Lib.hid rfl, Lib.hid (OwnE.nil _ _ _), Lib.hid (Below.refl _ _)⟩
 case round =>
  obtain ⟨k, A, n, c, hk, rfl, rfl, HLn, HO, HB⟩ := hrel
  have hsr := HB.out.size
  by_cases hlt : k < n0
  rotate_left
  · obtain rfl : k = n0 := by omega
    have htk : hs.take k = hs := List.take_of_length_le (Nat.le_of_eq HR.out.1)
    rw [htk] at HLn HO
    go_wp2
    go_ret
    exact ⟨A, n, c, rfl, HLn.out, HO.out, HB.out⟩
  · obtain ⟨ad, s, rfl, hab, hs', h4⟩ := HR.out.at hlt
    obtain ⟨P, hP⟩ : ∃ P, ad.add (k * 6) = P := ⟨_, rfl⟩
    rw [hP] at h4 hab
    have hPw : P.block < wr.heap.size := by omega
    obtain ⟨p0, p1, p2, p3, p4, p5⟩ := (hf6_of h4).below hab HB.out
    have HS := Lib.hid hs'
    have hwk : IntKind.i64.wrap ((k : Int) + 1) = (k : Int) + 1 := by rw [IntKind.wrap_i64]; omega
    clear h4 hs'
    obtain ⟨peer, hboot, life, la, ln, lc, pend, miss, lines⟩ := s
    simp only [] at p0 p1 p2 p3 p4 p5
    have HB9 : Hid (n + 1 ≤ maxLen ∧ (n + 1) * 8 ≤ 140737488355328) := Lib.hid (by have h1 := HLn.out; rw [List.length_map, List.length_take] at h1; simp only [maxLen]; omega)
    have HT : Hid ((hs.take (k + 1)).map Hf.peer = (hs.take k).map Hf.peer ++ [peer]) := Lib.hid (by rw [List.take_add_one, HS.out]; simp)
    go_upto_region 5 with (fail)
    refine lay1 (fun W => W.cell? ⟨wr.heap.size, 0, none⟩ = some (.int .i64 peer) ∧ Below wr.heap.size wr W) ⟨by go_simp, Qb⟩ ?_
    rintro w2 ⟨k2, hb2⟩
    have hz2 : wr.heap.size < w2.heap.size := cell_lt k2
    have HO2 := Lib.hid (HO.out.below hb2)
    have HB2 := Lib.hid hb2
    clear hb2 p0 p1 p2 p3 p4 p5
    go_wp2_with (at_builtin; refine wpList_app1H encI_len encI_one (by decide) rfl (.tmp 12) (.tmp 15) 42 3 rfl Tryz.underlying42 int_inf rfl w1.heap.size ((hs.take k).map Hf.peer) A n c HLn.out rfl (HO2.out.below ((Below.refl _ _).alloc (Nat.le_refl _) _)) P.block (by simp; omega) (own_ne HO2.out hab) ⟨w2.heap.size, 0, none⟩ 1 rfl peer (fun i u hu => by have h := ((LocX.fresh (enc := encI) w2 #[.int .i64 peer] 3 peer rfl).2 i u hu).1; rw [Addr.add_lit, Nat.zero_add]; exact h) (by simp) HB9.out.1 HB9.out.2 (by simp; omega) ?_; rintro O7 A7 n7 c7 w7 hO7 hn7 hown7 hb7 _ _; have HO7 := Lib.hid hO7; have HN7 := Lib.hid hn7; have HW7 := Lib.hid hown7; have HB7 : Hid (Below w1.heap.size wr w7) := Lib.hid (((Qb1 HB2.out) : Below w1.heap.size wr _).trans hb7); clear hO7 hn7 hown7 hb7)
    have HT7 : Hid ((hs.take (k + 1)).map Hf.peer = O7) := Lib.hid (by rw [HT.out, HO7.out])
    go_roundw
    case rel => exact ⟨k + 1, A7, n7, c7, by omega, by go_num, rfl, Lib.hid (by rw [HT7.out]; exact HN7.out), Lib.hid (by rw [HT7.out]; exact HW7.out), Lib.hid (HB.out.trans HB7.out)⟩
    case measure => simp [intOf]; omega
end Go.Proofs.YtkfodkbgmpbmfaaGreat
namespace Go.Proofs.YtkfodkbgmpbmfaaGreat
open Go.RowKit Go.Shelf
set_option linter.unusedVariables false
set_option linter.unusedSimpArgs false
set_option maxRecDepth 100000
def Rch (n : Nat) (H : Nat → Nat → Bool) (a b : Nat) : Prop := ∀ S : Nat → Prop, S a → (∀ x y, S x → y < n → H x y = true → S y) → S b
theorem Rch.refl (n : Nat) (H : Nat → Nat → Bool) (a : Nat) : Rch n H a a := fun _ h _ => h
theorem Rch.step {n : Nat} {H : Nat → Nat → Bool} {a x y : Nat} (h : Rch n H a x) (hy : y < n) (e : H x y = true) : Rch n H a y := fun S h0 hs => hs x y (h S h0 hs) hy e
noncomputable def grp (n : Nat) (H : Nat → Nat → Bool) (a : Nat) : List Nat := (List.range n).filter fun b => @decide (Rch n H a b) (Classical.propDecidable _)
theorem mem_grp {n : Nat} {H : Nat → Nat → Bool} {a b : Nat} : b ∈ grp n H a ↔ b < n ∧ Rch n H a b := by
 unfold grp
 rw [List.mem_filter, List.mem_range, @decide_eq_true_eq _ (Classical.propDecidable _)]
theorem grp_rises (n : Nat) (H : Nat → Nat → Bool) (a : Nat) : (grp n H a).Pairwise (· < ·) := List.Pairwise.filter _ List.pairwise_lt_range
noncomputable def grps (n : Nat) (H : Nat → Nat → Bool) (up : Nat → Bool) : Nat → List (List Nat)
 | 0 => []
 | k + 1 => if up k = true ∧ (grps n H up k).any (fun g => g.contains k) = false then grps n H up k ++ [grp n H k] else grps n H up k
def inG (gs : List (List Nat)) (b : Nat) : Bool := gs.any fun g => g.contains b
theorem inG_mem {gs : List (List Nat)} {b : Nat} : inG gs b = true ↔ ∃ g ∈ gs, b ∈ g := by
 unfold inG
 rw [List.any_eq_true]
 constructor
 · rintro ⟨g, h, e⟩; exact ⟨g, h, List.contains_iff_mem.1 e⟩
 · rintro ⟨g, h, e⟩; exact ⟨g, h, List.contains_iff_mem.2 e⟩
theorem inG_app (gs : List (List Nat)) (g : List Nat) (b : Nat) : inG (gs ++ [g]) b = (inG gs b || g.contains b) := by
 unfold inG
 rw [List.any_append]
 simp
theorem grps_of (n : Nat) (H : Nat → Nat → Bool) (up : Nat → Bool) : ∀ (k : Nat), k ≤ n → ∀ g ∈ grps n H up k, ∃ a, a < k ∧ up a = true ∧ g = grp n H a
 | 0, _, g, h => by cases h
 | k + 1, hk, g, h => by
  unfold grps at h
  split at h
  · rename_i hc
    rcases List.mem_append.1 h with h | h
    · obtain ⟨a, h1, h2, h3⟩ := grps_of n H up k (by omega) g h
      exact ⟨a, by omega, h2, h3⟩
    · rw [List.mem_singleton] at h
      exact ⟨k, by omega, hc.1, h⟩
  · obtain ⟨a, h1, h2, h3⟩ := grps_of n H up k (by omega) g h
    exact ⟨a, by omega, h2, h3⟩
theorem grps_closed {n : Nat} {H : Nat → Nat → Bool} {up : Nat → Bool} {k : Nat} (hS : ∀ x y, H x y = H y x) (hk : k ≤ n) {x y : Nat} (hx : x < n) (hy : y < n) (e : H x y = true) (h : inG (grps n H up k) y = true) : inG (grps n H up k) x = true := by
 rw [inG_mem] at h ⊢
 obtain ⟨g, hg, hm⟩ := h
 obtain ⟨a, ha, _, rfl⟩ := grps_of n H up k hk g hg
 have h1 := mem_grp.1 hm
 exact ⟨_, hg, mem_grp.2 ⟨hx, h1.2.step hx (by rw [hS]; exact e)⟩⟩
structure Srch (n : Nat) (H : Nat → Nat → Bool) (a : Nat) (l : List Nat) (i : Nat) : Prop where
 fst : a ∈ l
 rch : ∀ x ∈ l, x < n ∧ Rch n H a x
 nod : l.Nodup
 don : ∀ (j : Nat) x, j < i → l[j]? = some x → ∀ y, y < n → H x y = true → y ∈ l
theorem Srch.start {n : Nat} {H : Nat → Nat → Bool} {a : Nat} (ha : a < n) : Srch n H a [a] 0 :=
 ⟨by simp, fun x hx => by rw [List.mem_singleton.1 hx]; exact ⟨ha, Rch.refl n H a⟩, by simp, fun j x h => absurd h (by omega)⟩
theorem nod_len : ∀ (l : List Nat) (n : Nat), l.Nodup → (∀ x ∈ l, x < n) → l.length ≤ n := by
 intro l n h hx
 have h1 : l ⊆ List.range n := fun x h => List.mem_range.2 (hx x h)
 have h2 := (List.nodup_iff_count.1 h)
 induction n generalizing l with
 | zero => cases l with
  | nil => simp
  | cons a l => have := hx a (by simp); omega
 | succ n ih =>
  have h3 : (l.filter fun x => decide (x ≠ n)).length ≤ n := by
   refine ih _ (List.Pairwise.filter _ h) ?_ ?_ ?_
   · intro x hx2
     rw [List.mem_filter, decide_eq_true_eq] at hx2
     have := hx x hx2.1
     have := hx2.2
     omega
   · intro x hx2
     rw [List.mem_filter, decide_eq_true_eq] at hx2
     have := hx x hx2.1
     have := hx2.2
     exact List.mem_range.2 (by omega)
   · exact List.nodup_iff_count.1 (List.Pairwise.filter _ h)
  have h4 : l.length = (l.filter fun x => decide (x ≠ n)).length + (l.filter fun x => decide ¬ decide (x ≠ n) = true).length := by
   rw [← List.countP_eq_length_filter, ← List.countP_eq_length_filter]
   exact List.length_eq_countP_add_countP ..
  have h5 : (l.filter fun x => decide ¬ decide (x ≠ n) = true).length ≤ 1 := by
   have := h2 n
   unfold List.count at this
   rw [List.countP_eq_length_filter] at this
   have e : (fun x => decide ¬ decide (x ≠ n) = true) = (fun x => x == n) := by funext x; by_cases h : x = n <;> simp [h]
   rw [e]
   exact this
  omega
theorem Srch.len {n : Nat} {H : Nat → Nat → Bool} {a : Nat} {l : List Nat} {i : Nat} (h : Srch n H a l i) : l.length ≤ n :=
 nod_len l n h.nod (fun x hx => (h.rch x hx).1)
structure Ask (n : Nat) (H : Nat → Nat → Bool) (a : Nat) (l : List Nat) (i x b : Nat) : Prop where
 s : Srch n H a l i
 at_ : l[i]? = some x
 bel : ∀ y, y < b → H x y = true → y ∈ l
theorem Srch.ask {n : Nat} {H : Nat → Nat → Bool} {a : Nat} {l : List Nat} {i x : Nat} (h : Srch n H a l i) (e : l[i]? = some x) : Ask n H a l i x 0 := ⟨h, e, fun y hy => absurd hy (by omega)⟩
theorem Ask.done {n : Nat} {H : Nat → Nat → Bool} {a : Nat} {l : List Nat} {i x : Nat} (h : Ask n H a l i x n) : Srch n H a l (i + 1) :=
 ⟨h.s.fst, h.s.rch, h.s.nod, fun j z hj hz y hy e => by
  rcases Nat.lt_or_eq_of_le (Nat.lt_succ_iff.1 hj) with h1 | h1
  · exact h.s.don j z h1 hz y hy e
  · subst h1
    have := h.at_
    rw [hz] at this
    obtain rfl := Option.some.inj this
    exact h.bel y hy e⟩
theorem Ask.skip {n : Nat} {H : Nat → Nat → Bool} {a : Nat} {l : List Nat} {i x b : Nat} (h : Ask n H a l i x b) (hb : H x b = true → b ∈ l) : Ask n H a l i x (b + 1) :=
 ⟨h.s, h.at_, fun y hy e => by
  rcases Nat.lt_or_eq_of_le (Nat.lt_succ_iff.1 hy) with h1 | h1
  · exact h.bel y h1 e
  · subst h1; exact hb e⟩
theorem Ask.push {n : Nat} {H : Nat → Nat → Bool} {a : Nat} {l : List Nat} {i x b : Nat} (h : Ask n H a l i x b) (hb : b < n) (e : H x b = true) (hn : b ∉ l) : Ask n H a (l ++ [b]) i x (b + 1) := by
 have hi : i < l.length := (List.getElem?_eq_some_iff.1 h.at_).1
 refine ⟨⟨List.mem_append_left _ h.s.fst, ?_, ?_, ?_⟩, by rw [List.getElem?_append_left hi]; exact h.at_, ?_⟩
 · intro y hy
   rcases List.mem_append.1 hy with h1 | h1
   · exact h.s.rch y h1
   · rw [List.mem_singleton.1 h1]
     exact ⟨hb, (h.s.rch x (List.mem_of_getElem? h.at_)).2.step hb e⟩
 · rw [List.nodup_append]
   exact ⟨h.s.nod, by simp, fun y hy z hz => by rw [List.mem_singleton.1 hz]; rintro rfl; exact hn hy⟩
 · intro j z hj hz y hy e2
   rw [List.getElem?_append_left (by omega)] at hz
   exact List.mem_append_left _ (h.s.don j z hj hz y hy e2)
 · intro y hy e2
   rcases Nat.lt_or_eq_of_le (Nat.lt_succ_iff.1 hy) with h1 | h1
   · exact List.mem_append_left _ (h.bel y h1 e2)
   · subst h1; simp
theorem Srch.end_ {n : Nat} {H : Nat → Nat → Bool} {a : Nat} {l : List Nat} {i : Nat} (h : Srch n H a l i) (hi : l.length ≤ i) (b : Nat) : b ∈ l ↔ b ∈ grp n H a := by
 rw [mem_grp]
 constructor
 · exact h.rch b
 · rintro ⟨_, hr⟩
   refine hr (· ∈ l) h.fst (fun x y hx hy e => ?_)
   obtain ⟨j, hj, rfl⟩ := List.getElem_of_mem hx
   exact h.don j _ (by omega) (List.getElem?_eq_getElem hj) y hy e
theorem grps_next_no {n : Nat} {H : Nat → Nat → Bool} {up : Nat → Bool} {k : Nat} (h : up k = false ∨ inG (grps n H up k) k = true) : grps n H up (k + 1) = grps n H up k := by
 show (if _ then _ else _) = _
 rw [if_neg]
 rintro ⟨h1, h2⟩
 rcases h with h | h
 · rw [h] at h1; cases h1
 · unfold inG at h; rw [h] at h2; cases h2
theorem grps_next_yes {n : Nat} {H : Nat → Nat → Bool} {up : Nat → Bool} {k : Nat} (h : up k = true) (h2 : inG (grps n H up k) k = false) : grps n H up (k + 1) = grps n H up k ++ [grp n H k] := by
 show (if _ then _ else _) = _
 rw [if_pos ⟨h, h2⟩]

def upB (W : Wd) (a : Nat) : Bool := (upN W a).isSome
noncomputable def groupsB (W : Wd) : List (List Nat) := grps W.nds.length (heldN W) (upB W) W.nds.length
theorem heldB_symm (W : Wd) (a b : Int) : heldB W a b = heldB W b a := by
 unfold heldB
 cases upN W a <;> cases upN W b <;> simp only []
 rename_i x y
 have e : decide (a = b) = decide (b = a) := by rw [decide_eq_decide]; exact eq_comm
 rw [e, Bool.and_comm (namesB x y)]
theorem heldN_symm (W : Wd) (a b : Nat) : heldN W a b = heldN W b a := heldB_symm W a b
set_option maxHeartbeats 2000000 in
theorem sindex_any (A : Option Addr) (n cp : Nat) (rs : List Int) (v : Int) (w : World) (hr : RowsE encI 1 w w.heap.size A n rs) (hm : n ≤ 70368744177664) :
    Calls Tryz.prog 98 #[.slice A n cp, .int .i64 v] w fun e w' => ∃ i : Int, e = .returned (.int .i64 i) ∧ decide (0 ≤ i) = rs.contains v ∧ w = w' := by
 have HR := Lib.hid hr
 clear hr
 go_enter Tryz.func98, Tryz.ntmps98
 go_wp2
 go_loopw [8] (fun i w' => ∃ (k : Nat), k ≤ n ∧ i = .int .i64 k ∧ Hid (∀ (t : Nat) y, t < k → rs[t]? = some y → y ≠ v) ∧ w' = w) (fun i _ => n - (intOf i).toNat)
 case atStart => exact ⟨0, Nat.zero_le _, rfl, Lib.hid (fun t y h => absurd h (by omega)), rfl⟩
 case round =>
  obtain ⟨k, hk, rfl, HA, rfl⟩ := hrel
  by_cases hlt : k < n
  rotate_left
  · obtain rfl : k = n := by omega
    have HP : Hid (rs.contains v = false) := Lib.hid (has_none (by have := HR.out.1; rw [this]; exact HA.out))
    go_wp2
    go_ret
    exact ⟨-1, rfl, by rw [HP.out]; rfl, rfl⟩
  · obtain ⟨ad, x, rfl, hab, hx, h4⟩ := HR.out.at hlt
    rw [Nat.mul_one] at h4 hab
    have c0 : wr.cell? (ad.add k) = some (.int .i64 x) := by have := h4 0 _ rfl; rwa [Bg.add_z] at this
    have HX := Lib.hid hx
    clear h4 hx
    by_cases hxv : x = v
    · have HP : Hid (rs.contains v = true) := Lib.hid (has_hit (by rw [HX.out, hxv]))
      have hq : (v == x) = true := by simpa using hxv.symm
      clear hxv
      go_wp2
      go_ret
      exact ⟨k, rfl, by rw [HP.out]; simp, rfl⟩
    · have HQ := Lib.hid hxv
      have hq : (v == x) = false := by simpa using fun h : v = x => hxv h.symm
      clear hxv
      go_wp2
      go_roundw
      case rel => exact ⟨k + 1, by omega, by go_num, Lib.hid (before_next HA.out HX.out HQ.out), by first | rfl | trivial⟩
      case measure => simp [intOf]; omega
theorem scont_any (A : Option Addr) (n cp : Nat) (rs : List Int) (v : Int) (w : World) (hr : RowsE encI 1 w w.heap.size A n rs) (hm : n ≤ 70368744177664) :
    Calls Tryz.prog 59 #[.slice A n cp, .int .i64 v] w fun e w' => e = .returned (.bool (rs.contains v)) ∧ w = w' := by
 have CI := Lib.hid (sindex_any A n cp rs v w hr hm)
 clear hr
 generalize rs.contains v = r at CI ⊢
 go_enter Tryz.func59, Tryz.ntmps59
 go_wp2_with (fail)
 refine (CI.out).mono ?_; rintro e w1 ⟨i, rfl, hi, rfl⟩
 subst hi
 clear CI
 by_cases hz : 0 ≤ i
 · go_wp2
   go_ret
   exact ⟨by first | rfl | (simp [hz]; done), rfl⟩
 · go_wp2
   go_ret
   exact ⟨by first | rfl | (simp [hz]; done), rfl⟩
theorem scont_anyB (A : Option Addr) (n cp : Nat) (rs : List Int) (v : Int) (w : World) (hr : RowsE encI 1 w w.heap.size A n rs) (hm : n ≤ 70368744177664) :
    Calls Tryz.prog 59 #[.slice A n cp, .int .i64 v] w fun e w' => e = .returned (.bool (rs.contains v)) ∧ Below w.heap.size w w' :=
 (scont_any A n cp rs v w hr hm).mono fun e w' h => ⟨h.1, by rw [← h.2]; exact Below.refl _ _⟩
end Go.Proofs.YtkfodkbgmpbmfaaGreat
