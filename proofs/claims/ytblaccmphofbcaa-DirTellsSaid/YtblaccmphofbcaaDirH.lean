/- Alive of dir and of its reference: the walks. -/
import Derived.Test.YtblaccmphofbcaaDirG
namespace Go.Proofs.Ytblaccmphofbcaa
open Go.RowKit
set_option linter.unusedVariables false
set_option maxRecDepth 100000 in
set_option maxHeartbeats 8000000 in
theorem deleteFunc_some (ad : Addr) (n cp : Nat) (L : List Ch) (B : Nat) (w : World) (hsp : ad.spot = none) (hB : B ≤ ad.block) (hab : ad.block < w.heap.size) (hl : L.length = n) (hcp : n ≤ cp) (hs : ∀ x ∈ L, x.name.size ≤ maxLen) (hrow : RowC w ad n (fun t => (L[t]?).getD Ch0)) (hm : n * 56 ≤ 140737488351232) :
    Calls Try.prog 42 #[.slice (some ad) n cp, .func (.func 43) #[] #[]] w fun x w' => ∃ c, x = .returned (.slice (some ad) (aliveF L).length c) ∧ ChsAt w' w'.heap.size (some ad) (aliveF L).length (aliveF L) ∧ Below B w w' := by
  have hR0 : ∀ (t : Nat) (x : Ch), L[t]? = some x → (L[t]?).getD Ch0 = x := fun t x h => by rw [h]; rfl
  have HSP := Lib.hid hsp
  have HLN := Lib.hid hl
  have HS := Lib.hid hs
  have HROW := Lib.hid hrow
  have HCH := Lib.hid (row_chs hrow (Nat.le_refl _) hl hs hR0 hab)
  clear hsp hl hs hrow hR0
  go_enter Try.func42, Try.ntmps42
  go_wp2_with (fail)
  refine (indexFunc_any (some ad) n cp L w HCH.out hm).mono ?_; rintro x w1 ⟨r, rfl, hd, hb1⟩
  have hz1 := hb1.size
  have hab1 : ad.block < w1.heap.size := by omega
  have HROW1 := Lib.hid (HROW.out.below hab hb1)
  have HCH1 := Lib.hid ((HCH.out.below hb1).more hb1.size)
  clear HROW HCH
  rcases hd with ⟨rfl, hall⟩ | ⟨k, rfl, hk, hal, x, hx, hxa⟩
  · have HE := Lib.hid (aliveF_all hall)
    clear hall
    go_wp2
    go_ret
    refine ⟨cp, ?_, ?_, (by repeat (first | with_reducible refine Below.setCell ?_ (by first | (simp; done) | (simp; omega) | omega) _ | with_reducible refine Below.alloc ?_ (by first | (simp; done) | (simp; omega) | omega) _ | with_reducible refine Below.drew ?_ | with_reducible refine below_drewN ?_ _ | with_reducible exact Below.refl _ _ | with_reducible refine Below.trans ?_ (Below.mono hb1 (by first | (simp; done) | (simp; omega) | omega))))⟩
    · rw [HE.out, HLN.out]; rfl
    · rw [HE.out, HLN.out]; exact HCH1.out
  · have hkn : k < n := by have := HLN.out; omega
    have hneg : ((k : Int) == (-1 : Int)) = false := by simp
    have hneg' : ¬ (k : Int) = -1 := by omega
    have HK0 : Hid ((aliveF (L.take (k + 1))).length = k ∧ KeepI L (k + 1) (fun t => (L[t]?).getD Ch0)) := by
      have e : aliveF (L.take (k + 1)) = L.take k := by
        rw [aliveF_next hx, if_neg (by rw [hxa]; simp)]
        exact aliveF_all hal
      refine Lib.hid ⟨by rw [e, List.length_take]; omega, ?_, fun t y _ h => by simp only [h, Option.getD_some]⟩
      intro t y h
      rw [e] at h
      have h2 := (List.getElem?_eq_some_iff.1 h).1
      simp at h2
      rw [List.getElem?_take_of_lt (by omega)] at h
      simp only [h, Option.getD_some]
    clear hal hx hxa x hk
    have kb1 : Below B w w1 := (by repeat (first | with_reducible refine Below.setCell ?_ (by first | (simp; done) | (simp; omega) | omega) _ | with_reducible refine Below.alloc ?_ (by first | (simp; done) | (simp; omega) | omega) _ | with_reducible refine Below.drew ?_ | with_reducible refine below_drewN ?_ _ | with_reducible exact Below.refl _ _ | with_reducible refine Below.trans ?_ (Below.mono hb1 (by first | (simp; done) | (simp; omega) | omega))))
    clear hb1
    go_wp2
    go_loopw [5, 6] (fun iv jv w' => ∃ (i j : Nat) (R : Nat → Ch), i < j ∧ j ≤ n ∧ iv = .int .i64 i ∧ jv = .int .i64 j ∧ Hid ((aliveF (L.take j)).length = i ∧ KeepI L j R) ∧ Hid (RowC w' ad n R) ∧ Below B w w') (fun _ jv _ => n - (intOf jv).toNat)
    case atStart => exact ⟨k, k + 1, _, by omega, by omega, rfl, by go_num, HK0, HROW1, kb1⟩
    case round =>
      obtain ⟨i, j, R, hij, hj, rfl, rfl, HK, HRW, kb2⟩ := hrel
      have hz2 := kb2.size
      have hab2 : ad.block < wr.heap.size := by omega
      clear HROW1 HCH1 HK0 kb1
      by_cases hlt : j < n
      rotate_left
      · obtain rfl : j = n := by omega
        obtain ⟨p, hp⟩ : ∃ p, ad.add (i * 6) = p := ⟨_, rfl⟩
        have hsp2 : p.spot = none := by rw [← hp, add_eq HSP.out]
        have hpb : p.block = ad.block := by rw [← hp, block_of_add]
        have hpo : p.off = ad.off + i * 6 := by rw [← hp, add_off]
        have hcl : ∀ ty, (Builtin.clear_ #[22] ty #[.slice (some p) (j - i) (cp - i)]).run Try.prog wr = .ok (.tuple #[]) (wr.setCells p.block p.off (zerosC (j - i))) := fun ty => by
          refine run_clear_chs wr p hsp2 (j - i) (cp - i) (by omega) (fun m hm' => ?_) (fun m hm' => ?_) ty
          · rw [hpb, hpo, Nat.add_assoc]; exact (HRW.out.at_ HSP.out (by omega)).1
          · rw [hpb, hpo, Nat.add_assoc]; exact (HRW.out.at_ HSP.out (by omega)).2
        have HPB := Lib.hid hpb; have HPO := Lib.hid hpo
        have hBp : B ≤ p.block := by omega
        clear hpb hpo
        go_wp2
        go_ret
        have hpb := HPB.out; have hpo := HPO.out
        have ef : aliveF L = aliveF (L.take j) := by rw [List.take_of_length_le (Nat.le_of_eq HLN.out)]
        have kb3 : Below B w (wr.setCells p.block p.off (zerosC (j - i))) := below_setCells (by omega) _ _ kb2
        have hrow := row_clear HRW.out (show i ≤ j by omega) (zerosC (j - i))
        rw [← hpb, ← hpo] at hrow
        refine ⟨cp, ?_, ?_, kb3⟩
        · rw [ef, HK.out.1]; rfl
        · rw [ef, HK.out.1]
          exact row_chs hrow (Nat.le_refl _) HK.out.1 (fun x hx => HS.out x (List.mem_of_mem_take (List.mem_filter.1 hx).1)) HK.out.2.1 (by have := kb3.size; omega)
      · obtain ⟨x, hx⟩ : ∃ x, L[j]? = some x := ⟨_, List.getElem?_eq_getElem (by have := HLN.out; omega)⟩
        obtain ⟨p, hp⟩ : ∃ p, ad.add (j * 6) = p := ⟨_, rfl⟩
        have hpb : p.block = ad.block := by rw [← hp, block_of_add]
        have hpw : p.block < wr.heap.size := by omega
        clear hpb
        have hcj := (HRW.out j hlt).1
        rw [HK.out.2.2 j x (Nat.le_refl _) hx, hp] at hcj
        obtain ⟨c0, c1, c2, c3, c4, c5⟩ := hcj
        obtain ⟨xs, xe, xm, xa, xk, xc⟩ := x
        have HX := Lib.hid hx
        clear hx
        simp only [] at c0 c1 c2 c3 c4 c5
        cases xa with
        | false =>
          go_wp2_with (fail)
          refine (alive1_any xs xe xm false xk xc _).mono ?_; rintro x w3 ⟨rfl, hb3⟩
          have kb3 : Below wr.heap.size wr w3 := (by repeat (first | with_reducible refine Below.setCell ?_ (by first | (simp; done) | (simp; omega) | omega) _ | with_reducible refine Below.alloc ?_ (by first | (simp; done) | (simp; omega) | omega) _ | with_reducible refine Below.drew ?_ | with_reducible refine below_drewN ?_ _ | with_reducible exact Below.refl _ _ | with_reducible refine Below.trans ?_ (Below.mono hb3 (by first | (simp; done) | (simp; omega) | omega))))
          have HRW3 := Lib.hid (HRW.out.below hab2 kb3)
          clear hb3
          go_wp2
          go_roundw
          case rel => exact ⟨i, j + 1, R, by omega, by omega, by go_num, by go_num, Lib.hid ⟨by rw [aliveF_next HX.out, if_neg (by simp)]; exact HK.out.1, keep_dead HK.out.2 HX.out rfl⟩, HRW3, kb2.trans (kb3.mono (by omega))⟩
          case measure => simp [intOf]; omega
        | true =>
          obtain ⟨g, o, hq, hgb⟩ : ∃ g o, ad.add (i * 6) = ⟨g, o, none⟩ ∧ g = ad.block := ⟨ad.block, ad.off + i * 6, add_eq HSP.out _, rfl⟩
          have hqw : g < wr.heap.size := by omega
          have hBq : B ≤ g := by omega
          clear hgb
          have hin : i < n := by omega
          go_wp2_with (fail)
          refine (alive1_any xs xe xm true xk xc _).mono ?_; rintro x w3 ⟨rfl, hb3⟩
          have kb3 : Below wr.heap.size wr w3 := (by repeat (first | with_reducible refine Below.setCell ?_ (by first | (simp; done) | (simp; omega) | omega) _ | with_reducible refine Below.alloc ?_ (by first | (simp; done) | (simp; omega) | omega) _ | with_reducible refine Below.drew ?_ | with_reducible refine below_drewN ?_ _ | with_reducible exact Below.refl _ _ | with_reducible refine Below.trans ?_ (Below.mono hb3 (by first | (simp; done) | (simp; omega) | omega))))
          have hrow3 := HRW.out.below hab2 kb3
          obtain ⟨hd6, hu6⟩ := hrow3 i hin
          have HRW3 := Lib.hid hrow3
          rw [hq] at hd6 hu6
          obtain ⟨d0, d1, d2, d3, d4, d5⟩ := hd6
          obtain ⟨f0, f1, f2, f3, f4, f5⟩ := hu6
          simp only [] at d0 d1 d2 d3 d4 d5 f0 f1 f2 f3 f4 f5
          have hgw : g < w3.heap.size := by have := kb3.size; omega
          have hk3 : KeptC wr [(⟨wr.heap.size, 0, none⟩, .string xs), (⟨wr.heap.size, 1, none⟩, .int .i64 xe), (⟨wr.heap.size, 2, none⟩, .int .i64 xm), (⟨wr.heap.size, 3, none⟩, .bool true), (⟨wr.heap.size, 4, none⟩, .int .i64 xk), (⟨wr.heap.size, 5, none⟩, .int .i64 xc)] [] w3 := by
            refine KeptC.below ?_ hb3
            exact (by (repeat' (first | refine KeptC.cons ?_ ?_ | refine KeptC.consF ?_ ?_ ?_ | refine KeptC.mk0 ?_)); all_goals (first | with_reducible assumption | (go_simp; done) | (simp; omega) | exact (by repeat (first | with_reducible refine Below.setCell ?_ (by first | (simp; done) | (simp; omega) | omega) _ | with_reducible refine Below.alloc ?_ (by first | (simp; done) | (simp; omega) | omega) _ | with_reducible refine Below.drew ?_ | with_reducible refine below_drewN ?_ _ | with_reducible exact Below.refl _ _))))
          simp only [KeptC, List.forall_mem_cons] at hk3; obtain ⟨kb3, ⟨kc3_0, kc3_1, kc3_2, kc3_3, kc3_4, kc3_5, _⟩, _⟩ := hk3
          clear hb3 hrow3
          have hbx : wr.heap.size < w3.heap.size := cell_lt kc3_0
          go_wp2
          go_roundw
          case rel =>
            have hst := row_store (x := ⟨xs, xe, xm, true, xk, xc⟩) HRW3.out hin
            rw [hq] at hst
            have hka := keep_alive HK.out.2 HX.out rfl (by have := HK.out.1; omega)
            rw [HK.out.1] at hka
            have kb4 := kb2.trans (kb3.mono (show B ≤ wr.heap.size by omega))
            exact ⟨i + 1, j + 1, _, by omega, by omega, by go_num, by go_num, Lib.hid ⟨by rw [aliveF_next HX.out, if_pos rfl, List.length_append, HK.out.1]; rfl, hka⟩, Lib.hid hst, (by repeat (first | with_reducible refine Below.setCell ?_ (by first | (simp; done) | (simp; omega) | omega) _ | with_reducible refine Below.alloc ?_ (by first | (simp; done) | (simp; omega) | omega) _ | with_reducible refine Below.drew ?_ | with_reducible refine below_drewN ?_ _ | with_reducible exact Below.refl _ _ | with_reducible refine Below.trans ?_ (Below.mono kb4 (by first | (simp; done) | (simp; omega) | omega))))⟩
          case measure => simp [intOf]; omega
theorem chs_filter {w : World} {B n : Nat} {A : Option Addr} {L : List Ch} (h : ChsAt w B A n L) : ∀ x ∈ aliveF L, x.name.size ≤ maxLen := fun x hx => h.2.1 x (List.mem_filter.1 hx).1
set_option maxHeartbeats 4000000 in
theorem deleteFunc_nil (A : Option Addr) (cp : Nat) (w : World) :
    Calls Try.prog 42 #[.slice A 0 cp, .func (.func 43) #[] #[]] w fun x w' => x = .returned (.slice A 0 cp) ∧ Below w.heap.size w w' := by
  go_enter Try.func42, Try.ntmps42
  go_wp2_with (fail)
  refine (indexFunc_any A 0 cp [] w ⟨rfl, by simp, fun h => by cases h⟩ (by omega)).mono ?_; rintro x w1 ⟨r, rfl, hd, hb1⟩
  obtain rfl : r = -1 := by
    rcases hd with ⟨h, _⟩ | ⟨k, _, h, _⟩
    · exact h
    · cases h
  go_wp2
  go_ret
  exact ⟨rfl, (by repeat (first | with_reducible refine Below.setCell ?_ (by first | (simp; done) | (simp; omega) | omega) _ | with_reducible refine Below.alloc ?_ (by first | (simp; done) | (simp; omega) | omega) _ | with_reducible refine Below.drew ?_ | with_reducible refine below_drewN ?_ _ | with_reducible exact Below.refl _ _ | with_reducible refine Below.trans ?_ (Below.mono hb1 (by first | (simp; done) | (simp; omega) | omega))))⟩
set_option maxHeartbeats 4000000 in
theorem alive_any (A : Option Addr) (n cp : Nat) (L : List Ch) (w : World) (hr : ChsAt w w.heap.size A n L) (hm : n * 56 ≤ 140737488351232) :
    Calls Try.prog 31 #[.slice A n cp] w fun x w' => ∃ A' c, x = .returned (.slice A' (aliveF L).length c) ∧ ChsAt w' w'.heap.size A' (aliveF L).length (aliveF L) ∧ Below w.heap.size w w' := by
  obtain rfl := hr.1
  have hs := hr.2.1
  have HR := Lib.hid hr
  clear hr
  go_enter Try.func31, Try.ntmps31
  go_wp2_with (fail)
  refine (clone_any A _ cp L w HR.out hm).mono ?_; rintro x w1 ⟨lv, rfl, hown, hb1⟩
  have hz1 := hb1.size
  by_cases h0 : 0 < L.length
  · obtain ⟨ad, c, rfl, hsp, hB, hab, hc, hrow⟩ := hown.row hs h0
    go_wp2_with (fail)
    refine (deleteFunc_some ad L.length c L w.heap.size w1 hsp hB hab rfl hc hs hrow (by omega)).mono ?_; rintro x w2 ⟨c2, rfl, hch, hb2⟩
    have kb : Below w.heap.size w w2 := hb1.trans hb2
    have HCH := Lib.hid hch
    clear hch hb2 hb1 hrow hown hs
    go_wp2
    go_ret
    exact ⟨_, _, rfl, HCH.out, kb⟩
  · obtain rfl : L = [] := List.eq_nil_of_length_eq_zero (by omega)
    obtain ⟨A', c, rfl, hch⟩ := hown.at_ hs
    simp only [List.length_nil] at *
    go_wp2_with (fail)
    refine (deleteFunc_nil A' c w1).mono ?_; rintro x w2 ⟨rfl, hb2⟩
    go_wp2
    go_ret
    exact ⟨A', c, rfl, ⟨rfl, by simp [aliveF], fun h => by cases h⟩, (by repeat (first | with_reducible refine Below.setCell ?_ (by first | (simp; done) | (simp; omega) | omega) _ | with_reducible refine Below.alloc ?_ (by first | (simp; done) | (simp; omega) | omega) _ | with_reducible refine Below.drew ?_ | with_reducible refine below_drewN ?_ _ | with_reducible exact Below.refl _ _ | with_reducible refine Below.trans ?_ (Below.mono hb1 (by first | (simp; done) | (simp; omega) | omega)) | with_reducible refine Below.trans ?_ (Below.mono hb2 (by first | (simp; done) | (simp; omega) | omega))))⟩
set_option maxRecDepth 100000 in
set_option maxHeartbeats 8000000 in
theorem ralive_any (A : Option Addr) (n cp : Nat) (L : List Ch) (w : World) (hr : ChsAt w w.heap.size A n L) (hm : n * 56 ≤ 140737488351232) :
    Calls Try.prog 32 #[.slice A n cp] w fun x w' => ∃ A' c, x = .returned (.slice A' (aliveF L).length c) ∧ ChsAt w' w'.heap.size A' (aliveF L).length (aliveF L) ∧ Below w.heap.size w w' := by
  have HR := Lib.hid hr
  clear hr
  go_enter Try.func32, Try.ntmps32
  go_wp2
  go_loopw [3, 4] (fun v i w' => ∃ (k : Nat) (A2 : Option Addr) (cp2 : Nat) (OL : List Ch), k ≤ n ∧ i = .int .i64 k ∧ v = .slice A2 OL.length cp2 ∧ Hid (OL = aliveF (L.take k)) ∧ Hid (w'.ownsRow w.heap.size 38 6 (.slice A2 OL.length cp2) OL.length (flatC OL)) ∧ OL.length ≤ k ∧ KeptC w [] [] w') (fun _ i _ => n - (intOf i).toNat)
  case atStart => exact ⟨0, none, 0, [], Nat.zero_le _, rfl, rfl, Lib.hid rfl, Lib.hid ⟨rfl, .inl ⟨rfl, rfl⟩⟩, by simp, (by (repeat' (first | refine KeptC.cons ?_ ?_ | refine KeptC.consF ?_ ?_ ?_ | refine KeptC.mk0 ?_)); all_goals (first | with_reducible assumption | (go_simp; done) | (simp; omega) | exact (by repeat (first | with_reducible refine Below.setCell ?_ (by first | (simp; done) | (simp; omega) | omega) _ | with_reducible refine Below.alloc ?_ (by first | (simp; done) | (simp; omega) | omega) _ | with_reducible refine Below.drew ?_ | with_reducible refine below_drewN ?_ _ | with_reducible exact Below.refl _ _))))⟩
  case round =>
    obtain ⟨k, A2, cp2, OL, hk, rfl, rfl, HO, HW, hol, hK⟩ := hrel
    have kb0 := hK.1
    clear hK
    by_cases hlt : k < n
    rotate_left
    · obtain rfl : k = n := by omega
      go_wp2
      go_ret
      have e := HO.out
      rw [List.take_of_length_le (Nat.le_of_eq HR.out.1)] at e
      obtain ⟨A3, c3, e3, h3⟩ := OwnC.at_ (base := w.heap.size) HW.out (by rw [e]; exact chs_filter HR.out)
      rw [e] at h3
      exact ⟨A3, c3, by rw [← e, ← e3]; rfl, h3, kb0⟩
    · obtain ⟨ad, x, hA, hab, hx, hsz, hc6⟩ := HR.out.get hlt
      subst hA
      obtain ⟨p, hp⟩ : ∃ p, ad.add (k * 6) = p := ⟨_, rfl⟩
      have hpb : p.block < w.heap.size := by rw [← hp, block_of_add]; exact hab
      rw [hp] at hc6
      have hws := kb0.size
      have hpw : p.block < wr.heap.size := by omega
      obtain ⟨c0, c1, c2, c3, c4, c5⟩ := hc6.below hpb kb0
      obtain ⟨xs, xe, xm, xa, xk, xc⟩ := x
      have HX := Lib.hid hx
      clear hx hsz
      simp only [] at c0 c1 c2 c3 c4 c5
      cases xa with
      | false =>
        clear hc6
        go_wp2
        go_roundw
        case rel => exact ⟨k + 1, A2, cp2, OL, by omega, by go_num, rfl, Lib.hid (by rw [aliveF_next HX.out, if_neg (by simp)]; exact HO.out), HW, by omega, (by (repeat' (first | refine KeptC.cons ?_ ?_ | refine KeptC.consF ?_ ?_ ?_ | refine KeptC.mk0 ?_)); all_goals (first | with_reducible assumption | (go_simp; done) | (simp; omega) | exact (by repeat (first | with_reducible refine Below.setCell ?_ (by first | (simp; done) | (simp; omega) | omega) _ | with_reducible refine Below.alloc ?_ (by first | (simp; done) | (simp; omega) | omega) _ | with_reducible refine Below.drew ?_ | with_reducible refine below_drewN ?_ _ | with_reducible exact Below.refl _ _ | with_reducible refine Below.trans ?_ (Below.mono kb0 (by first | (simp; done) | (simp; omega) | omega))))))⟩
        case measure => simp [intOf]; omega
      | true =>
        go_wp2_with (at_builtin; go_must (refine wpList_app1 rfl _ _ rfl w.heap.size OL A2 cp2 rfl (by exact row_low HW.out (by repeat (first | with_reducible refine Below.setCell ?_ (by first | (simp; done) | (simp; omega) | omega) _ | with_reducible refine Below.alloc ?_ (by first | (simp; done) | (simp; omega) | omega) _ | with_reducible refine Below.drew ?_ | with_reducible refine below_drewN ?_ _ | with_reducible exact Below.refl _ _)) (Nat.le_refl _)) ⟨wr.heap.size, 0, none⟩ 1 rfl ⟨xs, xe, xm, true, xk, xc⟩ (by exact cells_new _ ⟨xs, xe, xm, true, xk, xc⟩) (by omega) (by first | (simp; done) | (simp; omega) | omega) ?_); intro O3 A3 cp3 w3 hO3 hown3 hb3; have hL3 : O3.length ≤ OL.length + 1 := (by rw [hO3]; simp); have HO3 := Lib.hid hO3; have HW3 := Lib.hid hown3; have kb3 : Below w.heap.size w w3 := (by repeat (first | with_reducible refine Below.setCell ?_ (by first | (simp; done) | (simp; omega) | omega) _ | with_reducible refine Below.alloc ?_ (by first | (simp; done) | (simp; omega) | omega) _ | with_reducible refine Below.drew ?_ | with_reducible refine below_drewN ?_ _ | with_reducible exact Below.refl _ _ | with_reducible refine Below.trans ?_ (Below.mono kb0 (by first | (simp; done) | (simp; omega) | omega)) | with_reducible refine Below.trans ?_ (Below.mono hb3 (by first | (simp; done) | (simp; omega) | omega)))); clear hO3 hown3 hb3)
        go_roundw
        case rel => exact ⟨k + 1, A3, cp3, O3, by omega, by go_num, rfl, Lib.hid (by rw [aliveF_next HX.out, if_pos rfl, HO3.out, HO.out]), HW3, by omega, (by (repeat' (first | refine KeptC.cons ?_ ?_ | refine KeptC.consF ?_ ?_ ?_ | refine KeptC.mk0 ?_)); all_goals (first | with_reducible assumption | (go_simp; done) | (simp; omega) | exact (by repeat (first | with_reducible refine Below.setCell ?_ (by first | (simp; done) | (simp; omega) | omega) _ | with_reducible refine Below.alloc ?_ (by first | (simp; done) | (simp; omega) | omega) _ | with_reducible refine Below.drew ?_ | with_reducible refine below_drewN ?_ _ | with_reducible exact Below.refl _ _ | with_reducible refine Below.trans ?_ (Below.mono kb3 (by first | (simp; done) | (simp; omega) | omega))))))⟩
        case measure => simp [intOf]; omega
end Go.Proofs.Ytblaccmphofbcaa
