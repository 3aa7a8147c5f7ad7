/- Whatever the arguments: eddylaw06's BagGoes returns true. No conditions. -/
import Derived.Test.YtdaobbffhfbceaaBgY
import Derived.Test.YtdaobbffhfbceaaBgW
import Derived.Test.YtdaobbffhfbceaaLaw
import Derived.ChangeMaps5
import Derived.Deep.CutRange
import Derived.Deep.Cut
import Derived.Deep.RegionHeld3
namespace Go.Proofs.Ytdaobbffhfbceaa
open Go.ChangeShapes Go.WideShapes Go.ChangeAt Go.RowKit Go.Joins Go.ChangeMaps Go.Deep Go.Shelf
set_option linter.unusedVariables false
set_option linter.unusedSimpArgs false
set_option maxRecDepth 100000
set_option maxHeartbeats 4000000 in
theorem bagGoes_any (A B : Option Addr) (n c m d : Nat) (rs ts : List Ac) (w : World) (h1 : RowsE encA 5 w w.heap.size A n rs) (h2 : RowsE encA 5 w w.heap.size B m ts) (ho1 : ∀ y ∈ rs, OkA y) (ho2 : ∀ y ∈ ts, OkA y) (hn : n * 48 ≤ 140737488351232) (hm : m * 48 ≤ 140737488351232) :
    Calls Try.prog 6 #[.slice A n c, .slice B m d] w fun e w' => e = .returned (.bool true) ∧ Below w.heap.size w w' := by
  have H1 := Lib.hid h1
  have H2 := Lib.hid h2
  have HO1 := Lib.hid ho1
  have HO2 := Lib.hid ho2
  clear h1 h2 ho1 ho2
  go_enter Try.func6, Try.ntmps6
  go_wp2_with (fail)
  refine (new_any _).mono ?_; rintro e w1 ⟨rfl, hb1, hB1⟩
  have HB1 := Lib.hid hb1
  have hs1 := hB1.size
  obtain ⟨g, hg⟩ : ∃ g, g = w1.heap.size := ⟨_, rfl⟩
  have hbl := hb1.lt
  have hfoot : ∀ x ∈ foot (w.heap.size + 1) w.heap.size (.slice none 0 0), x < w1.heap.size ∧ w.heap.size ≤ x := fun x hx => ⟨hbl x hx, by
    simp only [foot, List.mem_cons, Option.mem_toList] at hx
    rcases hx with rfl | rfl | hx
    · omega
    · omega
    · simp [Value.ownBlock] at hx⟩
  have hr0 := ref_new (w := w1) (base := 0) (nx := 0) (OwnE.nil _ _ _) (OwnE.nil _ _ _) (fun b e => by simp [Value.ownBlock] at e) okS0
  rw [← hg] at hr0
  have HT0 : Hid (Two (w1.alloc (Obj.cells #[.int .i64 0, .slice none 0 0, .slice none 0 0] 59)) (w.heap.size + 1) w.heap.size g (.slice none 0 0) (.slice none 0 0) (.slice none 0 0) BS0) := Lib.hid ⟨hb1.below ((Below.refl _ _).alloc (Nat.le_refl _) _), hr0, fun x hx hy => by
    have := (hfoot x hx).1
    simp only [footR, List.mem_cons, List.mem_append, Option.mem_toList] at hy
    rcases hy with rfl | hy | hy
    · omega
    · simp [Value.ownBlock] at hy
    · simp [Value.ownBlock] at hy⟩
  have HF0 : Hid (∀ x ∈ feet (w.heap.size + 1) w.heap.size g (.slice none 0 0) (.slice none 0 0) (.slice none 0 0), w.heap.size ≤ x) := Lib.hid (fun x hx => by
    rcases List.mem_append.1 hx with hx | hx
    · exact (hfoot x hx).2
    · simp only [footR, List.mem_cons, List.mem_append, Option.mem_toList] at hx
      rcases hx with rfl | hx | hx
      · omega
      · simp [Value.ownBlock] at hx
      · simp [Value.ownBlock] at hx)
  obtain ⟨bm, hbm⟩ : ∃ bm, bm = w.heap.size := ⟨_, rfl⟩
  have HBM := Lib.hid hbm
  clear hfoot hbl hr0 hb1
  go_wp2
  rw [← hg, ← hbm]
  rw [← hbm] at HT0 HF0
  clear hg hbm
  go_loopw [7] (fun i w' => ∃ (j : Nat) (s : BS) (lv lr kr : Value), j ≤ n ∧ i = .int .i64 j ∧ Hid (Two w' (bm + 1) bm g lv lr kr s) ∧ Hid (FitS s) ∧ Hid (s.sv.length ≤ j) ∧ Hid (∀ x ∈ feet (bm + 1) bm g lv lr kr, bm ≤ x) ∧ Below w.heap.size w w') (fun i _ => n - (intOf i).toNat)
  case atStart => exact ⟨0, BS0, _, _, _, Nat.zero_le _, rfl, HT0, Lib.hid fitS0, Lib.hid (by simp [BS0]), HF0, (by repeat (first | with_reducible refine Below.setCell ?_ (by first | (simp; done) | (simp; omega) | omega) _ | with_reducible refine Below.alloc ?_ (by first | (simp; done) | (simp; omega) | omega) _ | with_reducible refine Below.drew ?_ | with_reducible refine below_drewN ?_ _ | with_reducible exact Below.refl _ _ | with_reducible refine Below.trans ?_ (Below.mono hB1 (by first | (simp; done) | (simp; omega) | omega))))⟩
  case round =>
    clear HT0 HF0 hB1 hs1 HB1
    obtain ⟨j, s, lv, lr, kr, hj, rfl, HT, HF, HL, HFT, kb0⟩ := hrel
    have hs0 := kb0.size
    by_cases hlt : j < n
    · obtain ⟨ad, y, rfl, hab, hx, h5⟩ := H1.out.get hlt
      obtain ⟨P, hP⟩ : ∃ P, ad.add (j * 5) = P := ⟨_, rfl⟩
      have hPb : P.block < w.heap.size := by rw [← hP, block_of_add]; exact hab
      rw [hP] at h5
      have HOA := Lib.hid (HO1.out y (List.mem_of_getElem? hx))
      have H5 := Lib.hid h5
      clear h5 hx
      obtain ⟨e0, e1, e2, e3, e4⟩ := acell wr P y (H5.out.below hPb kb0)
      have hPw : P.block < wr.heap.size := by omega
      have HW : Hid ((s.sv.length + 1 + (s.sv.length + 1) / 4 + 192) * 16 ≤ 281474976710656) := Lib.hid (wide_of (by have := HL.out; omega))
      go_wp2_with (fail)
      refine (act_any (bm + 1) bm g lv lr kr s y _ HT.out HW.out HOA.out).mono ?_; rintro e w2 ⟨rfl, lv2, lr2, kr2, ht2, hf2, hT2⟩
      have kb2 : Below w.heap.size w w2 := kb0.trans (hT2.to_below (fun x hx => by have := HFT.out x hx; have := HBM.out; omega) hs0)
      have HT2 := Lib.hid ht2
      have HFT2 : Hid (∀ x ∈ feet (bm + 1) bm g lv2 lr2 kr2, bm ≤ x) := Lib.hid (fun x hx => (hf2 x hx).elim (HFT.out x) (fun h => by have := HBM.out; omega))
      clear ht2 hf2 hT2 e0 e1 e2 e3 e4
      go_wp2
      go_roundw
      case rel => exact ⟨j + 1, actS s y, lv2, lr2, kr2, by omega, by go_num, HT2, Lib.hid (actS_fit HF.out), Lib.hid (by have := actS_sv s y; have := HL.out; omega), HFT2, kb2⟩
      case measure => simp [intOf]; omega
    · obtain rfl : n = j := by omega
      have HW : Hid ((s.sv.length + 1 + (s.sv.length + 1) / 4 + 192) * 16 ≤ 281474976710656) := Lib.hid (wide_of (by have := HL.out; omega))
      have hsl : s.sv.length ≤ 13000000000000 := by have := HL.out; omega
      go_wp2_with (fail)
      refine (state_any (bm + 1) bm lv s _ HT.out.bag HW.out).mono ?_; rintro e w2 ⟨lv2, kv2, rfl, o12, o22, od2, hb2⟩
      obtain ⟨A2, c2, rfl, r2⟩ := OwnE.at_ encD_len o12
      obtain ⟨B2, d2, rfl, q2⟩ := OwnE.at_ encL_len o22
      have HR2 := Lib.hid r2
      have HQ2 := Lib.hid q2
      have hok := HT.out.bag.ok
      have kb2 : Below w.heap.size w w2 := kb0.trans (hb2.mono hs0)
      have HB2 := Lib.hid hb2
      have hs2 := hb2.size
      have OF := Lib.hid (fun W (r : RowsE encD 4 W W.heap.size A2 s.ls.length s.ls) (q : RowsE encL 2 W W.heap.size B2 s.sv.length s.sv) => of_any s.nx A2 B2 s.ls.length c2 s.sv.length d2 s.ls s.sv W r q (by have := hok.len; omega) (by omega) hok.nm hok.i64)
      clear o12 o22 od2 r2 q2 hb2 hok hsl
      go_wp2_with (fail)
      refine (OF.out _ HR2.out HQ2.out).mono ?_; rintro e w3 ⟨hb3, ⟨_, Cb, cm, clv, rfl, hbag, hcf⟩ | ⟨hff, rfl⟩⟩
      rotate_left
      · exact absurd (fit_fitB HF.out) (by have h0 : fitB s = false := hff; rw [h0]; simp)
      have kb3 : Below w.heap.size w w3 := kb2.trans (hb3.mono (by omega))
      have hb03 : Below wr.heap.size wr w3 := HB2.out.trans (hb3.mono hs2)
      have HT3 := Lib.hid (HT.out.below hb03)
      have hltt := HT.out.lt
      have HC3 : Hid (Two w3 Cb cm g clv lr kr s) := Lib.hid ⟨hbag, HT3.out.ref, fun x hx hy => by have h1 := hcf x hx; have h2 := hltt x (List.mem_append.2 (.inr hy)); omega⟩
      have HD3 : Hid (∀ x ∈ foot (bm + 1) bm lv, x ∉ feet Cb cm g clv lr kr) := Lib.hid (fun x hx hy => by
        rcases List.mem_append.1 hy with hy | hy
        · have h1 := hcf x hy; have h2 := hltt x (List.mem_append.2 (.inl hx)); omega
        · exact HT.out.apart x hx hy)
      have HFB3 : Hid (∀ x ∈ foot (bm + 1) bm lv, bm ≤ x) := Lib.hid (fun x hx => HFT.out x (List.mem_append.2 (.inl hx)))
      have HFC3 : Hid (∀ x ∈ feet Cb cm g clv lr kr, bm ≤ x) := Lib.hid (fun x hx => by
        rcases List.mem_append.1 hx with hx | hx
        · have h1 := hcf x hx; have := HBM.out; omega
        · exact HFT.out x (List.mem_append.2 (.inr hx)))
      clear hbag hcf hltt hb3 hb03 kb0 kb2 HT HFT OF HR2 HQ2 HB2 hs2 hs0
      go_wp2
      go_loopw [10] (fun i w' => ∃ (j : Nat) (s : BS) (lvb lvc lr kr : Value), j ≤ m ∧ i = .int .i64 j ∧ Hid (BagAt w' (bm + 1) bm lvb s) ∧ Hid (Two w' Cb cm g lvc lr kr s) ∧ Hid (FitS s) ∧ Hid (s.sv.length ≤ n + j) ∧ Hid (∀ x ∈ foot (bm + 1) bm lvb, x ∉ feet Cb cm g lvc lr kr) ∧ Hid (∀ x ∈ foot (bm + 1) bm lvb, bm ≤ x) ∧ Hid (∀ x ∈ feet Cb cm g lvc lr kr, bm ≤ x) ∧ Below w.heap.size w w') (fun i _ => m - (intOf i).toNat)
      case atStart => exact ⟨0, s, _, _, _, _, Nat.zero_le _, rfl, Lib.hid HT3.out.bag, HC3, HF, HL, HD3, HFB3, HFC3, (by repeat (first | with_reducible refine Below.setCell ?_ (by first | (simp; done) | (simp; omega) | omega) _ | with_reducible refine Below.alloc ?_ (by first | (simp; done) | (simp; omega) | omega) _ | with_reducible refine Below.drew ?_ | with_reducible refine below_drewN ?_ _ | with_reducible exact Below.refl _ _ | with_reducible refine Below.trans ?_ (Below.mono kb3 (by first | (simp; done) | (simp; omega) | omega))))⟩
      case round =>
        clear HT3 HC3 HF HL HD3 HFB3 HFC3 kb3 HW
        obtain ⟨j, s, lvb, lvc, lr, kr, hj, rfl, HB, HTC, HF, HL, HD, HFB, HFC, kb0⟩ := hrel
        have hs0 := kb0.size
        by_cases hlt : j < m
        · obtain ⟨ad, y, rfl, hab, hx, h5⟩ := H2.out.get hlt
          obtain ⟨P, hP⟩ : ∃ P, ad.add (j * 5) = P := ⟨_, rfl⟩
          have hPb : P.block < w.heap.size := by rw [← hP, block_of_add]; exact hab
          rw [hP] at h5
          have HOA := Lib.hid (HO2.out y (List.mem_of_getElem? hx))
          have H5 := Lib.hid h5
          clear h5 hx
          obtain ⟨e0, e1, e2, e3, e4⟩ := acell wr P y (H5.out.below hPb kb0)
          have hPw : P.block < wr.heap.size := by omega
          have HW : Hid ((s.sv.length + 1 + (s.sv.length + 1) / 4 + 192) * 16 ≤ 281474976710656) := Lib.hid (wide_of (by have := HL.out; omega))
          obtain ⟨Al, cl, hlr, rl⟩ := OwnE.at_ encD_len HTC.out.ref.rl
          obtain ⟨Bl, dl, hkr, rk⟩ := OwnE.at_ encL_len HTC.out.ref.rs
          subst hlr
          subst hkr
          have q0 := HTC.out.ref.c0
          have q1 := HTC.out.ref.c1
          have q2 := HTC.out.ref.c2
          have hgl : g < wr.heap.size := cell_lt q0
          have cp := mcopy_any s.nx Al Bl s.ls.length cl s.sv.length dl s.ls s.sv wr rl rk (by have := HB.out.ok.len; omega) (by have := HL.out; omega)
          have CP := Lib.hid cp
          clear cp rl rk
          go_wp2_with (fail)
          refine CP.out.mono ?_; rintro e w2 ⟨la, ka, rfl, o1, o2, od, hb2⟩
          obtain ⟨Aa, ca, hla⟩ := row_slice' o1
          subst hla
          obtain ⟨Ba, da, hka⟩ := row_slice' o2
          subst hka
          obtain ⟨ga, hga⟩ : ∃ ga, ga = w2.heap.size := ⟨_, rfl⟩
          have hrn := ref_new o1 o2 od HB.out.ok
          have f1 := own_fresh o1
          have f2 := own_fresh o2
          have hs2 := hb2.size
          have HO12 := Lib.hid o1
          have kb2 : Below w.heap.size w w2 := kb0.trans (hb2.mono hs0)
          clear q0 q1 q2 e0 e1 e2 e3 e4
          go_upto_region 14 with (fail)
          obtain ⟨W2, hW2⟩ : ∃ W2, W2 = w2.alloc (Obj.cells #[.int .i64 s.nx, .slice Aa s.ls.length ca, .slice Ba s.sv.length da] 59) := ⟨_, rfl⟩
          have hbW : Below wr.heap.size wr W2 := by rw [hW2]; exact hb2.alloc hs2 _
          have kbW : Below w.heap.size w W2 := kb0.trans (hbW.mono hs0)
          rw [← hW2, ← hga] at hrn
          have HTA : Hid (Two W2 (bm + 1) bm ga lvb (.slice Aa s.ls.length ca) (.slice Ba s.sv.length da) s) := Lib.hid ⟨HB.out.below hbW, hrn, fun x hx hy => by
            have h1 := HB.out.lt x hx
            simp only [footR, List.mem_cons, List.mem_append, Option.mem_toList] at hy
            rcases hy with rfl | hy | hy
            · omega
            · have := f1 _ hy; omega
            · have := f2 _ hy; omega⟩
          have HTC2 := Lib.hid (HTC.out.below hbW)
          have hltC := HTC.out.lt
          have HDA : Hid (∀ x ∈ feet (bm + 1) bm ga lvb (.slice Aa s.ls.length ca) (.slice Ba s.sv.length da), x ∉ feet Cb cm g lvc (.slice Al s.ls.length cl) (.slice Bl s.sv.length dl)) := Lib.hid (fun x hx hy => by
            have h1 := hltC x hy
            rcases List.mem_append.1 hx with hx | hx
            · exact HD.out x hx hy
            · simp only [footR, List.mem_cons, List.mem_append, Option.mem_toList] at hx
              rcases hx with rfl | hx | hx
              · omega
              · have := f1 _ hx; omega
              · have := f2 _ hx; omega)
          have HDC : Hid (∀ x ∈ feet Cb cm g lvc (.slice Al s.ls.length cl) (.slice Bl s.sv.length dl), x ∉ feet (bm + 1) bm ga lvb (.slice Aa s.ls.length ca) (.slice Ba s.sv.length da)) := Lib.hid (fun x hx hy => HDA.out x hy hx)
          have HFAw : Hid (∀ x ∈ feet (bm + 1) bm ga lvb (.slice Aa s.ls.length ca) (.slice Ba s.sv.length da), w.heap.size ≤ x) := Lib.hid (fun x hx => by
            have hbmw := HBM.out
            rcases List.mem_append.1 hx with hx | hx
            · have := HFB.out x hx; omega
            · simp only [footR, List.mem_cons, List.mem_append, Option.mem_toList] at hx
              rcases hx with rfl | hx | hx
              · omega
              · have := f1 _ hx; omega
              · have := f2 _ hx; omega)
          have HFCw : Hid (∀ x ∈ feet Cb cm g lvc (.slice Al s.ls.length cl) (.slice Bl s.sv.length dl), w.heap.size ≤ x) := Lib.hid (fun x hx => by have := HFC.out x hx; have := HBM.out; omega)
          rw [← hW2, ← hga]
          have HSW : Hid (w.heap.size ≤ W2.heap.size) := Lib.hid kbW.size
          obtain ⟨e0, e1, e2, e3, e4⟩ := acell W2 P y (H5.out.below hPb kbW)
          have hI : Below w.heap.size w W2 ∧ W2.cell? P = some (.int .i64 y.kind) ∧ W2.cell? ⟨P.block, P.off + 1, none⟩ = some (.int .i64 y.num) ∧ W2.cell? ⟨P.block, P.off + 2, none⟩ = some (.int .i64 y.frm) ∧ W2.cell? ⟨P.block, P.off + 3, none⟩ = some (.int .i64 y.dst) ∧ W2.cell? ⟨P.block, P.off + 4, none⟩ = some (.string y.body) := ⟨kbW, e0, e1, e2, e3, e4⟩
          have HI := Lib.hid hI
          obtain ⟨s2, hs2⟩ : ∃ s2, actS s y = s2 := ⟨_, rfl⟩
          have ac := fun (Bb bm g : Nat) (lv lr kr : Value) (W : World) (H : Two W Bb bm g lv lr kr s) => act_any Bb bm g lv lr kr s y W H HW.out HOA.out
          rw [hs2] at ac
          have hfit2 : FitS s2 := by rw [← hs2]; exact actS_fit HF.out
          have hsl2 : s2.sv.length ≤ n + (j + 1) := by rw [← hs2]; have := actS_sv s y; have := HL.out; omega
          have st := fun (Bb bm : Nat) (lv : Value) (W : World) (H : BagAt W Bb bm lv s2) => state_any Bb bm lv s2 W H (wide_of (by omega))
          have sm := fun (A1 : Option Addr) (c1 : Nat) (B1 : Option Addr) (d1 : Nat) (A2 : Option Addr) (c2 : Nat) (B2 : Option Addr) (d2 : Nat) (W : World) (h1 : RowsE encD 4 W W.heap.size A1 s2.ls.length s2.ls) (h2 : RowsE encD 4 W W.heap.size A2 s2.ls.length s2.ls) (g1 : RowsE encL 2 W W.heap.size B1 s2.sv.length s2.sv) (g2 : RowsE encL 2 W W.heap.size B2 s2.sv.length s2.sv) => rsame_true s2.nx A1 A2 c1 c2 s2.ls.length s2.ls B1 B2 d1 d2 s2.sv.length s2.sv W h1 h2 g1 g2 hfit2.len (by omega)
          have AC := Lib.hid ac
          have ST := Lib.hid st
          have SM := Lib.hid sm
          have HF2 := Lib.hid hfit2
          have HL2 := Lib.hid hsl2
          have HWL : Hid (wr.heap.size ≤ W2.heap.size) := Lib.hid hbW.size
          clear ac st sm hfit2 hsl2 hI hs2 hga hW2 hrn f1 f2 hltC hb2 hbW o1 o2 od HTC HB HD HFB HFC CP HO12 kb2 HF HL
          have kS : ∀ (F : List Nat) (w1 w2 : World), (Below w.heap.size w w1 ∧ w1.cell? P = some (.int .i64 y.kind) ∧ w1.cell? ⟨P.block, P.off + 1, none⟩ = some (.int .i64 y.num) ∧ w1.cell? ⟨P.block, P.off + 2, none⟩ = some (.int .i64 y.frm) ∧ w1.cell? ⟨P.block, P.off + 3, none⟩ = some (.int .i64 y.dst) ∧ w1.cell? ⟨P.block, P.off + 4, none⟩ = some (.string y.body)) → Turn F w1 w2 → (∀ x ∈ F, w.heap.size ≤ x) → (Below w.heap.size w w2 ∧ w2.cell? P = some (.int .i64 y.kind) ∧ w2.cell? ⟨P.block, P.off + 1, none⟩ = some (.int .i64 y.num) ∧ w2.cell? ⟨P.block, P.off + 2, none⟩ = some (.int .i64 y.frm) ∧ w2.cell? ⟨P.block, P.off + 3, none⟩ = some (.int .i64 y.dst) ∧ w2.cell? ⟨P.block, P.off + 4, none⟩ = some (.string y.body)) := by
            rintro F w1 w2 ⟨k0, k1, k2, k3, k4, k5⟩ ht hF
            exact ⟨k0.trans (ht.to_below hF k0.size), ht.cell (p := P) (fun hx => by have := hF _ hx; (try simp only [] at this); omega) k1, ht.cell (p := ⟨P.block, P.off + 1, none⟩) (fun hx => by have := hF _ hx; (try simp only [] at this); omega) k2, ht.cell (p := ⟨P.block, P.off + 2, none⟩) (fun hx => by have := hF _ hx; (try simp only [] at this); omega) k3, ht.cell (p := ⟨P.block, P.off + 3, none⟩) (fun hx => by have := hF _ hx; (try simp only [] at this); omega) k4, ht.cell (p := ⟨P.block, P.off + 4, none⟩) (fun hx => by have := hF _ hx; (try simp only [] at this); omega) k5⟩
          have kB : ∀ (w1 w2 : World), (Below w.heap.size w w1 ∧ w1.cell? P = some (.int .i64 y.kind) ∧ w1.cell? ⟨P.block, P.off + 1, none⟩ = some (.int .i64 y.num) ∧ w1.cell? ⟨P.block, P.off + 2, none⟩ = some (.int .i64 y.frm) ∧ w1.cell? ⟨P.block, P.off + 3, none⟩ = some (.int .i64 y.dst) ∧ w1.cell? ⟨P.block, P.off + 4, none⟩ = some (.string y.body)) → Below w1.heap.size w1 w2 → (Below w.heap.size w w2 ∧ w2.cell? P = some (.int .i64 y.kind) ∧ w2.cell? ⟨P.block, P.off + 1, none⟩ = some (.int .i64 y.num) ∧ w2.cell? ⟨P.block, P.off + 2, none⟩ = some (.int .i64 y.frm) ∧ w2.cell? ⟨P.block, P.off + 3, none⟩ = some (.int .i64 y.dst) ∧ w2.cell? ⟨P.block, P.off + 4, none⟩ = some (.string y.body)) := by
            rintro w1 w2 ⟨k0, k1, k2, k3, k4, k5⟩ hb
            exact ⟨k0.trans (hb.mono k0.size), (hb.cell (p := P) (cell_lt k1)).trans k1, (hb.cell (p := ⟨P.block, P.off + 1, none⟩) (cell_lt k2)).trans k2, (hb.cell (p := ⟨P.block, P.off + 2, none⟩) (cell_lt k3)).trans k3, (hb.cell (p := ⟨P.block, P.off + 3, none⟩) (cell_lt k4)).trans k4, (hb.cell (p := ⟨P.block, P.off + 4, none⟩) (cell_lt k5)).trans k5⟩
          have KD : Hid (∀ (w1 : World), (Below w.heap.size w w1 ∧ w1.cell? P = some (.int .i64 y.kind) ∧ w1.cell? ⟨P.block, P.off + 1, none⟩ = some (.int .i64 y.num) ∧ w1.cell? ⟨P.block, P.off + 2, none⟩ = some (.int .i64 y.frm) ∧ w1.cell? ⟨P.block, P.off + 3, none⟩ = some (.int .i64 y.dst) ∧ w1.cell? ⟨P.block, P.off + 4, none⟩ = some (.string y.body)) → (Below w.heap.size w w1.drew ∧ w1.drew.cell? P = some (.int .i64 y.kind) ∧ w1.drew.cell? ⟨P.block, P.off + 1, none⟩ = some (.int .i64 y.num) ∧ w1.drew.cell? ⟨P.block, P.off + 2, none⟩ = some (.int .i64 y.frm) ∧ w1.drew.cell? ⟨P.block, P.off + 3, none⟩ = some (.int .i64 y.dst) ∧ w1.drew.cell? ⟨P.block, P.off + 4, none⟩ = some (.string y.body))) := Lib.hid (fun w1 h => kB _ _ h ((Below.refl _ _).drew))
          have KS := Lib.hid kS
          have KB := Lib.hid kB
          clear kS kB
          go_region_held3 (fun w' => Below w.heap.size w w' ∧ w'.cell? P = some (.int .i64 y.kind) ∧ w'.cell? ⟨P.block, P.off + 1, none⟩ = some (.int .i64 y.num) ∧ w'.cell? ⟨P.block, P.off + 2, none⟩ = some (.int .i64 y.frm) ∧ w'.cell? ⟨P.block, P.off + 3, none⟩ = some (.int .i64 y.dst) ∧ w'.cell? ⟨P.block, P.off + 4, none⟩ = some (.string y.body)) (repeat (first | with_reducible assumption | with_reducible exact HI.out | with_reducible refine KD.out _ ?_ | with_reducible refine KB.out _ _ ?_ (by assumption) | with_reducible refine KS.out _ _ _ ?_ (by assumption) (by first | exact HFAw.out | exact HFCw.out))) (first | ((with_reducible refine (AC.out (bm + 1) bm ga lvb (.slice Aa s.ls.length ca) (.slice Ba s.sv.length da) _ (HTA.out.below ((Below.refl _ _).drew))).mono ?_); rintro e w3 ⟨rfl, hp3⟩; have ht3 := tp_turn hp3; have HP := Lib.hid hp3; clear hp3) | ((with_reducible refine (AC.out Cb cm g lvc (.slice Al s.ls.length cl) (.slice Bl s.sv.length dl) _ (two_other HTC2.out HDA.out ((Below.refl _ _).drew) HP.out (Below.refl _ _))).mono ?_); rintro e w4 ⟨rfl, hp4⟩; have ht4 := tp_turn hp4; obtain ⟨lb2, la2, ka2, lc2, lr2, kr2, hA4, hC4, hD4, hfA, hfC, hT4⟩ := two_acts HTA.out HTC2.out HDA.out ((Below.refl _ _).drew) HP.out (Below.refl _ _) hp4; have HD4 := Lib.hid hD4; have HA4 := Lib.hid hA4; have HC4 := Lib.hid hC4; have HFA4 := Lib.hid hfA; have HFC4 := Lib.hid hfC; clear hA4 hC4 hD4 hfA hfC hT4 hp4) | ((with_reducible refine (AC.out Cb cm g lvc (.slice Al s.ls.length cl) (.slice Bl s.sv.length dl) _ (HTC2.out.below ((Below.refl _ _).drew))).mono ?_); rintro e w3 ⟨rfl, hp3⟩; have ht3 := tp_turn hp3; have HP := Lib.hid hp3; clear hp3) | ((with_reducible refine (AC.out (bm + 1) bm ga lvb (.slice Aa s.ls.length ca) (.slice Ba s.sv.length da) _ (two_other HTA.out HDC.out ((Below.refl _ _).drew) HP.out (Below.refl _ _))).mono ?_); rintro e w4 ⟨rfl, hp4⟩; have ht4 := tp_turn hp4; obtain ⟨lc2, lr2, kr2, lb2, la2, ka2, hC4, hA4, hD4, hfC, hfA, hT4⟩ := two_acts HTC2.out HTA.out HDC.out ((Below.refl _ _).drew) HP.out (Below.refl _ _) hp4; have HD4 := Lib.hid (fun x hx hy => hD4 x hy hx); have HA4 := Lib.hid hA4; have HC4 := Lib.hid hC4; have HFA4 := Lib.hid hfA; have HFC4 := Lib.hid hfC; clear hA4 hC4 hD4 hfA hfC hT4 hp4) | ((with_reducible refine (ST.out (bm + 1) bm lb2 _ HA4.out.bag).mono ?_); rintro e w5 ⟨lv5, kv5, rfl, o1, o2, od, hb5⟩; obtain ⟨Ax, cx, hv1, r1⟩ := OwnE.at_ encD_len o1; subst hv1; obtain ⟨Bx, dx, hv2, r2⟩ := OwnE.at_ encL_len o2; subst hv2; have RxD := Lib.hid r1; have RxL := Lib.hid r2; have HB5 := Lib.hid hb5; clear o1 o2 od r1 r2) | ((with_reducible refine (ST.out (bm + 1) bm lb2 _ (HA4.out.bag.below HB5.out)).mono ?_); rintro e w6 ⟨lv6, kv6, rfl, o1, o2, od, hb6⟩; obtain ⟨Ax, cx, hv1, r1⟩ := OwnE.at_ encD_len o1; subst hv1; obtain ⟨Bx, dx, hv2, r2⟩ := OwnE.at_ encL_len o2; subst hv2; have RxD := Lib.hid r1; have RxL := Lib.hid r2; have HB6 := Lib.hid hb6; clear o1 o2 od r1 r2) | ((with_reducible refine (ST.out Cb cm lc2 _ HC4.out.bag).mono ?_); rintro e w5 ⟨lv5, kv5, rfl, o1, o2, od, hb5⟩; obtain ⟨Az, cz, hv1, r1⟩ := OwnE.at_ encD_len o1; subst hv1; obtain ⟨Bz, dz, hv2, r2⟩ := OwnE.at_ encL_len o2; subst hv2; have RzD := Lib.hid r1; have RzL := Lib.hid r2; have HB5 := Lib.hid hb5; clear o1 o2 od r1 r2) | ((with_reducible refine (ST.out Cb cm lc2 _ (HC4.out.bag.below HB5.out)).mono ?_); rintro e w6 ⟨lv6, kv6, rfl, o1, o2, od, hb6⟩; obtain ⟨Az, cz, hv1, r1⟩ := OwnE.at_ encD_len o1; subst hv1; obtain ⟨Bz, dz, hv2, r2⟩ := OwnE.at_ encL_len o2; subst hv2; have RzD := Lib.hid r1; have RzL := Lib.hid r2; have HB6 := Lib.hid hb6; clear o1 o2 od r1 r2) | ((with_reducible refine (SM.out Ax cx Bx dx Az cz Bz dz _ (by first | exact RxD.out | exact (RxD.out.below HB6.out).more HB6.out.size) (by first | exact RzD.out | exact (RzD.out.below HB6.out).more HB6.out.size) (by first | exact RxL.out | exact (RxL.out.below HB6.out).more HB6.out.size) (by first | exact RzL.out | exact (RzL.out.below HB6.out).more HB6.out.size)).mono ?_); rintro e w7 ⟨rfl, hb7⟩; have HB7 := Lib.hid hb7))
          all_goals (
            have kb7 : Below w.heap.size w w7 := And.left (by assumption : Below w.heap.size w w7 ∧ _)
            have hb47 := HB5.out.trans ((HB6.out.trans (HB7.out.mono HB6.out.size)).mono HB5.out.size)
            have HA7 := Lib.hid (HA4.out.bag.below hb47)
            have HC7 := Lib.hid (HC4.out.below hb47)
            have hbmw := HBM.out
            have hsw := HSW.out
            have HD7 : Hid (∀ x ∈ foot (bm + 1) bm lb2, x ∉ feet Cb cm g lc2 lr2 kr2) := Lib.hid (fun x hx hy => HD4.out x (feet_l hx) hy)
            have HFB7 : Hid (∀ x ∈ foot (bm + 1) bm lb2, bm ≤ x) := Lib.hid (fun x hx => (HFA4.out x (feet_l hx)).elim (fun h => by have := HFAw.out x h; omega) (fun h => by omega))
            have HFC7 : Hid (∀ x ∈ feet Cb cm g lc2 lr2 kr2, bm ≤ x) := Lib.hid (fun x hx => (HFC4.out x hx).elim (fun h => by have := HFCw.out x h; omega) (fun h => by omega))
            clear hb47
            go_wp2
            go_roundw)
          all_goals first
            | exact ⟨j + 1, s2, lb2, lc2, lr2, kr2, by omega, by go_num, HA7, HC7, HF2, HL2, HD7, HFB7, HFC7, kb7⟩
            | (simp [intOf]; omega)
        · obtain rfl : m = j := by omega
          go_wp2_with (fail)
          refine (awake_any _).mono ?_; rintro e w4 ⟨rfl, hb4⟩
          go_wp2
          go_ret
          exact ⟨rfl, (by repeat (first | with_reducible refine Below.setCell ?_ (by first | (simp; done) | (simp; omega) | omega) _ | with_reducible refine Below.alloc ?_ (by first | (simp; done) | (simp; omega) | omega) _ | with_reducible refine Below.drew ?_ | with_reducible refine below_drewN ?_ _ | with_reducible exact Below.refl _ _ | with_reducible refine Below.trans ?_ (Below.mono hb4 (by first | (simp; done) | (simp; omega) | omega)) | with_reducible refine Below.trans ?_ (Below.mono kb0 (by first | (simp; done) | (simp; omega) | omega))))⟩
theorem bagGoes_lifted (os : Os) (started : os.Started) (H : Type) (enc : TypeId × Value → H) :
    ReturnsInHanded {} Try.checked os 6 .any (Rows.bagGoesSpec.pre6 enc Try.prog Try.f6 Rows.bagGoesRow.domain false) (Rows.bagGoesSpec.post enc Try.prog Try.f6 false true false false) := by
  refine returnsInHanded_of_change_sized (C := Try.checked) own started (by kernel_rfl) Try.func6
    (ChangeSpec.witness6 (enc := enc) (C := Try.checked) false ⟨#[], #[.slice none 0 0, .slice none 0 0], []⟩ 8 (by kernel_rfl) (by kernel_rfl) (by kernel_rfl) (by kernel_rfl)) ?_
  intro W base args ds gs before hval hW _ hsz _
  have hW' := hW
  obtain ⟨p, q, hA, hV, rfl, hfz, hnd⟩ := hW
  obtain ⟨rfl, rfl⟩ := trodVars_none hV
  rw [Try.params6] at hA hval
  obtain ⟨v0, vs0, d0, ds0, p0, q0, hargs, rfl, rfl, h0, r0⟩ := trodAll_cons hA
  obtain ⟨v1, vs1, d1, ds1, p1, q1, rfl, rfl, rfl, h1, r1⟩ := trodAll_cons r0
  obtain ⟨rfl, rfl, rfl⟩ := trodAll_nil r1
  obtain rfl : args = #[v0, v1] := by cases args; simp_all
  obtain ⟨A0, n0, c0, rs, rfl, _, hr0, ho0, hd0⟩ := open_acts (hval 0 _ v0 rfl rfl) h0
  obtain ⟨A1, n1, c1, ts, rfl, _, hr1, ho1, hd1⟩ := open_acts (hval 1 _ v1 rfl rfl) h1
  refine (bagGoes_any A0 A1 n0 c0 n1 c1 rs ts W hr0 hr1 ho0 ho1 (small_rows hsz (j := 0) rfl rfl Try.underlying22 (by kernel_rfl) hd0) (small_rows hsz (j := 1) rfl rfl Try.underlying22 (by kernel_rfl) hd1)).mono fun e W' ⟨he, hg⟩ => ?_
  subst he
  exact ⟨_, rfl, law_post laidOut rfl (by kernel_rfl) rfl Try.underlying4 rfl hW' hg⟩

theorem bagGoes_holds : Rows.BagGoesSaid :=
  OpenClaim.holds_of_wide 6 Try.f6 rfl rfl rfl rfl rfl rfl rfl ⟨rfl, rfl, rfl, rfl, rfl⟩ rfl rfl rfl rfl rfl (by kernel_rfl) Try.func6 (by kernel_rfl)
    (of_decide_eq_true (by kernel_rfl)) (by unfold Func.isWrapper; first | (rw [if_pos (by decide +kernel)]; kernel_rfl) | (rw [if_neg (by decide +kernel)]; exact ⟨rfl, rfl⟩))
    (fun os started H enc _ => bagGoes_lifted os started H enc)

end Go.Proofs.Ytdaobbffhfbceaa
