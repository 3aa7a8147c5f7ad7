/- The reference's Double and Take: what each call computes. -/
import Derived.Test.YtdaobbffhfbceaaRfC
namespace Go.Proofs.Ytdaobbffhfbceaa
open Go.RowKit Go.Shelf
set_option linter.unusedVariables false
set_option linter.unusedSimpArgs false
set_option maxRecDepth 100000
theorem MovedR.less {w w' : World} {a b c d : Value} (h : MovedR w' a b c d) (hs : w.heap.size ≤ w'.heap.size) : MovedR w a b c d := fun x hx => (h x hx).imp id (fun h => by omega)
theorem RowsE.take {α : Type} {enc : α → List Value} {k : Nat} {w : World} {B n i : Nat} {A : Option Addr} {rs : List α} (h : RowsE enc k w B A n rs) (hi : i ≤ n) : RowsE enc k w B A i (rs.take i) :=
  ⟨by rw [List.length_take, h.1]; omega, fun h0 => by
    obtain ⟨ad, e, hB, hc⟩ := h.2 (by omega)
    refine ⟨ad, e, hB, fun j x hx => hc j x ?_⟩
    rw [List.getElem?_take] at hx
    split at hx
    · exact hx
    · cases hx⟩
theorem flatE_drop {α : Type} {enc : α → List Value} {k : Nat} (hk : ∀ x, (enc x).length = k) : ∀ (i : Nat) (xs : List α), (flatE enc xs).drop (i * k) = flatE enc (xs.drop i) := by
  intro i
  induction i with
  | zero => intro xs; simp
  | succ i ih =>
    intro xs
    cases xs with
    | nil => simp [flatE]
    | cons c cs =>
      have hd : flatE enc (c :: cs) = enc c ++ flatE enc cs := rfl
      rw [hd, List.drop_succ_cons, ← ih cs, List.drop_append, List.drop_of_length_le (by rw [hk, Nat.add_mul]; omega), hk, List.nil_append]
      congr 1
      rw [Nat.add_mul]
      omega
theorem row_cap {w : World} {base : Nat} {e : TypeId} {k n c : Nat} {A : Option Addr} {xs : List Value} (h : w.ownsRow base e k (.slice A n c) n xs) : n ≤ c ∧ c ≤ maxLen := by
  rcases h.2 with ⟨e, rfl⟩ | ⟨g, cap, cur, e, _, _, h1, h2, _⟩
  · cases e; exact ⟨Nat.le_refl _, Nat.zero_le _⟩
  · cases e; exact ⟨h1, h2⟩
set_option maxHeartbeats 1000000 in
theorem rdouble_any (g : Nat) (lv sv : Value) (s : BS) (k : Int) (w : World) (h : RefAt w g lv sv s) (hm : s.sv.length ≤ maxLen) :
    Calls Try.prog 38 #[.pointer (some ⟨g, 0, none⟩), .int .i64 k] w fun e w' => e = .returned (.tuple #[.int .i64 (doubS s k).2.1, .int .i64 (doubS s k).2.2]) ∧ ∃ lv' sv', RefAt w' g lv' sv' (doubS s k).1 ∧ MovedR w lv sv lv' sv' ∧ Turn (footR g lv sv) w w' := by
  obtain ⟨A, c, rfl⟩ := row_slice' h.rl
  have cp := place_any g _ sv s k w h
  have HB := Lib.hid h
  have hlen := h.ok.len
  have hnm := h.ok.nm
  cases hn : findN s.ls k with
  | none =>
    rw [hn] at cp
    have hp : plc none = (-1 : Int) := rfl
    rw [hp] at cp
    have CP := Lib.hid cp
    rw [doubS_none hn]
    clear h cp hp hn
    go_enter Try.func38, Try.ntmps38
    go_wp2_with (fail)
    refine CP.out.mono ?_; rintro e w1 ⟨rfl, hb1⟩
    go_wp2
    go_ret2
    exact ⟨rfl, _, sv, HB.out.below hb1, MovedR.refl _ _ _, Turn.below hb1 (Nat.le_refl _)⟩
  | some i =>
    rw [hn] at cp
    have hp : plc (some i) = (i : Int) := rfl
    rw [hp] at cp
    have CP := Lib.hid cp
    obtain ⟨d, hd, hk, -⟩ := findN_some hn
    rw [doubS_some hn hd]
    clear h cp hp
    go_enter Try.func38, Try.ntmps38
    go_wp2_with (fail)
    refine CP.out.mono ?_; rintro e w1 ⟨rfl, hb1⟩
    have hh := HB.out.below hb1
    obtain ⟨A', c', e', hrow⟩ := OwnE.at_ encD_len hh.rl
    obtain ⟨rfl, -, rfl⟩ := Value.slice.inj e'
    obtain ⟨hil, -⟩ := List.getElem?_eq_some_iff.1 hd
    obtain ⟨ad, x, rfl, hab, hx, h4⟩ := hrow.get hil
    obtain rfl : d = x := by rw [hd] at hx; exact Option.some.inj hx
    obtain ⟨P, hP⟩ : ∃ P, ad.add (i * 4) = P := ⟨_, rfl⟩
    have hPb : P.block < w1.heap.size := by rw [← hP, block_of_add]; exact hab
    rw [hP] at h4
    have e0 : w1.cell? P = some (.int .i64 d.num) := by have := h4 0 _ rfl; rwa [add_z P] at this
    have e1 : w1.cell? ⟨P.block, P.off + 1, none⟩ = some (.int .i64 d.frm) := by have := h4 1 _ rfl; rwa [add_next P 0] at this
    have e2 : w1.cell? ⟨P.block, P.off + 2, none⟩ = some (.int .i64 d.dst) := by have := h4 2 _ rfl; rwa [add_next P 1] at this
    have e3 : w1.cell? ⟨P.block, P.off + 3, none⟩ = some (.string d.body) := by have := h4 3 _ rfl; rwa [add_next P 2] at this
    have hi64 := hnm d (List.mem_of_getElem? hd)
    have c1 := hh.c1
    have hg1 := cell_lt c1
    simp only [] at hg1
    have HH := Lib.hid hh
    have hsz := hb1.size
    obtain ⟨dn, df, dt, db⟩ := d
    simp only [] at e0 e1 e2 e3
    have HI := Lib.hid hi64
    clear hh h4 hrow hx hd hk hn e' hnm hi64
    go_wp2_with (fail)
    have cc := rput_any g _ sv s df dt db (w1.alloc (Obj.cells #[.int .i64 dn, .int .i64 df, .int .i64 dt, .string db] 33)) (HH.out.below (by repeat (first | with_reducible refine Below.setCell ?_ (by first | (simp; done) | (simp; omega) | omega) _ | with_reducible refine Below.alloc ?_ (by first | (simp; done) | (simp; omega) | omega) _ | with_reducible refine Below.drew ?_ | with_reducible refine below_drewN ?_ _ | with_reducible exact Below.refl _ _))) hm HI.out.2.1 HI.out.2.2
    refine cc.mono ?_; clear cc; rintro e w2 ⟨rfl, lv2, sv2, h1, h2, h3⟩
    have H1 := Lib.hid h1
    have H2 := Lib.hid h2
    have H3 := Lib.hid h3
    clear h1 h2 h3
    go_wp2
    go_ret2
    have hlt : w.heap.size ≤ (w1.alloc (Obj.cells #[.int .i64 dn, .int .i64 df, .int .i64 dt, .string db] 33)).heap.size := by simp; omega
    refine ⟨rfl, _, _, H1.out, H2.out.less hlt, ?_⟩
    have hq : Below w.heap.size w (w1.alloc (Obj.cells #[.int .i64 dn, .int .i64 df, .int .i64 dt, .string db] 33)) := (by repeat (first | with_reducible refine Below.setCell ?_ (by first | (simp; done) | (simp; omega) | omega) _ | with_reducible refine Below.alloc ?_ (by first | (simp; done) | (simp; omega) | omega) _ | with_reducible refine Below.drew ?_ | with_reducible refine below_drewN ?_ _ | with_reducible exact Below.refl _ _ | with_reducible refine Below.trans ?_ (Below.mono hb1 (by first | (simp; done) | (simp; omega) | omega))))
    exact (Turn.below (F := footR g _ sv) hq (Nat.le_refl _)).trans H3.out (fun b hb => .inl hb)
set_option maxHeartbeats 1000000 in
theorem rtake_any (g : Nat) (lv sv : Value) (s : BS) (k : Int) (w : World) (h : RefAt w g lv sv s) :
    Calls Try.prog 37 #[.pointer (some ⟨g, 0, none⟩), .int .i64 k] w fun e w' => e = .returned (.tuple #[dAgg (takeS s k).2.1, .int .i64 (takeS s k).2.2]) ∧ ∃ lv' sv', RefAt w' g lv' sv' (takeS s k).1 ∧ MovedR w lv sv lv' sv' ∧ Turn (footR g lv sv) w w' := by
  obtain ⟨A, c, rfl⟩ := row_slice' h.rl
  have cp := fun (W : World) (hW : Below w.heap.size w W) => place_any g _ sv s k W (h.below hW)
  have HB := Lib.hid h
  have hlen := h.ok.len
  have HLL := Lib.hid hlen
  have hg0 := cell_lt h.c0
  simp only [] at hg0
  cases hn : findN s.ls k with
  | none =>
    rw [hn] at cp
    have hp : plc none = (-1 : Int) := rfl
    rw [hp] at cp
    have CP := Lib.hid cp
    rw [takeS_none hn]
    clear h cp hp hn
    go_enter Try.func37, Try.ntmps37
    go_wp2_with (fail)
    refine (CP.out _ (by repeat (first | with_reducible refine Below.setCell ?_ (by first | (simp; done) | (simp; omega) | omega) _ | with_reducible refine Below.alloc ?_ (by first | (simp; done) | (simp; omega) | omega) _ | with_reducible refine Below.drew ?_ | with_reducible refine below_drewN ?_ _ | with_reducible exact Below.refl _ _))).mono ?_; rintro e w1 ⟨rfl, hb1⟩
    have hq : Below w.heap.size w w1 := (by repeat (first | with_reducible refine Below.setCell ?_ (by first | (simp; done) | (simp; omega) | omega) _ | with_reducible refine Below.alloc ?_ (by first | (simp; done) | (simp; omega) | omega) _ | with_reducible refine Below.drew ?_ | with_reducible refine below_drewN ?_ _ | with_reducible exact Below.refl _ _ | with_reducible refine Below.trans ?_ (Below.mono hb1 (by first | (simp; done) | (simp; omega) | omega))))
    obtain ⟨hc, hf⟩ := bcell hb1
    have hz : w.heap.size < w1.heap.size := by have := hb1.size; simp at this; omega
    go_wp2
    exact bodyPost_ret (v := .tuple #[dAgg Dg0, .int .i64 31]) (by simp [results, Try.results37, go_sem, hc, hz]; exact ⟨rfl, rfl, rfl, rfl⟩) rfl ⟨rfl, _, sv, HB.out.below (by repeat (first | with_reducible refine Below.setCell ?_ (by first | (simp; done) | (simp; omega) | omega) _ | with_reducible refine Below.alloc ?_ (by first | (simp; done) | (simp; omega) | omega) _ | with_reducible refine Below.drew ?_ | with_reducible refine below_drewN ?_ _ | with_reducible exact Below.refl _ _ | with_reducible refine Below.trans ?_ (Below.mono hq (by first | (simp; done) | (simp; omega) | omega)))), MovedR.refl _ _ _, Turn.below (B := w.heap.size) (by repeat (first | with_reducible refine Below.setCell ?_ (by first | (simp; done) | (simp; omega) | omega) _ | with_reducible refine Below.alloc ?_ (by first | (simp; done) | (simp; omega) | omega) _ | with_reducible refine Below.drew ?_ | with_reducible refine below_drewN ?_ _ | with_reducible exact Below.refl _ _ | with_reducible refine Below.trans ?_ (Below.mono hq (by first | (simp; done) | (simp; omega) | omega)))) (Nat.le_refl _)⟩
  | some i =>
    rw [hn] at cp
    have hp : plc (some i) = (i : Int) := rfl
    rw [hp] at cp
    have CP := Lib.hid cp
    obtain ⟨i0, hi0, hj0, hj1, hj2⟩ := info_parts dg_inf
    have hcap := row_cap h.rl
    obtain ⟨d, hd, hk, -⟩ := findN_some hn
    have htk : takeS s k = (⟨s.nx, s.ls.eraseIdx i, s.sv⟩, d, 0) := by unfold takeS; rw [hn]; simp [hd]
    rw [htk]
    have hok := takeS_ok (k := k) h.ok
    rw [htk] at hok
    have HOK := Lib.hid hok
    clear h cp hp htk hok
    go_enter Try.func37, Try.ntmps37
    go_wp2_with (fail)
    refine (CP.out _ (by repeat (first | with_reducible refine Below.setCell ?_ (by first | (simp; done) | (simp; omega) | omega) _ | with_reducible refine Below.alloc ?_ (by first | (simp; done) | (simp; omega) | omega) _ | with_reducible refine Below.drew ?_ | with_reducible refine below_drewN ?_ _ | with_reducible exact Below.refl _ _))).mono ?_; rintro e w1 ⟨rfl, hb1'⟩
    have hb1 : Below w.heap.size w w1 := (by repeat (first | with_reducible refine Below.setCell ?_ (by first | (simp; done) | (simp; omega) | omega) _ | with_reducible refine Below.alloc ?_ (by first | (simp; done) | (simp; omega) | omega) _ | with_reducible refine Below.drew ?_ | with_reducible refine below_drewN ?_ _ | with_reducible exact Below.refl _ _ | with_reducible refine Below.trans ?_ (Below.mono hb1' (by first | (simp; done) | (simp; omega) | omega))))
    have hh := HB.out.below hb1
    obtain ⟨A', c', e', hrow⟩ := OwnE.at_ encD_len hh.rl
    obtain ⟨rfl, -, rfl⟩ := Value.slice.inj e'
    obtain ⟨hil, -⟩ := List.getElem?_eq_some_iff.1 hd
    obtain ⟨ad, x, rfl, hab, hx, h4⟩ := hrow.get hil
    obtain rfl : d = x := by rw [hd] at hx; exact Option.some.inj hx
    obtain ⟨P, hP⟩ : ∃ P, ad.add (i * 4) = P := ⟨_, rfl⟩
    have hPb : P.block < w1.heap.size := by rw [← hP, block_of_add]; exact hab
    rw [hP] at h4
    have e0 : w1.cell? P = some (.int .i64 d.num) := by have := h4 0 _ rfl; rwa [add_z P] at this
    have e1 : w1.cell? ⟨P.block, P.off + 1, none⟩ = some (.int .i64 d.frm) := by have := h4 1 _ rfl; rwa [add_next P 0] at this
    have e2 : w1.cell? ⟨P.block, P.off + 2, none⟩ = some (.int .i64 d.dst) := by have := h4 2 _ rfl; rwa [add_next P 1] at this
    have e3 : w1.cell? ⟨P.block, P.off + 3, none⟩ = some (.string d.body) := by have := h4 3 _ rfl; rwa [add_next P 2] at this
    obtain ⟨gl, rfl⟩ : ∃ gl, ad = ⟨gl, 0, none⟩ := by
      rcases hh.rl.2 with ⟨e, _⟩ | ⟨q, cap, cur, e, _⟩
      · cases e
      · cases e; exact ⟨q, rfl⟩
    have hP2 : P = ⟨gl, i * 4, none⟩ := by rw [← hP]; simp [Addr.add]; try omega
    clear hP
    subst hP2
    have hrd : Reads w1 w1.heap.size 4 (some ⟨gl, 0, none⟩) s.ls.length (flatE encD s.ls) := hrow.reads encD_len
    have HRT : Hid (Reads w1 w1.heap.size 4 (some ⟨gl, 0, none⟩) i (flatE encD (s.ls.take i))) := Lib.hid ((hrow.take (by omega)).reads encD_len)
    have HRC := Lib.hid (hrd.cut (k := i + 1) (cap := c) (by omega) hcap.1)
    rw [flatE_drop encD_len] at HRC
    have hadx : ∃ adx : Addr, (if c = i + 1 then some (⟨gl, 0, none⟩ : Addr) else some ⟨gl, (i + 1) * 4, none⟩) = some adx ∧ (if c = i + 1 then some (⟨gl, 0, none⟩ : Addr) else (some (⟨gl, 0, none⟩ : Addr)).map (·.add ((i + 1) * 4))) = some adx := by
      by_cases e : c = i + 1
      · exact ⟨_, by rw [if_pos e], by rw [if_pos e]⟩
      · exact ⟨_, by rw [if_neg e], by rw [if_neg e]; simp [Addr.add]⟩
    obtain ⟨adx, hadx, hadx2⟩ := hadx
    rw [hadx2] at HRC
    have c1 := hh.c1
    have f1 := hh.f1
    have hg1 := cell_lt c1
    simp only [] at hg1
    have hw1 : w.heap.size < w1.heap.size := by have := hb1'.size; simp at this; omega
    obtain ⟨hcc, hff⟩ := bcell hb1'
    have z40 : w1.cell? ⟨w.heap.size, 0, none⟩ = some (.int .i64 0) := (hcc w.heap.size 0 (by simp)).trans (by go_simp)
    have y40 : w1.frozen? ⟨w.heap.size, 0, none⟩ = false := (hff w.heap.size 0 (by simp)).trans (by go_simp)
    have z41 : w1.cell? ⟨w.heap.size, 1, none⟩ = some (.int .i64 0) := (hcc w.heap.size 1 (by simp)).trans (by go_simp)
    have y41 : w1.frozen? ⟨w.heap.size, 1, none⟩ = false := (hff w.heap.size 1 (by simp)).trans (by go_simp)
    have z42 : w1.cell? ⟨w.heap.size, 2, none⟩ = some (.int .i64 0) := (hcc w.heap.size 2 (by simp)).trans (by go_simp)
    have y42 : w1.frozen? ⟨w.heap.size, 2, none⟩ = false := (hff w.heap.size 2 (by simp)).trans (by go_simp)
    have z43 : w1.cell? ⟨w.heap.size, 3, none⟩ = some (.string ⟨#[]⟩) := (hcc w.heap.size 3 (by simp)).trans (by go_simp)
    have y43 : w1.frozen? ⟨w.heap.size, 3, none⟩ = false := (hff w.heap.size 3 (by simp)).trans (by go_simp)
    obtain ⟨dn, df, dt, db⟩ := d
    simp only [] at e0 e1 e2 e3
    have HH := Lib.hid hh
    have hcap2 : (c : Int) ≤ 9223372036854775807 := by have := hcap.2; unfold maxLen at this; omega
    have hcap1 := hcap.1
    have hic : i ≤ c := by omega
    have hic1 : i + 1 ≤ s.ls.length := by omega
    have hic2 : i + 1 ≤ c := by omega
    have hicZ : (i : Int) ≤ (c : Int) := by omega
    have hicZ1 : (i : Int) + 1 ≤ (s.ls.length : Int) := by omega
    have h0i : 0 ≤ (i : Int) + 1 := by omega
    have hll := HLL.out
    have HBW := Lib.hid hb1
    have HDD := Lib.hid hd
    clear hh h4 hrow hx hd hk hn e' hrd hcap hcc hff hb1' hb1 hadx2
    go_wp2_with (first
      | (at_builtin; refine wpList_append_any _ rfl (.tmp 23) (.tmp 30) _ rfl (w1.heap.size + 1) 33 i0 _ 4 40 Try.underlying43 hi0 hj0 hj1 hj2 rfl (by omega) (.slice none 0 0) 0 [] rfl ⟨by simp, .inl ⟨rfl, rfl⟩⟩ w1.heap.size (some ⟨gl, 0, none⟩) i c (flatE encD (s.ls.take i)) rfl (by exact HRT.out.below (by repeat (first | with_reducible refine Below.setCell ?_ (by first | (simp; done) | (simp; omega) | omega) _ | with_reducible refine Below.alloc ?_ (by first | (simp; done) | (simp; omega) | omega) _ | with_reducible refine Below.drew ?_ | with_reducible refine below_drewN ?_ _ | with_reducible exact Below.refl _ _))) (flatE_one encD_one _) (by simp only [maxLen]; omega) (by omega) (by simp) ?_; intro v6 w6 hown6 hg6 hat6; rw [Nat.zero_add, List.nil_append] at hown6; obtain ⟨A6, c6, hv6⟩ := row_slice' hown6; subst hv6; have HG6 := Lib.hid hg6; have HO6 := Lib.hid hown6; clear hown6 hg6 hat6; have hb6 : Below (w1.heap.size + 1) (w1.alloc (Obj.cells #[.int .i64 dn, .int .i64 df, .int .i64 dt, .string db] 33)) w6 := (row_grown (base := w1.heap.size + 1) (W := w1.alloc (Obj.cells #[.int .i64 dn, .int .i64 df, .int .i64 dt, .string db] 33)) (v := .slice none 0 0) (n := 0) (size := 4) (e := 33) (xs := []) ⟨by simp, .inl ⟨rfl, rfl⟩⟩ HG6.out (by simp)); have c16 : w6.cell? ⟨g, 1, none⟩ = some (.slice (some ⟨gl, 0, none⟩) s.ls.length c) := ((hb6.cell (p := ⟨g, 1, none⟩) (by show g < _; omega)).trans (by go_simp)); have hs6 : g < w6.heap.size := cell_lt c16)
      | (at_builtin; refine wpList_append_any _ rfl (.tmp 33) (.tmp 41) _ rfl (w1.heap.size + 1) 33 i0 _ 4 40 Try.underlying43 hi0 hj0 hj1 hj2 rfl (by omega) (.slice A6 i c6) i (flatE encD (s.ls.take i)) rfl (by exact HO6.out) w1.heap.size (some adx) (s.ls.length - (i + 1)) (c - (i + 1)) (flatE encD (s.ls.drop (i + 1))) rfl (by exact HRC.out.below (((by repeat (first | with_reducible refine Below.setCell ?_ (by first | (simp; done) | (simp; omega) | omega) _ | with_reducible refine Below.alloc ?_ (by first | (simp; done) | (simp; omega) | omega) _ | with_reducible refine Below.drew ?_ | with_reducible refine below_drewN ?_ _ | with_reducible exact Below.refl _ _)) : Below w1.heap.size w1 (w1.alloc (Obj.cells #[.int .i64 dn, .int .i64 df, .int .i64 dt, .string db] 33))).trans (hb6.mono (Nat.le_succ _)))) (flatE_one encD_one _) (by simp only [maxLen]; omega) (by omega) (by have := hb6.size; simp at this; omega) ?_; intro v7 w7 hown7 hg7 hat7; obtain ⟨A7, c7, hv7⟩ := row_slice' hown7; subst hv7; have HG7 := Lib.hid hg7; have HO7 := Lib.hid hown7; clear hown7 hg7 hat7; have hb7 : Below (w1.heap.size + 1) w6 w7 := row_grown HO6.out HG7.out (by have := hb6.size; simp at this; omega); have hb8 : Below (w1.heap.size + 1) (w1.alloc (Obj.cells #[.int .i64 dn, .int .i64 df, .int .i64 dt, .string db] 33)) w7 := hb6.trans hb7; have q1 : w7.cell? ⟨g, 1, none⟩ = some (.slice (some ⟨gl, 0, none⟩) s.ls.length c) := (hb8.cell (p := ⟨g, 1, none⟩) (by show g < _; omega)).trans (by go_simp); have p1 : w7.frozen? ⟨g, 1, none⟩ = false := (hb8.frozen (p := ⟨g, 1, none⟩) (by show g < _; omega)).trans (by go_simp); have q40 : w7.cell? ⟨w.heap.size, 0, none⟩ = some (.int .i64 0) := (hb8.cell (p := ⟨w.heap.size, 0, none⟩) (by show w.heap.size < _; omega)).trans (by go_simp); have p40 : w7.frozen? ⟨w.heap.size, 0, none⟩ = false := (hb8.frozen (p := ⟨w.heap.size, 0, none⟩) (by show w.heap.size < _; omega)).trans (by go_simp); have q70 : w7.cell? ⟨w1.heap.size, 0, none⟩ = some (.int .i64 dn) := (hb8.cell (p := ⟨w1.heap.size, 0, none⟩) (by show w1.heap.size < _; omega)).trans (by go_simp); have q41 : w7.cell? ⟨w.heap.size, 1, none⟩ = some (.int .i64 0) := (hb8.cell (p := ⟨w.heap.size, 1, none⟩) (by show w.heap.size < _; omega)).trans (by go_simp); have p41 : w7.frozen? ⟨w.heap.size, 1, none⟩ = false := (hb8.frozen (p := ⟨w.heap.size, 1, none⟩) (by show w.heap.size < _; omega)).trans (by go_simp); have q71 : w7.cell? ⟨w1.heap.size, 1, none⟩ = some (.int .i64 df) := (hb8.cell (p := ⟨w1.heap.size, 1, none⟩) (by show w1.heap.size < _; omega)).trans (by go_simp); have q42 : w7.cell? ⟨w.heap.size, 2, none⟩ = some (.int .i64 0) := (hb8.cell (p := ⟨w.heap.size, 2, none⟩) (by show w.heap.size < _; omega)).trans (by go_simp); have p42 : w7.frozen? ⟨w.heap.size, 2, none⟩ = false := (hb8.frozen (p := ⟨w.heap.size, 2, none⟩) (by show w.heap.size < _; omega)).trans (by go_simp); have q72 : w7.cell? ⟨w1.heap.size, 2, none⟩ = some (.int .i64 dt) := (hb8.cell (p := ⟨w1.heap.size, 2, none⟩) (by show w1.heap.size < _; omega)).trans (by go_simp); have q43 : w7.cell? ⟨w.heap.size, 3, none⟩ = some (.string ⟨#[]⟩) := (hb8.cell (p := ⟨w.heap.size, 3, none⟩) (by show w.heap.size < _; omega)).trans (by go_simp); have p43 : w7.frozen? ⟨w.heap.size, 3, none⟩ = false := (hb8.frozen (p := ⟨w.heap.size, 3, none⟩) (by show w.heap.size < _; omega)).trans (by go_simp); have q73 : w7.cell? ⟨w1.heap.size, 3, none⟩ = some (.string db) := (hb8.cell (p := ⟨w1.heap.size, 3, none⟩) (by show w1.heap.size < _; omega)).trans (by go_simp); have hz7 : w1.heap.size < w7.heap.size := cell_lt q70; have hz8 : w.heap.size < w7.heap.size := (by omega); have hz9 : g < w7.heap.size := (by omega)))
    have hw1n : w.heap.size ≤ w1.heap.size := by omega
    have kb7 : Below w.heap.size w w7 := HBW.out.trans (((by repeat (first | with_reducible refine Below.setCell ?_ (by first | (simp; done) | (simp; omega) | omega) _ | with_reducible refine Below.alloc ?_ (by first | (simp; done) | (simp; omega) | omega) _ | with_reducible refine Below.drew ?_ | with_reducible refine below_drewN ?_ _ | with_reducible exact Below.refl _ _)) : Below w.heap.size w1 (w1.alloc (Obj.cells #[.int .i64 dn, .int .i64 df, .int .i64 dt, .string db] 33))).trans (hb8.mono (by omega)))
    have kb8 : Below w1.heap.size w1 w7 := ((by repeat (first | with_reducible refine Below.setCell ?_ (by first | (simp; done) | (simp; omega) | omega) _ | with_reducible refine Below.alloc ?_ (by first | (simp; done) | (simp; omega) | omega) _ | with_reducible refine Below.drew ?_ | with_reducible refine below_drewN ?_ _ | with_reducible exact Below.refl _ _)) : Below w1.heap.size w1 (w1.alloc (Obj.cells #[.int .i64 dn, .int .i64 df, .int .i64 dt, .string db] 33))).trans (hb8.mono (Nat.le_succ _))
    have her : s.ls.eraseIdx i = s.ls.take i ++ s.ls.drop (i + 1) := List.eraseIdx_eq_take_drop_succ ..
    have hln : (s.ls.eraseIdx i).length = i + (s.ls.length - (i + 1)) := by rw [her, List.length_append, List.length_take, List.length_drop]; omega
    have hrow7 : OwnE encD 4 33 w7 (w1.heap.size + 1) (.slice A7 (i + (s.ls.length - (i + 1))) c7) (s.ls.eraseIdx i) := by
      unfold OwnE
      rw [hln, her]
      have hfa : flatE encD (s.ls.take i ++ s.ls.drop (i + 1)) = flatE encD (s.ls.take i) ++ flatE encD (s.ls.drop (i + 1)) := by unfold flatE; rw [List.flatMap_append]
      rw [hfa]
      exact HO7.out
    have hfr := own_fresh hrow7
    have hh := HH.out
    have hgw : g < w.heap.size := hg0
    have hbf := hh.relist (F := []) (Turn.below kb8 (Nat.le_refl _)) (by simp) (by simp) (hrow7.less (Nat.zero_le _)) (fun e => by have := hfr _ e; omega) (fun b e e2 => by have h1 := hfr _ e; have h2 := rowK_lt hh.rs e2; omega) HOK.out
    have HBF := Lib.hid hbf
    have hlt0 := HB.out.lt
    have hnw : ∀ b ∈ footR g (.slice A7 (i + (s.ls.length - (i + 1))) c7) sv, b ≠ w.heap.size := by
      intro b hb
      simp only [footR, List.mem_cons, List.mem_append, Option.mem_toList] at hb
      rcases hb with rfl | hb | hb
      · omega
      · have := hfr _ hb; omega
      · have := hlt0 b (by simp [footR, hb]); omega
    have HNW := Lib.hid hnw
    have HFR := Lib.hid hfr
    have hT : Turn (footR g (.slice (some ⟨gl, 0, none⟩) s.ls.length c) sv) w (w7.setCell ⟨g, 1, none⟩ (.slice A7 (i + (s.ls.length - (i + 1))) c7)) := (Turn.below kb7 (Nat.le_refl _)).setCell (.inl (by simp [footR])) _
    have HT := Lib.hid hT
    have hT4 : ∀ X : World, Turn [w.heap.size] X ((((X.setCell ⟨w.heap.size, 0, none⟩ (.int .i64 dn)).setCell ⟨w.heap.size, 1, none⟩ (.int .i64 df)).setCell ⟨w.heap.size, 2, none⟩ (.int .i64 dt)).setCell ⟨w.heap.size, 3, none⟩ (.string db)) := fun X => ((((Turn.refl _ X).setCell (.inl (by simp)) _).setCell (.inl (by simp)) _).setCell (.inl (by simp)) _).setCell (.inl (by simp)) _
    have HT4 := Lib.hid hT4
    clear hT hT4 hbf hnw hfr hrow7 hln her kb7 kb8 hh hlt0 hb6 hb7 hb8
    refine bodyPost_ret (v := .tuple #[.agg #[.int .i64 dn, .int .i64 df, .int .i64 dt, .string db], .int .i64 0]) (by simp [results, Try.results37, go_sem, *]) rfl ⟨rfl, ?_⟩
    refine ⟨_, sv, HBF.out.turn (HT4.out _) (fun b hb => by rw [List.mem_singleton]; exact HNW.out b hb), (fun b hb => ?_), HT.out.trans (HT4.out _) (fun b hb => .inr (by rw [List.mem_singleton] at hb; omega))⟩
    rcases hb with hb | hb
    · exact .inr (by have := HFR.out b hb; omega)
    · exact .inl (.inr hb)
end Go.Proofs.Ytdaobbffhfbceaa
