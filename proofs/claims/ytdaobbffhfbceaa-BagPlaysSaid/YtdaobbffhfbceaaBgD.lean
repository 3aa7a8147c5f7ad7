/- slices.Delete of one packet: what the call computes. -/
import Derived.Test.YtdaobbffhfbceaaBgR
namespace Go.Proofs.Ytdaobbffhfbceaa
open Go.RowKit Go.Shelf
set_option linter.unusedVariables false
set_option linter.unusedSimpArgs false
set_option maxRecDepth 100000
theorem RowAt.to {w : World} {g cap n : Nat} {R R' : Nat → Dg} {f0 : Nat → Value} (h : RowAt w g cap n R f0) (e : ∀ t, t < n → R t = R' t) : RowAt w g cap n R' f0 := by
  refine h.congr fun j hj => ?_
  unfold rowF
  by_cases h2 : j < n * 4
  · rw [if_pos h2, if_pos h2, e _ (by omega)]
  · rw [if_neg h2, if_neg h2]
def tailR (R : Nat → Dg) (i m : Nat) : List Dg := (List.range m).map (fun t => R (i + t))
theorem tailR_len (R : Nat → Dg) (i m : Nat) : (tailR R i m).length = m := by unfold tailR; simp
theorem tailR_at {R : Nat → Dg} {i m t : Nat} (h : t < m) : (tailR R i m)[t]? = some (R (i + t)) := by unfold tailR; simp [h]
theorem tail_cells {w : World} {g cap n i m : Nat} {R : Nat → Dg} {f0 : Nat → Value} (h : RowAt w g cap n R f0) (hn : n ≤ cap) (hi : i + m ≤ n) : ∀ j u, (flatE encD (tailR R i m))[j]? = some u → w.cell? ((⟨g, i * 4, none⟩ : Addr).add j) = some u := by
  intro j u hu
  have hl := (List.getElem?_eq_some_iff.1 hu).1
  rw [flatE_len encD_len, tailR_len] at hl
  obtain ⟨d, hd, rfl⟩ := flat_at hu
  rw [tailR_at (by omega)] at hd
  obtain rfl := Option.some.inj hd
  rw [Addr.add_lit, h.cell (by omega), show i * 4 + j = (i + j / 4) * 4 + j % 4 by omega, rowF_at (by omega) (Nat.mod_lt _ (by omega))]
def delR (R : Nat → Dg) (n i : Nat) (s : Nat) : Dg := if s = n - 1 then Dg0 else if i ≤ s then R (s + 1) else R s
set_option maxHeartbeats 2000000 in
theorem delete_any (g cap n i : Nat) (R : Nat → Dg) (f0 : Nat → Value) (w : World) (hn : n ≤ cap) (hi : i < n) (hc : cap ≤ maxLen) (hn2 : n ≤ 65536) (h : RowAt w g cap n R f0) :
    Calls Try.prog 26 #[.slice (some ⟨g, 0, none⟩) n cap, .int .i64 i, .int .i64 ((i : Int) + 1)] w fun e w' => e = .returned (.slice (some ⟨g, 0, none⟩) (n - 1) cap) ∧ RowAt w' g cap n (delR R n i) f0 ∧ Turn [g] w w' := by
  obtain ⟨i0, hi0, hj0, hj1, hj2⟩ := info_parts dg_inf
  obtain ⟨xs, hxs⟩ : ∃ xs, tailR R (i + 1) (n - (i + 1)) = xs := ⟨_, rfl⟩
  have hxl : xs.length = n - (i + 1) := by rw [← hxs, tailR_len]
  have HXL := Lib.hid hxl
  have HSP : Hid (∀ j, j < (flatE encD xs).length → (w.cell? ⟨g, 0 + i * 4 + j, none⟩).isSome = true ∧ w.frozen? ⟨g, 0 + i * 4 + j, none⟩ = false) := Lib.hid fun j hj => by
    rw [flatE_len encD_len, hxl] at hj
    exact ⟨by rw [h.cell (by omega)]; rfl, h.frozen _⟩
  have HNW : Hid (∀ j u, (flatE encD xs)[j]? = some u → w.cell? ((⟨g, (i + 1) * 4, none⟩ : Addr).add j) = some u) := Lib.hid (by rw [← hxs]; exact tail_cells h hn (by omega))
  have HL4 : Hid ((flatE encD xs).length = (n - (i + 1)) * 4) := Lib.hid (by rw [flatE_len encD_len, hxl])
  have hlay := row_lay (w := w.drew) (i := i) (xs := xs) h.drew (by omega)
  obtain ⟨R1, hR1⟩ : ∃ R1, (fun s => if i ≤ s ∧ s < i + xs.length then (xs[s - i]?).getD Dg0 else R s) = R1 := ⟨_, rfl⟩
  rw [hR1] at hlay
  have HT1 : Hid (Turn [g] w (w.drew.setCells g (i * 4) (flatE encD xs))) := Lib.hid (turn_setCells (.inl (by simp)) _ _ (Turn.below (B := w.heap.size) (by repeat (first | with_reducible refine Below.setCell ?_ (by first | (simp; done) | (simp; omega) | omega) _ | with_reducible refine Below.alloc ?_ (by first | (simp; done) | (simp; omega) | omega) _ | with_reducible refine Below.drew ?_ | with_reducible refine below_drewN ?_ _ | with_reducible exact Below.refl _ _)) (Nat.le_refl _)))
  obtain ⟨W1, hW1⟩ : ∃ W1, w.drew.setCells g (i * 4) (flatE encD xs) = W1 := ⟨_, rfl⟩
  rw [hW1] at hlay HT1
  have hcl : ∀ ty, (Builtin.clear_ #[43] ty #[.slice (some ⟨g, (n - 1) * 4, none⟩) 1 (cap - (n - 1))]).run Try.prog W1 = .ok (.tuple #[]) (W1.setCells g ((n - 1) * 4) (zerosD 1)) := fun ty => by
    refine run_clear_dgs _ ⟨g, (n - 1) * 4, none⟩ rfl 1 _ (by omega) (fun m hm' => ?_) (fun m hm' => ?_) ty
    · show (World.cell? _ _).isSome = true
      rw [hlay.cell (i := (n - 1) * 4 + m) (by omega)]; rfl
    · exact hlay.frozen _
  have hfin : RowAt (W1.setCells g ((n - 1) * 4) (zerosD 1)) g cap n (delR R n i) f0 := by
    rw [zerosD_flat]
    refine (row_lay (i := n - 1) (xs := List.replicate 1 Dg0) hlay (by simp; omega)).to fun t ht => ?_
    unfold delR
    by_cases e : t = n - 1
    · rw [if_pos e, if_pos (by simp; omega), e]
      simp
    · rw [if_neg e, if_neg (by simp; omega), ← hR1]
      dsimp only
      by_cases e2 : i ≤ t
      · rw [if_pos e2, if_pos (by omega), ← hxs, tailR_at (by omega), show i + 1 + (t - i) = t + 1 by omega]
        rfl
      · rw [if_neg e2, if_neg (by omega)]
  have hfT : Turn [g] w (W1.setCells g ((n - 1) * 4) (zerosD 1)) := turn_setCells (.inl (by simp)) _ _ HT1.out
  have HFIN := Lib.hid hfin
  have HFT := Lib.hid hfT
  have HCL := Lib.hid hcl
  clear hcl hfin hfT HT1
  clear hxs hxl hlay hR1
  have hcap : (cap : Int) ≤ 9223372036854775807 := by unfold maxLen at hc; omega
  have hic : i ≤ cap := by omega
  have hic1 : i + 1 ≤ n := by omega
  have hic2 : i + 1 ≤ cap := by omega
  have hicZ : (i : Int) ≤ (cap : Int) := by omega
  have hicZ1 : (i : Int) + 1 ≤ (n : Int) := by omega
  have h0i : 0 ≤ (i : Int) + 1 := by omega
  obtain ⟨adx, hadx, hnx⟩ : ∃ adx : Addr, (if cap = i + 1 then some (⟨g, 0, none⟩ : Addr) else some ⟨g, (i + 1) * 4, none⟩) = some adx ∧ ∀ j u, (flatE encD xs)[j]? = some u → w.cell? (adx.add j) = some u := by
    by_cases e : cap = i + 1
    · refine ⟨_, by rw [if_pos e], fun j u hu => ?_⟩
      have hl := (List.getElem?_eq_some_iff.1 hu).1
      rw [HL4.out] at hl
      omega
    · exact ⟨_, by rw [if_neg e], HNW.out⟩
  have HNX := Lib.hid hnx
  clear hnx HNW
  have hone : ∀ u ∈ flatE encD xs, u.oneCell' = true := flatE_one encD_one xs
  have HONE := Lib.hid hone
  clear hone
  go_enter Try.func26, Try.ntmps26
  go_wp2
  go_region_law (refine step_append_room rfl (.tmp 22) (.tmp 25) _ rfl 33 i0 4 Try.underlying43 hi0 hj1 g 0 i cap rfl adx (n - (i + 1)) (cap - (i + 1)) (flatE encD xs) rfl HL4.out HNX.out HONE.out (by omega) HSP.out ?_)
  all_goals
    clear hadx HNX HSP
    rw [show i + (n - (i + 1)) = n - 1 by omega]
    have hn1 : n - 1 < cap := by omega
    have hn3 : n - (n - 1) = 1 := by omega
    have hn4 : n - 1 ≤ n := by omega
    have hn5 : ¬ cap = n - 1 := by omega
    have hcl := HCL.out
    go_wp2
    go_ret
    exact ⟨rfl, HFIN.out, HFT.out⟩
end Go.Proofs.Ytdaobbffhfbceaa
