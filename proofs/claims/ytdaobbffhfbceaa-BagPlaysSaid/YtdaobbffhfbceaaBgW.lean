/- same and awake of the laws of chapter 6: what each call computes. -/
import Derived.Test.YtdaobbffhfbceaaBgP
namespace Go.Proofs.Ytdaobbffhfbceaa
open Go.RowKit Go.Shelf
set_option linter.unusedVariables false
set_option linter.unusedSimpArgs false
set_option maxRecDepth 100000
theorem KeptC.drop1 {w0 w' : World} {l : List (Addr × Value)} {F : List Addr} (h : KeptC w0 l F w') : Below w0.heap.size w0 w' := h.1
set_option maxHeartbeats 4000000 in
theorem same_true (A1 A2 : Option Addr) (c1 c2 : Nat) (xs : List Int) (w : World) (h1 : Reads w w.heap.size 1 A1 xs.length (xs.map (Value.int .i64))) (h2 : Reads w w.heap.size 1 A2 xs.length (xs.map (Value.int .i64))) (hn : xs.length ≤ 65536) :
    Calls Try.prog 31 #[.slice A1 xs.length c1, .slice A2 xs.length c2] w fun e w' => e = .returned (.bool true) ∧ Below w.heap.size w w' := by
  have H1 := Lib.hid h1
  have H2 := Lib.hid h2
  obtain ⟨n, hnn⟩ : ∃ n, xs.length = n := ⟨_, rfl⟩
  rw [hnn] at H1 H2 hn ⊢
  clear h1 h2 hnn
  go_enter Try.func31, Try.ntmps31
  go_wp2
  go_loopw [5] (fun i w' => ∃ (k : Nat), k ≤ n ∧ i = .int .i64 k ∧ Below w.heap.size w w') (fun i _ => n - (intOf i).toNat)
  case atStart => exact ⟨0, Nat.zero_le _, rfl, Below.refl _ _⟩
  case round =>
    obtain ⟨k, hk, rfl, kb0⟩ := hrel
    have hs0 := kb0.size
    by_cases hlt : k < n
    rotate_left
    · obtain rfl : k = n := by omega
      go_wp2
      go_ret
      exact ⟨rfl, kb0⟩
    · obtain ⟨a1, u1, rfl, hb1, hu1, hc1⟩ := H1.out.at_ hlt
      obtain ⟨a2, u2, rfl, hb2, hu2, hc2⟩ := H2.out.at_ hlt
      obtain rfl : u1 = u2 := by rw [hu1] at hu2; exact Option.some.inj hu2
      rw [List.getElem?_map] at hu1
      obtain ⟨x, hx, rfl⟩ := Option.map_eq_some_iff.1 hu1
      obtain ⟨P1, hP1⟩ : ∃ P, a1.add k = P := ⟨_, rfl⟩
      obtain ⟨P2, hP2⟩ : ∃ P, a2.add k = P := ⟨_, rfl⟩
      have hp1 : P1.block < w.heap.size := by rw [← hP1, block_of_add]; exact hb1
      have hp2 : P2.block < w.heap.size := by rw [← hP2, block_of_add]; exact hb2
      rw [hP1] at hc1
      rw [hP2] at hc2
      have d1 := (kb0.cell hp1).trans hc1
      have d2 := (kb0.cell hp2).trans hc2
      clear hx hu1 hu2 hc1 hc2
      go_wp2
      refine wp_region_quietC_lit (KeptC w [(P1, .int .i64 x), (P2, .int .i64 x)] []) (by kernel_rfl) (by kernel_rfl) ?_ ?_
      · refine KeptC.drewn ?_
        repeat' (first | refine KeptC.cons ?_ ?_ | refine KeptC.consF ?_ ?_ ?_ | refine KeptC.mk0 ?_)
        all_goals (first | with_reducible assumption | (go_simp; done) | (simp; omega) | exact (by repeat (first | with_reducible refine Below.setCell ?_ (by first | (simp; done) | (simp; omega) | omega) _ | with_reducible refine Below.alloc ?_ (by first | (simp; done) | (simp; omega) | omega) _ | with_reducible refine Below.drew ?_ | with_reducible refine below_drewN ?_ _ | with_reducible exact Below.refl _ _ | with_reducible refine Below.trans ?_ (Below.mono kb0 (by first | (simp; done) | (simp; omega) | omega)))))
      repeat (first
        | go_big_quiet_skip
        | (go_big_quiet_want; (apply quietC_run); (· intro w' hw'; (have hk' := hw'; simp only [KeptC, List.forall_mem_cons] at hk'; go_split_ands); go_simp; first | done | rfl); (simp only [Act.put, List.setIfInBounds_toArray, List.set_cons_zero, List.set_cons_succ]; go_big_quiet_on))
        | (go_big_quiet_want; (apply quietC_call); (· intro w' hw'; go_simp; first | done | exact ⟨rfl, rfl⟩ | rfl); (· intro w' hw'; first | ((with_reducible refine (fail).mono ?_); rintro e w2 ⟨rfl, hb⟩; exact ⟨rfl, hw'.below hb⟩)); (simp only [Act.put, List.setIfInBounds_toArray, List.set_cons_zero, List.set_cons_succ]; go_big_quiet_on)))
      refine wpQuiet_nil ?_
      intro w9 hk9
      (have hk' := hk9; simp only [KeptC, List.forall_mem_cons] at hk'; go_split_ands); have hkB9 := hk9.1
      go_wp2
      go_roundw
      case rel => exact ⟨k + 1, by omega, by go_num, hkB9⟩
      case measure => simp [intOf]; omega
/-- A row lies on where its block has not turned. -/
theorem rowI_turn {w w' : World} {base : Nat} {v : Value} {xs : List Int} {F : List Nat} (h : RowI w base v xs) (ht : Turn F w w') (hF : ∀ r, v.ownBlock = some r → r ∉ F) : RowI w' base v xs := by
  refine ⟨h.1, ?_⟩
  rcases h.2 with hn | ⟨g, cap, cur, hv, h1, h2, h3⟩
  · exact .inl hn
  · exact .inr ⟨g, cap, cur, hv, h1, (ht.block g (Array.getElem?_eq_some_iff.1 h2).1 (hF g (by rw [hv]; rfl))).trans h2, h3⟩
theorem aw1 : putS BS0 1 2 ⟨#[97]⟩ = (⟨1, [⟨1, 1, 2, ⟨#[97]⟩⟩], []⟩, 1, 0) := by rfl
theorem aw2 : putS ⟨1, [⟨1, 1, 2, ⟨#[97]⟩⟩], []⟩ 2 1 ⟨#[98]⟩ = (⟨2, [⟨1, 1, 2, ⟨#[97]⟩⟩, ⟨2, 2, 1, ⟨#[98]⟩⟩], []⟩, 2, 0) := by rfl
theorem aw3 : doubS ⟨2, [⟨1, 1, 2, ⟨#[97]⟩⟩, ⟨2, 2, 1, ⟨#[98]⟩⟩], []⟩ 1 = (⟨3, [⟨1, 1, 2, ⟨#[97]⟩⟩, ⟨2, 2, 1, ⟨#[98]⟩⟩, ⟨3, 1, 2, ⟨#[97]⟩⟩], []⟩, 3, 0) := by rfl
theorem aw4 : btwS ⟨3, [⟨1, 1, 2, ⟨#[97]⟩⟩, ⟨2, 2, 1, ⟨#[98]⟩⟩, ⟨3, 1, 2, ⟨#[97]⟩⟩], []⟩ 1 (-1) = [1, 3] := by rfl
theorem aw5 : takeS ⟨3, [⟨1, 1, 2, ⟨#[97]⟩⟩, ⟨2, 2, 1, ⟨#[98]⟩⟩, ⟨3, 1, 2, ⟨#[97]⟩⟩], []⟩ 1 = (⟨3, [⟨2, 2, 1, ⟨#[98]⟩⟩, ⟨3, 1, 2, ⟨#[97]⟩⟩], []⟩, ⟨1, 1, 2, ⟨#[97]⟩⟩, 0) := by rfl
theorem aw6 : takeS ⟨3, [⟨2, 2, 1, ⟨#[98]⟩⟩, ⟨3, 1, 2, ⟨#[97]⟩⟩], []⟩ 1 = (⟨3, [⟨2, 2, 1, ⟨#[98]⟩⟩, ⟨3, 1, 2, ⟨#[97]⟩⟩], []⟩, Dg0, 31) := by rfl
theorem aw7 : sevS ⟨3, [⟨2, 2, 1, ⟨#[98]⟩⟩, ⟨3, 1, 2, ⟨#[97]⟩⟩], []⟩ 2 1 = (⟨3, [], [(1, 2)]⟩, 2) := by rfl
theorem aw8 : putS ⟨3, [], [(1, 2)]⟩ 1 2 ⟨#[99]⟩ = (⟨3, [], [(1, 2)]⟩, 0, 34) := by rfl
theorem aw9 : mendS ⟨3, [], [(1, 2)]⟩ 1 2 = (⟨3, [], []⟩, true) := by rfl
set_option maxHeartbeats 4000000 in
theorem out_next {w : World} {Bb bm : Nat} {lv lv' : Value} {b : Nat} (hm : Moved w lv lv') (hb : b < w.heap.size) (ho : b ∉ foot Bb bm lv) : b ∉ foot Bb bm lv' := fun h => (hm.foot b h).elim ho (fun h => by omega)
theorem low_next {w : World} {Bb bm : Nat} {lv lv' : Value} {B : Nat} (hm : Moved w lv lv') (hB : B ≤ w.heap.size) (ho : ∀ b ∈ foot Bb bm lv, B ≤ b) : ∀ b ∈ foot Bb bm lv', B ≤ b := fun b h => (hm.foot b h).elim (ho b) (fun h => by omega)
/-- A row lies apart from a bag. -/
def RowOut (w : World) (v : Value) (Bb bm : Nat) (lv : Value) : Prop := ∀ r, v.ownBlock = some r → r < w.heap.size ∧ r ∉ foot Bb bm lv
theorem RowOut.next {w w' : World} {v : Value} {Bb bm : Nat} {lv lv' : Value} (h : RowOut w v Bb bm lv) (hm : Moved w lv lv') (hs : w.heap.size ≤ w'.heap.size) : RowOut w' v Bb bm lv' := fun r e => ⟨by have := (h r e).1; omega, out_next hm (h r e).1 (h r e).2⟩
theorem RowOut.more {w w' : World} {v : Value} {Bb bm : Nat} {lv : Value} (h : RowOut w v Bb bm lv) (hs : w.heap.size ≤ w'.heap.size) : RowOut w' v Bb bm lv := fun r e => ⟨by have := (h r e).1; omega, (h r e).2⟩
theorem rowI_below {w w' : World} {base : Nat} {v : Value} {xs : List Int} (h : RowI w base v xs) (hb : Below w.heap.size w w') : RowI w' base v xs := rowI_turn (F := []) h (Turn.below hb (Nat.le_refl _)) (fun _ _ h => by cases h)
set_option maxHeartbeats 4000000 in
theorem awake_any (w : World) : Calls Try.prog 16 #[] w fun e w' => e = .returned (.bool true) ∧ Below w.heap.size w w' := by
  go_enter Try.func16, Try.ntmps16
  go_wp2_with (fail)
  refine (new_any w).mono ?_; rintro e w1 ⟨rfl, hb1, kb1⟩
  obtain ⟨Bb, hBb⟩ : ∃ Bb, w.heap.size + 1 = Bb := ⟨_, rfl⟩
  obtain ⟨bm, hbm⟩ : ∃ bm, w.heap.size = bm := ⟨_, rfl⟩
  rw [hBb, hbm] at hb1
  rw [hBb]
  have lo1 : ∀ b ∈ foot Bb bm (.slice none 0 0), w.heap.size ≤ b := fun b hb => by simp [foot, Value.ownBlock] at hb; omega
  have HB1 := Lib.hid hb1
  have LO1 := Lib.hid lo1
  clear hb1 lo1 hBb hbm
  have kz1 := kb1.size
  go_wp2_with (fail)
  have cc := put_any Bb bm (.slice none 0 0) BS0 1 2 ⟨#[97]⟩ w1 HB1.out (by unfold i64B; omega) (by unfold i64B; omega)
  rw [aw1] at cc
  refine cc.mono ?_; clear cc; rintro e w2 ⟨rfl, lv2, hb2, hm2, ht2⟩
  have kz2 := ht2.size
  have kb2 : Below w.heap.size w w2 := ((by repeat (first | with_reducible refine Below.setCell ?_ (by first | (simp; done) | (simp; omega) | omega) _ | with_reducible refine Below.alloc ?_ (by first | (simp; done) | (simp; omega) | omega) _ | with_reducible refine Below.drew ?_ | with_reducible refine below_drewN ?_ _ | with_reducible exact Below.refl _ _ | with_reducible refine Below.trans ?_ (Below.mono kb1 (by first | (simp; done) | (simp; omega) | omega)))) : Below w.heap.size w (w1)).trans (ht2.to_below LO1.out (by first | omega | (simp; done) | (simp; omega)))
  have LO2 := Lib.hid (low_next (B := w.heap.size) hm2 (by first | omega | (simp; done) | (simp; omega)) LO1.out)
  have HB2 := Lib.hid hb2
  (try simp at kz2)
  clear hb2 hm2 ht2 HB1 LO1
  go_wp2_with (fail)
  have cc := put_any Bb bm lv2 ⟨1, [⟨1, 1, 2, ⟨#[97]⟩⟩], []⟩ 2 1 ⟨#[98]⟩ w2 HB2.out (by unfold i64B; omega) (by unfold i64B; omega)
  rw [aw2] at cc
  refine cc.mono ?_; clear cc; rintro e w3 ⟨rfl, lv3, hb3, hm3, ht3⟩
  have kz3 := ht3.size
  have kb3 : Below w.heap.size w w3 := ((by repeat (first | with_reducible refine Below.setCell ?_ (by first | (simp; done) | (simp; omega) | omega) _ | with_reducible refine Below.alloc ?_ (by first | (simp; done) | (simp; omega) | omega) _ | with_reducible refine Below.drew ?_ | with_reducible refine below_drewN ?_ _ | with_reducible exact Below.refl _ _ | with_reducible refine Below.trans ?_ (Below.mono kb2 (by first | (simp; done) | (simp; omega) | omega)))) : Below w.heap.size w (w2)).trans (ht3.to_below LO2.out (by first | omega | (simp; done) | (simp; omega)))
  have LO3 := Lib.hid (low_next (B := w.heap.size) hm3 (by first | omega | (simp; done) | (simp; omega)) LO2.out)
  have HB3 := Lib.hid hb3
  (try simp at kz3)
  clear hb3 hm3 ht3 HB2 LO2
  go_wp2_with (fail)
  have cc := double_any Bb bm lv3 ⟨2, [⟨1, 1, 2, ⟨#[97]⟩⟩, ⟨2, 2, 1, ⟨#[98]⟩⟩], []⟩ 1 w3 HB3.out
  rw [aw3] at cc
  refine cc.mono ?_; clear cc; rintro e w4 ⟨rfl, lv4, hb4, hm4, ht4⟩
  have kz4 := ht4.size
  have kb4 : Below w.heap.size w w4 := ((by repeat (first | with_reducible refine Below.setCell ?_ (by first | (simp; done) | (simp; omega) | omega) _ | with_reducible refine Below.alloc ?_ (by first | (simp; done) | (simp; omega) | omega) _ | with_reducible refine Below.drew ?_ | with_reducible refine below_drewN ?_ _ | with_reducible exact Below.refl _ _ | with_reducible refine Below.trans ?_ (Below.mono kb3 (by first | (simp; done) | (simp; omega) | omega)))) : Below w.heap.size w (w3)).trans (ht4.to_below LO3.out (by first | omega | (simp; done) | (simp; omega)))
  have LO4 := Lib.hid (low_next (B := w.heap.size) hm4 (by first | omega | (simp; done) | (simp; omega)) LO3.out)
  have HB4 := Lib.hid hb4
  (try simp at kz4)
  clear hb4 hm4 ht4 HB3 LO3
  go_wp2_with (fail)
  have cc := between_any Bb bm lv4 ⟨3, [⟨1, 1, 2, ⟨#[97]⟩⟩, ⟨2, 2, 1, ⟨#[98]⟩⟩, ⟨3, 1, 2, ⟨#[97]⟩⟩], []⟩ 1 (-1) w4 HB4.out
  rw [aw4] at cc
  refine cc.mono ?_; clear cc; rintro e w5 ⟨v5, rfl, hr5, hb5⟩
  have kb5 : Below w.heap.size w w5 := kb4.trans (hb5.mono kb4.size)
  have HB5 := Lib.hid (HB4.out.below hb5)
  have LO5 := LO4
  have hfl := HB4.out.lt
  have RW5 := Lib.hid hr5
  have RWO5 : Hid (RowOut w5 v5 Bb bm lv4) := Lib.hid (fun r e => ⟨(row_blk hr5 e).2.1, fun hm => by have h1 := (row_blk hr5 e).1; have := hfl r hm; omega⟩)
  have kz5 := hb5.size
  obtain ⟨lv5, hlv5⟩ : ∃ lv5, lv4 = lv5 := ⟨_, rfl⟩
  subst hlv5
  clear HB4 LO4 hr5 hb5 hfl
  go_wp2_with (fail)
  have cc := take_any Bb bm lv4 ⟨3, [⟨1, 1, 2, ⟨#[97]⟩⟩, ⟨2, 2, 1, ⟨#[98]⟩⟩, ⟨3, 1, 2, ⟨#[97]⟩⟩], []⟩ 1 w5 HB5.out
  rw [aw5] at cc
  refine cc.mono ?_; clear cc; rintro e w6 ⟨rfl, lv6, hb6, hm6, ht6⟩
  have kz6 := ht6.size
  have kb6 : Below w.heap.size w w6 := ((by repeat (first | with_reducible refine Below.setCell ?_ (by first | (simp; done) | (simp; omega) | omega) _ | with_reducible refine Below.alloc ?_ (by first | (simp; done) | (simp; omega) | omega) _ | with_reducible refine Below.drew ?_ | with_reducible refine below_drewN ?_ _ | with_reducible exact Below.refl _ _ | with_reducible refine Below.trans ?_ (Below.mono kb5 (by first | (simp; done) | (simp; omega) | omega)))) : Below w.heap.size w (w5)).trans (ht6.to_below LO5.out (by first | omega | (simp; done) | (simp; omega)))
  have LO6 := Lib.hid (low_next (B := w.heap.size) hm6 (by first | omega | (simp; done) | (simp; omega)) LO5.out)
  have HB6 := Lib.hid hb6
  have RW6 := Lib.hid (rowI_turn (rowI_below RW5.out (by repeat (first | with_reducible refine Below.setCell ?_ (by first | (simp; done) | (simp; omega) | omega) _ | with_reducible refine Below.alloc ?_ (by first | (simp; done) | (simp; omega) | omega) _ | with_reducible refine Below.drew ?_ | with_reducible refine below_drewN ?_ _ | with_reducible exact Below.refl _ _))) ht6 (fun r e => (RWO5.out r e).2))
  have RWO6 := Lib.hid ((RWO5.out.more (w' := w5) (by first | omega | (simp; done) | (simp; omega))).next hm6 kz6)
  (try simp at kz6)
  clear hb6 hm6 ht6 HB5 LO5 RW5 RWO5
  have hf6 := HB6.out.lt
  have o76 : w6.heap.size ∉ foot Bb bm lv6 := fun hm => by have := hf6 _ hm; omega
  have HX6 := HB6
  clear hf6
  go_wp2_with (fail)
  have cc := take_any Bb bm lv6 ⟨3, [⟨2, 2, 1, ⟨#[98]⟩⟩, ⟨3, 1, 2, ⟨#[97]⟩⟩], []⟩ 1 (w6.alloc (Obj.cells #[.int .i64 1, .int .i64 1, .int .i64 2, .string ⟨#[97]⟩] 33)) (HB6.out.below (by repeat (first | with_reducible refine Below.setCell ?_ (by first | (simp; done) | (simp; omega) | omega) _ | with_reducible refine Below.alloc ?_ (by first | (simp; done) | (simp; omega) | omega) _ | with_reducible refine Below.drew ?_ | with_reducible refine below_drewN ?_ _ | with_reducible exact Below.refl _ _)))
  rw [aw6] at cc
  refine cc.mono ?_; clear cc; rintro e w7 ⟨rfl, lv7, hb7, hm7, ht7⟩
  have x76_0 : (w6.alloc (Obj.cells #[.int .i64 1, .int .i64 1, .int .i64 2, .string ⟨#[97]⟩] 33)).cell? ⟨w6.heap.size, 0, none⟩ = some (.int .i64 1) := by go_simp
  have x76_1 : (w6.alloc (Obj.cells #[.int .i64 1, .int .i64 1, .int .i64 2, .string ⟨#[97]⟩] 33)).cell? ⟨w6.heap.size, 1, none⟩ = some (.int .i64 1) := by go_simp
  have x76_2 : (w6.alloc (Obj.cells #[.int .i64 1, .int .i64 1, .int .i64 2, .string ⟨#[97]⟩] 33)).cell? ⟨w6.heap.size, 2, none⟩ = some (.int .i64 2) := by go_simp
  have x76_3 : (w6.alloc (Obj.cells #[.int .i64 1, .int .i64 1, .int .i64 2, .string ⟨#[97]⟩] 33)).cell? ⟨w6.heap.size, 3, none⟩ = some (.string ⟨#[97]⟩) := by go_simp
  have kz7 := ht7.size
  have kb7 : Below w.heap.size w w7 := ((by repeat (first | with_reducible refine Below.setCell ?_ (by first | (simp; done) | (simp; omega) | omega) _ | with_reducible refine Below.alloc ?_ (by first | (simp; done) | (simp; omega) | omega) _ | with_reducible refine Below.drew ?_ | with_reducible refine below_drewN ?_ _ | with_reducible exact Below.refl _ _ | with_reducible refine Below.trans ?_ (Below.mono kb6 (by first | (simp; done) | (simp; omega) | omega)))) : Below w.heap.size w (w6.alloc (Obj.cells #[.int .i64 1, .int .i64 1, .int .i64 2, .string ⟨#[97]⟩] 33))).trans (ht7.to_below LO6.out (by first | omega | (simp; done) | (simp; omega)))
  have LO7 := Lib.hid (low_next (B := w.heap.size) hm7 (by first | omega | (simp; done) | (simp; omega)) LO6.out)
  have HB7 := Lib.hid hb7
  have RW7 := Lib.hid (rowI_turn (rowI_below RW6.out (by repeat (first | with_reducible refine Below.setCell ?_ (by first | (simp; done) | (simp; omega) | omega) _ | with_reducible refine Below.alloc ?_ (by first | (simp; done) | (simp; omega) | omega) _ | with_reducible refine Below.drew ?_ | with_reducible refine below_drewN ?_ _ | with_reducible exact Below.refl _ _))) ht7 (fun r e => (RWO6.out r e).2))
  have RWO7 := Lib.hid ((RWO6.out.more (w' := w6.alloc (Obj.cells #[.int .i64 1, .int .i64 1, .int .i64 2, .string ⟨#[97]⟩] 33)) (by first | omega | (simp; done) | (simp; omega))).next hm7 kz7)
  have x77_0 : w7.cell? ⟨w6.heap.size, 0, none⟩ = some (.int .i64 1) := ht7.cell (p := ⟨w6.heap.size, 0, none⟩) o76 (by go_simp)
  have x77_1 : w7.cell? ⟨w6.heap.size, 1, none⟩ = some (.int .i64 1) := ht7.cell (p := ⟨w6.heap.size, 1, none⟩) o76 (by go_simp)
  have x77_2 : w7.cell? ⟨w6.heap.size, 2, none⟩ = some (.int .i64 2) := ht7.cell (p := ⟨w6.heap.size, 2, none⟩) o76 (by go_simp)
  have x77_3 : w7.cell? ⟨w6.heap.size, 3, none⟩ = some (.string ⟨#[97]⟩) := ht7.cell (p := ⟨w6.heap.size, 3, none⟩) o76 (by go_simp)
  have o77 := out_next hm7 (b := w6.heap.size) (by first | omega | (simp; done) | (simp; omega)) o76
  have hzx77 : w6.heap.size < w7.heap.size := by (have := kz7); (try simp at this); omega
  (try simp at kz7)
  clear hb7 hm7 ht7 HB6 LO6 RW6 RWO6 x76_0 x76_1 x76_2 x76_3 o76
  go_wp2_with (fail)
  have cc := sever_any Bb bm lv7 ⟨3, [⟨2, 2, 1, ⟨#[98]⟩⟩, ⟨3, 1, 2, ⟨#[97]⟩⟩], []⟩ 2 1 (w7.alloc (Obj.cells #[.int .i64 0, .int .i64 0, .int .i64 0, .string ⟨#[]⟩] 33)) (HB7.out.below (by repeat (first | with_reducible refine Below.setCell ?_ (by first | (simp; done) | (simp; omega) | omega) _ | with_reducible refine Below.alloc ?_ (by first | (simp; done) | (simp; omega) | omega) _ | with_reducible refine Below.drew ?_ | with_reducible refine below_drewN ?_ _ | with_reducible exact Below.refl _ _))) (by decide) (by unfold i64B; omega) (by unfold i64B; omega) (by unfold maxLen; simp)
  rw [aw7] at cc
  refine cc.mono ?_; clear cc; rintro e w8 ⟨rfl, lv8, hb8, hm8, ht8⟩
  have kz8 := ht8.size
  have kb8 : Below w.heap.size w w8 := ((by repeat (first | with_reducible refine Below.setCell ?_ (by first | (simp; done) | (simp; omega) | omega) _ | with_reducible refine Below.alloc ?_ (by first | (simp; done) | (simp; omega) | omega) _ | with_reducible refine Below.drew ?_ | with_reducible refine below_drewN ?_ _ | with_reducible exact Below.refl _ _ | with_reducible refine Below.trans ?_ (Below.mono kb7 (by first | (simp; done) | (simp; omega) | omega)))) : Below w.heap.size w (w7.alloc (Obj.cells #[.int .i64 0, .int .i64 0, .int .i64 0, .string ⟨#[]⟩] 33))).trans (ht8.to_below LO7.out (by first | omega | (simp; done) | (simp; omega)))
  have LO8 := Lib.hid (low_next (B := w.heap.size) hm8 (by first | omega | (simp; done) | (simp; omega)) LO7.out)
  have HB8 := Lib.hid hb8
  have RW8 := Lib.hid (rowI_turn (rowI_below RW7.out (by repeat (first | with_reducible refine Below.setCell ?_ (by first | (simp; done) | (simp; omega) | omega) _ | with_reducible refine Below.alloc ?_ (by first | (simp; done) | (simp; omega) | omega) _ | with_reducible refine Below.drew ?_ | with_reducible refine below_drewN ?_ _ | with_reducible exact Below.refl _ _))) ht8 (fun r e => (RWO7.out r e).2))
  have RWO8 := Lib.hid ((RWO7.out.more (w' := w7.alloc (Obj.cells #[.int .i64 0, .int .i64 0, .int .i64 0, .string ⟨#[]⟩] 33)) (by first | omega | (simp; done) | (simp; omega))).next hm8 kz8)
  have x78_0 : w8.cell? ⟨w6.heap.size, 0, none⟩ = some (.int .i64 1) := ht8.cell (p := ⟨w6.heap.size, 0, none⟩) o77 (by go_simp)
  have x78_1 : w8.cell? ⟨w6.heap.size, 1, none⟩ = some (.int .i64 1) := ht8.cell (p := ⟨w6.heap.size, 1, none⟩) o77 (by go_simp)
  have x78_2 : w8.cell? ⟨w6.heap.size, 2, none⟩ = some (.int .i64 2) := ht8.cell (p := ⟨w6.heap.size, 2, none⟩) o77 (by go_simp)
  have x78_3 : w8.cell? ⟨w6.heap.size, 3, none⟩ = some (.string ⟨#[97]⟩) := ht8.cell (p := ⟨w6.heap.size, 3, none⟩) o77 (by go_simp)
  have o78 := out_next hm8 (b := w6.heap.size) (by first | omega | (simp; done) | (simp; omega)) o77
  have hzx78 : w6.heap.size < w8.heap.size := by (have := kz8); (try simp at this); omega
  (try simp at kz8)
  clear hb8 hm8 ht8 HB7 LO7 RW7 RWO7 x77_0 x77_1 x77_2 x77_3 o77
  go_wp2_with (fail)
  have cc := put_any Bb bm lv8 ⟨3, [], [(1, 2)]⟩ 1 2 ⟨#[99]⟩ w8 HB8.out (by unfold i64B; omega) (by unfold i64B; omega)
  rw [aw8] at cc
  refine cc.mono ?_; clear cc; rintro e w9 ⟨rfl, lv9, hb9, hm9, ht9⟩
  have kz9 := ht9.size
  have kb9 : Below w.heap.size w w9 := ((by repeat (first | with_reducible refine Below.setCell ?_ (by first | (simp; done) | (simp; omega) | omega) _ | with_reducible refine Below.alloc ?_ (by first | (simp; done) | (simp; omega) | omega) _ | with_reducible refine Below.drew ?_ | with_reducible refine below_drewN ?_ _ | with_reducible exact Below.refl _ _ | with_reducible refine Below.trans ?_ (Below.mono kb8 (by first | (simp; done) | (simp; omega) | omega)))) : Below w.heap.size w (w8)).trans (ht9.to_below LO8.out (by first | omega | (simp; done) | (simp; omega)))
  have LO9 := Lib.hid (low_next (B := w.heap.size) hm9 (by first | omega | (simp; done) | (simp; omega)) LO8.out)
  have HB9 := Lib.hid hb9
  have RW9 := Lib.hid (rowI_turn (rowI_below RW8.out (by repeat (first | with_reducible refine Below.setCell ?_ (by first | (simp; done) | (simp; omega) | omega) _ | with_reducible refine Below.alloc ?_ (by first | (simp; done) | (simp; omega) | omega) _ | with_reducible refine Below.drew ?_ | with_reducible refine below_drewN ?_ _ | with_reducible exact Below.refl _ _))) ht9 (fun r e => (RWO8.out r e).2))
  have RWO9 := Lib.hid ((RWO8.out.more (w' := w8) (by first | omega | (simp; done) | (simp; omega))).next hm9 kz9)
  have x79_0 : w9.cell? ⟨w6.heap.size, 0, none⟩ = some (.int .i64 1) := ht9.cell (p := ⟨w6.heap.size, 0, none⟩) o78 (by go_simp)
  have x79_1 : w9.cell? ⟨w6.heap.size, 1, none⟩ = some (.int .i64 1) := ht9.cell (p := ⟨w6.heap.size, 1, none⟩) o78 (by go_simp)
  have x79_2 : w9.cell? ⟨w6.heap.size, 2, none⟩ = some (.int .i64 2) := ht9.cell (p := ⟨w6.heap.size, 2, none⟩) o78 (by go_simp)
  have x79_3 : w9.cell? ⟨w6.heap.size, 3, none⟩ = some (.string ⟨#[97]⟩) := ht9.cell (p := ⟨w6.heap.size, 3, none⟩) o78 (by go_simp)
  have o79 := out_next hm9 (b := w6.heap.size) (by first | omega | (simp; done) | (simp; omega)) o78
  have hzx79 : w6.heap.size < w9.heap.size := by (have := kz9); (try simp at this); omega
  (try simp at kz9)
  clear hb9 hm9 ht9 HB8 LO8 RW8 RWO8 x78_0 x78_1 x78_2 x78_3 o78
  obtain ⟨A5, c5, rfl⟩ := row_slice' RW9.out
  have hlt9 := HB9.out.lt
  have hbl9 := cell_lt HB9.out.c0
  simp only [] at hbl9
  have cs := fun (W : World) (hb : Below w9.heap.size w9 W) (h2 : Reads W W.heap.size 1 (some ⟨w9.heap.size, 0, none⟩) 2 ([1, 3].map (Value.int .i64))) => same_true A5 (some ⟨w9.heap.size, 0, none⟩) c5 2 [1, 3] W ((Reads.of_own (rowI_below RW9.out hb)).more (Nat.le_refl _)) h2 (by decide)
  have CS := Lib.hid cs
  clear RW9 RWO9 cs
  go_wp2_with (fail)
  refine (CS.out _ (by repeat (first | with_reducible refine Below.setCell ?_ (by first | (simp; done) | (simp; omega) | omega) _ | with_reducible refine Below.alloc ?_ (by first | (simp; done) | (simp; omega) | omega) _ | with_reducible refine Below.drew ?_ | with_reducible refine below_drewN ?_ _ | with_reducible exact Below.refl _ _)) ⟨rfl, fun _ => ⟨_, rfl, by simp, ?_⟩⟩).mono ?_
  · intro j u hu
    have hj : j < 2 := by have := (List.getElem?_eq_some_iff.1 hu).1; simpa using this
    rw [Addr.add_lit]
    match j, hj with
    | 0, _ | 1, _ => simp at hu; subst hu; go_simp
  rintro e w10 ⟨rfl, hb10⟩
  have kb10 : Below w.heap.size w w10 := (by repeat (first | with_reducible refine Below.setCell ?_ (by first | (simp; done) | (simp; omega) | omega) _ | with_reducible refine Below.alloc ?_ (by first | (simp; done) | (simp; omega) | omega) _ | with_reducible refine Below.drew ?_ | with_reducible refine below_drewN ?_ _ | with_reducible exact Below.refl _ _ | with_reducible refine Below.trans ?_ (Below.mono hb10 (by first | (simp; done) | (simp; omega) | omega)) | with_reducible refine Below.trans ?_ (Below.mono kb9 (by first | (simp; done) | (simp; omega) | omega))))
  have kc10 : Below w9.heap.size w9 w10 := (by repeat (first | with_reducible refine Below.setCell ?_ (by first | (simp; done) | (simp; omega) | omega) _ | with_reducible refine Below.alloc ?_ (by first | (simp; done) | (simp; omega) | omega) _ | with_reducible refine Below.drew ?_ | with_reducible refine below_drewN ?_ _ | with_reducible exact Below.refl _ _ | with_reducible refine Below.trans ?_ (Below.mono hb10 (by first | (simp; done) | (simp; omega) | omega))))
  have y7_0 : w10.cell? ⟨w6.heap.size, 0, none⟩ = some (.int .i64 1) := (kc10.cell (p := ⟨w6.heap.size, 0, none⟩) (by show w6.heap.size < _; omega)).trans x79_0
  have y7_1 : w10.cell? ⟨w6.heap.size, 1, none⟩ = some (.int .i64 1) := (kc10.cell (p := ⟨w6.heap.size, 1, none⟩) (by show w6.heap.size < _; omega)).trans x79_1
  have y7_2 : w10.cell? ⟨w6.heap.size, 2, none⟩ = some (.int .i64 2) := (kc10.cell (p := ⟨w6.heap.size, 2, none⟩) (by show w6.heap.size < _; omega)).trans x79_2
  have y7_3 : w10.cell? ⟨w6.heap.size, 3, none⟩ = some (.string ⟨#[97]⟩) := (kc10.cell (p := ⟨w6.heap.size, 3, none⟩) (by show w6.heap.size < _; omega)).trans x79_3
  have HB10 := Lib.hid (HB9.out.below kc10)
  have LO10 := LO9
  have kz10 := kc10.size
  have hz7 : w6.heap.size < w10.heap.size := by omega
  have hbl10 : Bb < w10.heap.size := by omega
  have he : ∀ W, (binOp .eql 33 (.agg #[.int .i64 1, .int .i64 1, .int .i64 2, .string ⟨#[97]⟩]) (.agg #[.int .i64 1, .int .i64 1, .int .i64 2, .string ⟨#[97]⟩])).run Try.prog W = .ok (.bool true) W := fun W => by rw [eql_dg ⟨1, 1, 2, ⟨#[97]⟩⟩ ⟨1, 1, 2, ⟨#[97]⟩⟩ W, dEq_self]
  clear hb10 CS x79_0 x79_1 x79_2 x79_3 HB9 LO9 o79 hlt9
  go_wp2_with (fail)
  refine (len_any Bb bm lv9 _ _ HB10.out).mono ?_; rintro e w11 ⟨rfl, rfl⟩
  go_wp2_with (fail)
  have cm := mend_any Bb bm lv9 _ 1 2 w10 HB10.out (by unfold i64B; omega) (by unfold i64B; omega)
  rw [aw9] at cm
  refine cm.mono ?_; clear cm; rintro e w11 ⟨rfl, hb11, ht11⟩
  have kb11 : Below w.heap.size w w11 := kb10.trans (ht11.to_below LO10.out kb10.size)
  clear hb11 ht11
  go_wp2
  go_ret
  exact ⟨rfl, kb11⟩
end Go.Proofs.Ytdaobbffhfbceaa
