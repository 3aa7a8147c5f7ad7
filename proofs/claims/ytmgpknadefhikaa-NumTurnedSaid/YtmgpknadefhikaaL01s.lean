/- Whatever the list: eddylaw01's NumSums returns true. No conditions. -/
import Derived.Test.YtmgpknadefhikaaAwk
import Derived.Test.YtmgpknadefhikaaNumU
import Derived.Test.YtmgpknadefhikaaApp
import Derived.Test.YtmgpknadefhikaaOpnI
namespace Go.Proofs.Ytmgpknadefhikaa
open Go.ChangeShapes Go.WideShapes Go.ChangeAt Go.RowKit Go.Joins
set_option linter.unusedVariables false
theorem i64_info : (Try.prog.info? 2).map (fun i => (i.zero, i.size, i.bytes)) = some (some (.int .i64 0), 1, 8) := by kernel_rfl
theorem one_ints (xs : List Int) : ∀ u ∈ xs.map (Value.int .i64), u.oneCell' = true := by
  intro u hu
  obtain ⟨x, _, rfl⟩ := List.mem_map.1 hu
  rfl
theorem own_reads {w : World} {base : Nat} {e : TypeId} {v : Value} {n : Nat} {xs : List Value} (h : w.ownsRow base e 1 v n xs) : ∃ A c, v = .slice A n c ∧ Reads w w.heap.size 1 A n xs := by
  have h' := h
  rcases h.2 with ⟨rfl, rfl⟩ | ⟨g, cap, cur, rfl, _⟩
  · obtain rfl : xs = [] := List.eq_nil_of_length_eq_zero (by have := h'.1; simpa using this)
    exact ⟨none, 0, rfl, Reads.none_⟩
  · exact ⟨_, _, rfl, Reads.of_own h'⟩
set_option maxRecDepth 100000 in
set_option maxHeartbeats 4000000 in
theorem numSums_any (A : Option Addr) (n c : Nat) (xs : List Int) (w : World) (hn : xs.length = n) (hr : Reads w w.heap.size 1 A n (xs.map (Value.int .i64))) (hb : i64s xs) (hm : n * 8 ≤ reachBytes) :
    Calls Try.prog 6 #[.slice A n c] w fun e w' => e = .returned (.bool true) ∧ Below w.heap.size w w' := by
  unfold reachBytes at hm
  have hx : n ≤ maxLen := by unfold maxLen; omega
  obtain ⟨i0, hi0, hz0, hz1, hz2⟩ := info_parts i64_info
  have c1 := fun A c w hr => sum_any A n c xs w hn hr hx
  have c2 := fun A c w hr => rsum_any A n c xs w hn hr hx
  have c3 := fun A c w hr => squares_any A n c xs w hn hr hb hx
  have c4 := fun A c w hr => rsquares_any A n c xs w hn hr hb hx
  generalize sumN xs = s at *
  generalize sqL xs = q at *
  obtain ⟨s1, s2⟩ := s
  obtain ⟨q1, q2⟩ := q
  have C1 := Lib.hid c1; have C2 := Lib.hid c2; have C3 := Lib.hid c3; have C4 := Lib.hid c4
  clear c1 c2 c3 c4
  have HN := Lib.hid hn
  clear hn
  have h1 := one_ints xs
  have H1 := Lib.hid h1
  clear h1
  go_enter Try.func6, Try.ntmps6
  go_wp2_with (at_builtin; refine wpList_append_any _ rfl (.tmp 9) (.tmp 10) _ rfl w.heap.size 2 i0 _ 1 8 Try.underlying38 hi0 hz0 hz1 hz2 rfl (by omega) (.slice none 0 0) 0 [] rfl ⟨by simp, .inl ⟨rfl, rfl⟩⟩ w.heap.size A n c _ rfl hr H1.out (by simp only [maxLen]; omega) (by omega) (Nat.le_refl _) ?_; intro v1 w1 hown1 hg1 hat1)
  have hbw1 : Below w.heap.size w w1 := (Below.refl _ _).grown hg1 (Nat.le_refl _) (by simp [Value.ownBlock])
  obtain ⟨A1, k1, rfl, hr1⟩ := own_reads hown1
  rw [List.nil_append, Nat.zero_add] at hr1
  have hr0 := (hr.below hbw1).more hbw1.size
  clear hown1 hg1 hat1 hr
  simp only [Nat.zero_add]
  refine (C1.out _ _ _ hr1).mono ?_; rintro e w' ⟨rfl, rfl⟩
  go_wp2_with (fail)
  refine (C2.out _ _ _ hr0).mono ?_; rintro e w' ⟨rfl, rfl⟩
  go_wp2_with (fail)
  refine (C3.out _ _ _ hr1).mono ?_; rintro e w2 ⟨rfl, hb2⟩
  have hr0' := (hr0.below hb2).more hb2.size
  go_wp2_with (fail)
  refine (C4.out _ _ _ hr0').mono ?_; rintro e w3 ⟨rfl, hb3⟩
  have hb4 : Below w1.heap.size w1 w3 := hb2.trans (hb3.mono hb2.size)
  clear hr0' hb2 hb3
  go_wp2
  go_loopw [8] (fun i w' => ∃ k : Nat, k ≤ n ∧ i = .int .i64 k ∧ Below w1.heap.size w1 w') (fun i _ => n - (intOf i).toNat)
  case atStart => exact ⟨0, Nat.zero_le _, rfl, hb4⟩
  case round =>
    obtain ⟨k, hk, rfl, kb⟩ := hrel
    clear hb4
    by_cases hlt : k < n
    · obtain ⟨ad, u, rfl, hab, hx0, hc0⟩ := (hr0.below kb).at_ hlt
      obtain ⟨ad1, u1, rfl, hab1, hx1, hc1⟩ := (hr1.below kb).at_ hlt
      rw [hx0] at hx1
      obtain rfl : u = u1 := Option.some.inj hx1
      rw [List.getElem?_map, Option.map_eq_some_iff] at hx0
      obtain ⟨x, _, rfl⟩ := hx0
      clear hr0 hr1 hx1
      go_wp2
      refine wp_region_quietC_lit (KeptC w1 [(ad.add k, .int .i64 x), (ad1.add k, .int .i64 x)] []) (by kernel_rfl) (by kernel_rfl) ?_ ?_
      · refine KeptC.drewn ?_
        repeat' (first | refine KeptC.cons ?_ ?_ | refine KeptC.consF ?_ ?_ ?_ | refine KeptC.mk0 ?_)
        all_goals (first | with_reducible assumption | (go_simp; done) | (simp; omega) | exact (by repeat (first | with_reducible refine Below.setCell ?_ (by first | (simp; done) | (simp; omega) | omega) _ | with_reducible refine Below.alloc ?_ (by first | (simp; done) | (simp; omega) | omega) _ | with_reducible refine Below.drew ?_ | with_reducible exact Below.refl _ _ | with_reducible refine Below.trans ?_ (Below.mono kb (by first | (simp; done) | (simp; omega) | omega)))))
      repeat (first
        | go_big_quiet_skip
        | (go_big_quiet_want; (apply quietC_run); (· intro w' hw'; (have hk' := hw'; simp only [KeptC, List.forall_mem_cons] at hk'; go_split_ands); go_simp; first | done | rfl); (simp only [Act.put, List.setIfInBounds_toArray, List.set_cons_zero, List.set_cons_succ]; go_big_quiet_on))
        | (go_big_quiet_want; (apply quietC_call); (· intro w' hw'; go_simp; first | done | exact ⟨rfl, rfl⟩ | rfl); (· intro w' hw'; first | fail); (simp only [Act.put, List.setIfInBounds_toArray, List.set_cons_zero, List.set_cons_succ]; go_big_quiet_on)))
      refine wpQuiet_nil ?_
      intro w5 hk5
      (have hk' := hk5; simp only [KeptC, List.forall_mem_cons] at hk'; go_split_ands); have hkB5 := hk5.1
      go_wp2
      go_roundw
      case rel => exact ⟨k + 1, by omega, by go_num, hkB5⟩
      case measure => simp [intOf]; omega
    · obtain rfl : k = n := by omega
      clear hr0 hr1
      go_wp2_with (fail)
      refine (awake_any _).mono ?_; rintro e w6 ⟨rfl, hb6⟩; obtain ⟨hc6, hf6⟩ := bcell hb6; have hz6 := hb6.size; (try simp at hz6)
      go_wp2
      go_ret
      exact ⟨rfl, hbw1.trans ((kb.trans (hb6.mono kb.size)).mono hbw1.size)⟩
theorem numSums_lifted (os : Os) (started : os.Started) (H : Type) (enc : TypeId × Value → H) :
    ReturnsInHanded {} Try.checked os 6 .any (Rows.numSumsSpec.pre6 enc Try.prog Try.f6 Rows.numSumsRow.domain false) (Rows.numSumsSpec.post enc Try.prog Try.f6 false true false false) := by
  refine returnsInHanded_of_change_sized (C := Try.checked) own started (by kernel_rfl) Try.func6
    (ChangeSpec.witness6 (enc := enc) (C := Try.checked) false ⟨#[], #[.slice none 0 0], []⟩ 8 (by kernel_rfl) (by kernel_rfl) (by kernel_rfl) (by kernel_rfl)) ?_
  intro W base args ds gs before hval hW _ hsz _
  have hW' := hW
  obtain ⟨p, q, hA, hV, rfl, hfz, hnd⟩ := hW
  obtain ⟨rfl, rfl⟩ := trodVars_none hV
  rw [Try.params6] at hA hval
  obtain ⟨v0, vs0, d0, ds0, p0, q0, hargs, rfl, rfl, h0, r0⟩ := trodAll_cons hA
  obtain ⟨rfl, rfl, rfl⟩ := trodAll_nil r0
  obtain rfl : args = #[v0] := by cases args; simp_all
  obtain ⟨A, n, c, xs, rfl, hn, _, hi, hr, hds⟩ := open_i64s Try.underlying38 Try.underlying2 (by kernel_rfl) (hval 0 _ v0 rfl rfl) h0
  refine (numSums_any A n c xs W hn hr hi (small_i64s hsz (j := 0) rfl rfl Try.underlying38 (by kernel_rfl) hds)).mono fun e W' ⟨he, hg⟩ => ?_
  subst he
  exact ⟨_, rfl, law_post laidOut rfl (by kernel_rfl) rfl Try.underlying4 rfl hW' hg⟩

theorem numSums_holds : Rows.NumSumsSaid :=
  OpenClaim.holds_of_wide 6 Try.f6 rfl rfl rfl rfl rfl rfl rfl ⟨rfl, rfl, rfl, rfl, rfl⟩ rfl rfl rfl rfl rfl (by kernel_rfl) Try.func6 (by kernel_rfl)
    (of_decide_eq_true (by kernel_rfl)) (by unfold Func.isWrapper; first | (rw [if_pos (by decide +kernel)]; kernel_rfl) | (rw [if_neg (by decide +kernel)]; exact ⟨rfl, rfl⟩))
    (fun os started H enc _ => numSums_lifted os started H enc)

end Go.Proofs.Ytmgpknadefhikaa
