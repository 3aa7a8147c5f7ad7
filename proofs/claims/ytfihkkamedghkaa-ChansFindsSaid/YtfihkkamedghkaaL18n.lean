/- Whatever the arguments: eddylaw18's ChansFinds returns true. No conditions. -/
import Derived.Test.YtfihkkamedghkaaStY
import Derived.Test.YtfihkkamedghkaaStS
import Derived.Test.YtfihkkamedghkaaStO
import Derived.Test.YtfihkkamedghkaaLaw
import Derived.ChangeMaps5
import Derived.Deep.Cut
namespace Go.Proofs.Ytfihkkamedghkaa
open Go.ChangeShapes Go.WideShapes Go.ChangeAt Go.RowKit Go.Joins Go.ChangeMaps
set_option linter.unusedVariables false
set_option maxRecDepth 100000
theorem KeptC.set1 {w0 w : World} {l : List (Addr × Value)} {g o : Nat} {v : Value} (h : KeptC w0 l [] w) (hb : w0.heap.size ≤ g) (hl : ∀ a ∈ l, a.1.block ≠ g) : KeptC w0 l [] (w.setCell ⟨g, o, none⟩ v) :=
  ⟨h.1.setCell hb _, fun x hx => by rw [World.cell?_setCell_other _ _ _ _ (by intro e; first | exact hl x hx (congrArg Addr.block e) | exact hl x hx (congrArg Addr.block e).symm)]; exact h.2.1 x hx, fun a ha => by cases ha⟩
theorem OwnS.at_n {w : World} {base n : Nat} {v : Value} {rs : List St} (h : OwnS w base v rs) (hs : ∀ x ∈ rs, x.ch.name.size ≤ maxLen) (hl : rs.length = n) : ∃ A c, v = .slice A n c ∧ StsAt w w.heap.size A n rs := by
  subst hl
  exact h.at_ hs
theorem KeptC.low {w W : World} {l : List (Addr × Value)} {F : List Addr} (h : KeptC w l F W) : Below w.heap.size w W := h.1
theorem KeptC.allocd {w0 w : World} {l : List (Addr × Value)} {F : List Addr} {o : Obj} (h : KeptC w0 l F w) : KeptC w0 l F (w.alloc o) := h.below ((Below.refl _ _).alloc (Nat.le_refl _) _)
set_option maxRecDepth 100000 in
set_option maxHeartbeats 8000000 in
theorem chansFinds_any (id : Int) (A : Option Addr) (n cp : Nat) (rs : List St) (nm : ByteArray) (s : ByteArray) (e m : Int) (al : Bool) (k0 sc : Int) (w : World) (hs : s.size ≤ maxLen) (hr : StsAt w w.heap.size A n rs) (hm : n * 136 ≤ 140737488351232) :
    Calls Try.prog 4 #[.int .i64 id, .slice A n cp, .string nm, .agg #[.string s, .int .i64 e, .int .i64 m, .bool al, .int .i64 k0, .int .i64 sc]] w fun x w' => x = .returned (.bool true) ∧ Below w.heap.size w w' := by
  have HR := Lib.hid hr
  have HL := Lib.hid hr.len
  clear hr
  have f2 := fun W (hb : Below w.heap.size w W) => srfit_any id A n cp rs W ((HR.out.below hb).more hb.size) hm
  have fc := fun W => rfit_any s e m al k0 sc hs W
  have d1 := fun W (hb : Below w.heap.size w W) => sfind_any A n cp rs nm W ((HR.out.below hb).more hb.size) hm
  have d2 := fun W (hb : Below w.heap.size w W) => srfind_any A n cp rs nm W ((HR.out.below hb).more hb.size) hm
  have r1 := fun W (hb : Below w.heap.size w W) => records_any A n cp rs W ((HR.out.below hb).more hb.size) hm
  have r2 := fun W (hb : Below w.heap.size w W) => rrecords_any A n cp rs W ((HR.out.below hb).more hb.size) hm
  have o1 := fun W (hb : Below w.heap.size w W) => sown_any A n cp rs s e m al k0 sc W ((HR.out.below hb).more hb.size) hm
  have o2 := fun W (hb : Below w.heap.size w W) => srown_any A n cp rs s e m al k0 sc W ((HR.out.below hb).more hb.size) hm
  have cc := fun W (hb : Below w.heap.size w W) => scopy_any A n cp rs W ((HR.out.below hb).more hb.size) hm
  have s3 := fun A9 c9 W (h : StsAt W W.heap.size A9 n rs) (hb : Below w.heap.size w W) => srsame_any A9 n c9 rs A n cp rs W h ((HR.out.below hb).more hb.size) hm hm
  rw [sameS_eq (rfl : rs = rs)] at s3
  have hnm : ∀ x ∈ rs.map St.ch, x.name.size ≤ maxLen := by
    intro x hx
    obtain ⟨y, hy, rfl⟩ := List.mem_map.1 hx
    exact HR.out.2 y hy
  have HNM := Lib.hid hnm
  clear hnm
  obtain ⟨n1, hn1⟩ : ∃ n1, (rs.map St.ch).length = n1 := ⟨_, rfl⟩
  have HN1 := Lib.hid hn1
  have hn1b : n1 * 136 ≤ 140737488351232 := by rw [← hn1, List.length_map, HL.out]; exact hm
  clear hn1
  generalize stsB id rs = q1 at *
  generalize chFit s e m k0 sc = q2 at *
  generalize (findS rs nm).getD St0 = y at *
  generalize (findS rs nm).isSome = ok at *
  generalize ownB rs s e m al = qo at *
  obtain ⟨⟨ys, ye, ym, ya, yk, yc⟩, yh, yi, ⟨yp, yv, yo, yg⟩, ⟨yq, yu, yr, yt⟩⟩ := y
  simp only [] at d1 d2
  have F2 := Lib.hid f2; have FC := Lib.hid fc; have D1 := Lib.hid d1; have D2 := Lib.hid d2; have R1 := Lib.hid r1; have R2 := Lib.hid r2; have O1 := Lib.hid o1; have O2 := Lib.hid o2; have CC := Lib.hid cc; have S3 := Lib.hid s3
  clear f2 fc d1 d2 r1 r2 o1 o2 cc s3
  have eo : (qo == qo) = true := by cases qo <;> rfl
  have ek : (ok == ok) = true := by cases ok <;> rfl
  have ek2 : (ok != ok) = false := by cases ok <;> rfl
  have qe : ∀ W, (binOp .neq 43 (.agg #[.string ys, .int .i64 ye, .int .i64 ym, .bool ya, .int .i64 yk, .int .i64 yc, .bool yh, .int .i64 yi, .bool yp, .int .i64 yv, .int .i64 yo, .int .i64 yg, .bool yq, .int .i64 yu, .int .i64 yr, .int .i64 yt]) (.agg #[.string ys, .int .i64 ye, .int .i64 ym, .bool ya, .int .i64 yk, .int .i64 yc, .bool yh, .int .i64 yi, .bool yp, .int .i64 yv, .int .i64 yo, .int .i64 yg, .bool yq, .int .i64 yu, .int .i64 yr, .int .i64 yt])).run Try.prog W = .ok (.bool false) W := fun W => by rw [neq_state ⟨⟨ys, ye, ym, ya, yk, yc⟩, yh, yi, ⟨yp, yv, yo, yg⟩, ⟨yq, yu, yr, yt⟩⟩ ⟨⟨ys, ye, ym, ya, yk, yc⟩, yh, yi, ⟨yp, yv, yo, yg⟩, ⟨yq, yu, yr, yt⟩⟩ W, stEq_iff.2 rfl]; rfl
  go_enter Try.func4, Try.ntmps4
  go_wp2_with (fail)
  refine (F2.out _ (by repeat (first | with_reducible refine Below.setCell ?_ (by first | (simp; done) | (simp; omega) | omega) _ | with_reducible refine Below.alloc ?_ (by first | (simp; done) | (simp; omega) | omega) _ | with_reducible refine Below.drew ?_ | with_reducible refine below_drewN ?_ _ | with_reducible exact Below.refl _ _))).mono ?_; rintro x w1 ⟨rfl, hb1⟩
  have K1 : KeptC w [(⟨w.heap.size, 0, none⟩, .string s), (⟨w.heap.size, 1, none⟩, .int .i64 e), (⟨w.heap.size, 2, none⟩, .int .i64 m), (⟨w.heap.size, 3, none⟩, .bool al), (⟨w.heap.size, 4, none⟩, .int .i64 k0), (⟨w.heap.size, 5, none⟩, .int .i64 sc)] [] w1 := KeptC.below (by (repeat' (first | refine KeptC.cons ?_ ?_ | refine KeptC.consF ?_ ?_ ?_ | refine KeptC.mk0 ?_)); all_goals (first | with_reducible assumption | (go_simp; done) | (simp; omega) | exact (by repeat (first | with_reducible refine Below.setCell ?_ (by first | (simp; done) | (simp; omega) | omega) _ | with_reducible refine Below.alloc ?_ (by first | (simp; done) | (simp; omega) | omega) _ | with_reducible refine Below.drew ?_ | with_reducible refine below_drewN ?_ _ | with_reducible exact Below.refl _ _)))) hb1
  clear hb1
  cases q1 with
  | false =>
    have kb1 := K1.low
    have hs1 := kb1.size
    go_wp2_with (fail)
    refine (awake_any _).mono ?_; rintro x w2 ⟨rfl, hb2⟩
    go_wp2
    go_ret
    exact ⟨rfl, (by repeat (first | with_reducible refine Below.setCell ?_ (by first | (simp; done) | (simp; omega) | omega) _ | with_reducible refine Below.alloc ?_ (by first | (simp; done) | (simp; omega) | omega) _ | with_reducible refine Below.drew ?_ | with_reducible refine below_drewN ?_ _ | with_reducible exact Below.refl _ _ | with_reducible refine Below.trans ?_ (Below.mono hb2 (by first | (simp; done) | (simp; omega) | omega)) | with_reducible refine Below.trans ?_ (Below.mono kb1 (by first | (simp; done) | (simp; omega) | omega))))⟩
  | true =>
  have HK1 := Lib.hid K1
  simp only [KeptC, List.forall_mem_cons] at K1; obtain ⟨kb1, ⟨kc1_0, kc1_1, kc1_2, kc1_3, kc1_4, kc1_5, _⟩, _⟩ := K1
  have hs1 := kb1.size
  go_wp2_with (fail)
  refine (FC.out _).mono ?_; rintro x w2 ⟨rfl, hb2⟩
  have K2 := HK1.out.below hb2
  clear hb2 kb1 kc1_0 kc1_1 kc1_2 kc1_3 kc1_4 kc1_5
  cases q2 with
  | false =>
    have kb2 := K2.low
    have hs2 := kb2.size
    go_wp2_with (fail)
    refine (awake_any _).mono ?_; rintro x w3 ⟨rfl, hb3⟩
    go_wp2
    go_ret
    exact ⟨rfl, (by repeat (first | with_reducible refine Below.setCell ?_ (by first | (simp; done) | (simp; omega) | omega) _ | with_reducible refine Below.alloc ?_ (by first | (simp; done) | (simp; omega) | omega) _ | with_reducible refine Below.drew ?_ | with_reducible refine below_drewN ?_ _ | with_reducible exact Below.refl _ _ | with_reducible refine Below.trans ?_ (Below.mono hb3 (by first | (simp; done) | (simp; omega) | omega)) | with_reducible refine Below.trans ?_ (Below.mono kb2 (by first | (simp; done) | (simp; omega) | omega))))⟩
  | true =>
  have kb2 := K2.low
  have hs2 := kb2.size
  go_wp2_with (fail)
  refine (D1.out _ (by repeat (first | with_reducible refine Below.setCell ?_ (by first | (simp; done) | (simp; omega) | omega) _ | with_reducible refine Below.alloc ?_ (by first | (simp; done) | (simp; omega) | omega) _ | with_reducible refine Below.drew ?_ | with_reducible refine below_drewN ?_ _ | with_reducible exact Below.refl _ _ | with_reducible refine Below.trans ?_ (Below.mono kb2 (by first | (simp; done) | (simp; omega) | omega))))).mono ?_; rintro x w3 ⟨rfl, hb3⟩
  have K3 := K2.below hb3
  have kb3 := K3.low
  have hs3 := kb3.size
  clear hb3 kb2 K2
  go_wp2_with (fail)
  refine (D2.out _ (by repeat (first | with_reducible refine Below.setCell ?_ (by first | (simp; done) | (simp; omega) | omega) _ | with_reducible refine Below.alloc ?_ (by first | (simp; done) | (simp; omega) | omega) _ | with_reducible refine Below.drew ?_ | with_reducible refine below_drewN ?_ _ | with_reducible exact Below.refl _ _ | with_reducible refine Below.trans ?_ (Below.mono kb3 (by first | (simp; done) | (simp; omega) | omega))))).mono ?_; rintro x w4 ⟨rfl, hb4⟩
  have hc4 : w4.cell? ⟨w3.heap.size, 0, none⟩ = some (.string ys) ∧ w4.cell? ⟨w3.heap.size, 1, none⟩ = some (.int .i64 ye) ∧ w4.cell? ⟨w3.heap.size, 2, none⟩ = some (.int .i64 ym) ∧ w4.cell? ⟨w3.heap.size, 3, none⟩ = some (.bool ya) ∧ w4.cell? ⟨w3.heap.size, 4, none⟩ = some (.int .i64 yk) ∧ w4.cell? ⟨w3.heap.size, 5, none⟩ = some (.int .i64 yc) ∧ w4.cell? ⟨w3.heap.size, 6, none⟩ = some (.bool yh) ∧ w4.cell? ⟨w3.heap.size, 7, none⟩ = some (.int .i64 yi) ∧ w4.cell? ⟨w3.heap.size, 8, none⟩ = some (.bool yp) ∧ w4.cell? ⟨w3.heap.size, 9, none⟩ = some (.int .i64 yv) ∧ w4.cell? ⟨w3.heap.size, 10, none⟩ = some (.int .i64 yo) ∧ w4.cell? ⟨w3.heap.size, 11, none⟩ = some (.int .i64 yg) ∧ w4.cell? ⟨w3.heap.size, 12, none⟩ = some (.bool yq) ∧ w4.cell? ⟨w3.heap.size, 13, none⟩ = some (.int .i64 yu) ∧ w4.cell? ⟨w3.heap.size, 14, none⟩ = some (.int .i64 yr) ∧ w4.cell? ⟨w3.heap.size, 15, none⟩ = some (.int .i64 yt) := ⟨(hb4.cell (p := ⟨w3.heap.size, 0, none⟩) (by first | (simp; done) | (simp; omega) | omega)).trans (by go_simp), (hb4.cell (p := ⟨w3.heap.size, 1, none⟩) (by first | (simp; done) | (simp; omega) | omega)).trans (by go_simp), (hb4.cell (p := ⟨w3.heap.size, 2, none⟩) (by first | (simp; done) | (simp; omega) | omega)).trans (by go_simp), (hb4.cell (p := ⟨w3.heap.size, 3, none⟩) (by first | (simp; done) | (simp; omega) | omega)).trans (by go_simp), (hb4.cell (p := ⟨w3.heap.size, 4, none⟩) (by first | (simp; done) | (simp; omega) | omega)).trans (by go_simp), (hb4.cell (p := ⟨w3.heap.size, 5, none⟩) (by first | (simp; done) | (simp; omega) | omega)).trans (by go_simp), (hb4.cell (p := ⟨w3.heap.size, 6, none⟩) (by first | (simp; done) | (simp; omega) | omega)).trans (by go_simp), (hb4.cell (p := ⟨w3.heap.size, 7, none⟩) (by first | (simp; done) | (simp; omega) | omega)).trans (by go_simp), (hb4.cell (p := ⟨w3.heap.size, 8, none⟩) (by first | (simp; done) | (simp; omega) | omega)).trans (by go_simp), (hb4.cell (p := ⟨w3.heap.size, 9, none⟩) (by first | (simp; done) | (simp; omega) | omega)).trans (by go_simp), (hb4.cell (p := ⟨w3.heap.size, 10, none⟩) (by first | (simp; done) | (simp; omega) | omega)).trans (by go_simp), (hb4.cell (p := ⟨w3.heap.size, 11, none⟩) (by first | (simp; done) | (simp; omega) | omega)).trans (by go_simp), (hb4.cell (p := ⟨w3.heap.size, 12, none⟩) (by first | (simp; done) | (simp; omega) | omega)).trans (by go_simp), (hb4.cell (p := ⟨w3.heap.size, 13, none⟩) (by first | (simp; done) | (simp; omega) | omega)).trans (by go_simp), (hb4.cell (p := ⟨w3.heap.size, 14, none⟩) (by first | (simp; done) | (simp; omega) | omega)).trans (by go_simp), (hb4.cell (p := ⟨w3.heap.size, 15, none⟩) (by first | (simp; done) | (simp; omega) | omega)).trans (by go_simp)⟩
  have K4 : KeptC w [(⟨w.heap.size, 0, none⟩, .string s), (⟨w.heap.size, 1, none⟩, .int .i64 e), (⟨w.heap.size, 2, none⟩, .int .i64 m), (⟨w.heap.size, 3, none⟩, .bool al), (⟨w.heap.size, 4, none⟩, .int .i64 k0), (⟨w.heap.size, 5, none⟩, .int .i64 sc)] [] w4 := KeptC.below (KeptC.below K3 (by repeat (first | with_reducible refine Below.setCell ?_ (by first | (simp; done) | (simp; omega) | omega) _ | with_reducible refine Below.alloc ?_ (by first | (simp; done) | (simp; omega) | omega) _ | with_reducible refine Below.drew ?_ | with_reducible refine below_drewN ?_ _ | with_reducible exact Below.refl _ _))) hb4
  have HK4 := Lib.hid K4
  clear hb4 kb3 K3
  simp only [KeptC, List.forall_mem_cons] at K4; obtain ⟨kb4, ⟨kc4_0, kc4_1, kc4_2, kc4_3, kc4_4, kc4_5, _⟩, _⟩ := K4
  have hs4 := kb4.size
  obtain ⟨y0, y1, y2, y3, y4, y5, y6, y7, y8, y9, y10, y11, y12, y13, y14, y15⟩ := hc4
  have hw34 : w3.heap.size < w4.heap.size := cell_lt y0
  have hw04 : w.heap.size < w4.heap.size := cell_lt kc4_0
  go_wp2_with (fail)
  refine (R1.out _ (by repeat (first | with_reducible refine Below.setCell ?_ (by first | (simp; done) | (simp; omega) | omega) _ | with_reducible refine Below.alloc ?_ (by first | (simp; done) | (simp; omega) | omega) _ | with_reducible refine Below.drew ?_ | with_reducible refine below_drewN ?_ _ | with_reducible exact Below.refl _ _ | with_reducible refine Below.trans ?_ (Below.mono kb4 (by first | (simp; done) | (simp; omega) | omega))))).mono ?_; rintro x w5 ⟨lv5, rfl, hown5, hb5⟩
  obtain ⟨A5, c5, rfl, hat5⟩ := hown5.at_ HNM.out
  rw [HN1.out] at hat5
  rw [HN1.out]
  have K5 : KeptC w [(⟨w.heap.size, 0, none⟩, .string s), (⟨w.heap.size, 1, none⟩, .int .i64 e), (⟨w.heap.size, 2, none⟩, .int .i64 m), (⟨w.heap.size, 3, none⟩, .bool al), (⟨w.heap.size, 4, none⟩, .int .i64 k0), (⟨w.heap.size, 5, none⟩, .int .i64 sc), (⟨w3.heap.size, 0, none⟩, .string ys), (⟨w3.heap.size, 1, none⟩, .int .i64 ye), (⟨w3.heap.size, 2, none⟩, .int .i64 ym), (⟨w3.heap.size, 3, none⟩, .bool ya), (⟨w3.heap.size, 4, none⟩, .int .i64 yk), (⟨w3.heap.size, 5, none⟩, .int .i64 yc), (⟨w3.heap.size, 6, none⟩, .bool yh), (⟨w3.heap.size, 7, none⟩, .int .i64 yi), (⟨w3.heap.size, 8, none⟩, .bool yp), (⟨w3.heap.size, 9, none⟩, .int .i64 yv), (⟨w3.heap.size, 10, none⟩, .int .i64 yo), (⟨w3.heap.size, 11, none⟩, .int .i64 yg), (⟨w3.heap.size, 12, none⟩, .bool yq), (⟨w3.heap.size, 13, none⟩, .int .i64 yu), (⟨w3.heap.size, 14, none⟩, .int .i64 yr), (⟨w3.heap.size, 15, none⟩, .int .i64 yt), (⟨w4.heap.size, 0, none⟩, .string ys), (⟨w4.heap.size, 1, none⟩, .int .i64 ye), (⟨w4.heap.size, 2, none⟩, .int .i64 ym), (⟨w4.heap.size, 3, none⟩, .bool ya), (⟨w4.heap.size, 4, none⟩, .int .i64 yk), (⟨w4.heap.size, 5, none⟩, .int .i64 yc), (⟨w4.heap.size, 6, none⟩, .bool yh), (⟨w4.heap.size, 7, none⟩, .int .i64 yi), (⟨w4.heap.size, 8, none⟩, .bool yp), (⟨w4.heap.size, 9, none⟩, .int .i64 yv), (⟨w4.heap.size, 10, none⟩, .int .i64 yo), (⟨w4.heap.size, 11, none⟩, .int .i64 yg), (⟨w4.heap.size, 12, none⟩, .bool yq), (⟨w4.heap.size, 13, none⟩, .int .i64 yu), (⟨w4.heap.size, 14, none⟩, .int .i64 yr), (⟨w4.heap.size, 15, none⟩, .int .i64 yt)] [] w5 := KeptC.below (by (repeat' (first | refine KeptC.cons ?_ ?_ | refine KeptC.consF ?_ ?_ ?_ | refine KeptC.mk0 ?_)); all_goals (first | with_reducible assumption | (go_simp; done) | (simp; omega) | exact (by repeat (first | with_reducible refine Below.setCell ?_ (by first | (simp; done) | (simp; omega) | omega) _ | with_reducible refine Below.alloc ?_ (by first | (simp; done) | (simp; omega) | omega) _ | with_reducible refine Below.drew ?_ | with_reducible refine below_drewN ?_ _ | with_reducible exact Below.refl _ _ | with_reducible refine Below.trans ?_ (Below.mono kb4 (by first | (simp; done) | (simp; omega) | omega)))))) hb5
  have L5 : KeptC w [(⟨w.heap.size, 0, none⟩, .string s), (⟨w.heap.size, 1, none⟩, .int .i64 e), (⟨w.heap.size, 2, none⟩, .int .i64 m), (⟨w.heap.size, 3, none⟩, .bool al), (⟨w.heap.size, 4, none⟩, .int .i64 k0), (⟨w.heap.size, 5, none⟩, .int .i64 sc)] [] w5 := KeptC.below (KeptC.below HK4.out (by repeat (first | with_reducible refine Below.setCell ?_ (by first | (simp; done) | (simp; omega) | omega) _ | with_reducible refine Below.alloc ?_ (by first | (simp; done) | (simp; omega) | omega) _ | with_reducible refine Below.drew ?_ | with_reducible refine below_drewN ?_ _ | with_reducible exact Below.refl _ _))) hb5
  have HK5 := Lib.hid K5; have HL5 := Lib.hid L5; have HA5 := Lib.hid hat5
  have kb5 := L5.low
  have hs5 := kb5.size
  clear hb5 kb4 hown5 hat5 K5 L5 kc4_0 kc4_1 kc4_2 kc4_3 kc4_4 kc4_5 y0 y1 y2 y3 y4 y5 y6 y7 y8 y9 y10 y11 y12 y13 y14 y15
  go_wp2_with (fail)
  refine (R2.out _ (by repeat (first | with_reducible refine Below.setCell ?_ (by first | (simp; done) | (simp; omega) | omega) _ | with_reducible refine Below.alloc ?_ (by first | (simp; done) | (simp; omega) | omega) _ | with_reducible refine Below.drew ?_ | with_reducible refine below_drewN ?_ _ | with_reducible exact Below.refl _ _ | with_reducible refine Below.trans ?_ (Below.mono kb5 (by first | (simp; done) | (simp; omega) | omega))))).mono ?_; rintro x w6 ⟨lv6, rfl, hown6, hb6⟩
  obtain ⟨A6, c6, rfl, hat6⟩ := hown6.at_ HNM.out
  rw [HN1.out] at hat6
  rw [HN1.out]
  have K6 := KeptC.below HK5.out hb6
  have HL6 := Lib.hid (KeptC.below HL5.out hb6)
  have HA6 := Lib.hid hat6
  have HB5 := Lib.hid ((HA5.out.below hb6).more hb6.size)
  clear hb6 kb5 hown6 hat6
  simp only [KeptC, List.forall_mem_cons] at K6; obtain ⟨kb6, ⟨kc6_0, kc6_1, kc6_2, kc6_3, kc6_4, kc6_5, kc6_6, kc6_7, kc6_8, kc6_9, kc6_10, kc6_11, kc6_12, kc6_13, kc6_14, kc6_15, kc6_16, kc6_17, kc6_18, kc6_19, kc6_20, kc6_21, kc6_22, kc6_23, kc6_24, kc6_25, kc6_26, kc6_27, kc6_28, kc6_29, kc6_30, kc6_31, kc6_32, kc6_33, kc6_34, kc6_35, kc6_36, kc6_37, _⟩, _⟩ := K6
  have hs6 := kb6.size
  have en : ((n1 : Int) != n1) = false := by simp
  go_upto_region 9 with (fail)
  clear kc6_6 kc6_7 kc6_8 kc6_9 kc6_10 kc6_11 kc6_12 kc6_13 kc6_14 kc6_15 kc6_16 kc6_17 kc6_18 kc6_19 kc6_20 kc6_21 kc6_22 kc6_23 kc6_24 kc6_25 kc6_26 kc6_27 kc6_28 kc6_29 kc6_30 kc6_31 kc6_32 kc6_33 kc6_34 kc6_35 kc6_36 kc6_37 qe
  go_wp2_with (fail)
  go_loopw [15] (fun i w' => ∃ (k : Nat), k ≤ n1 ∧ i = .int .i64 k ∧ Hid (Below w6.heap.size w6 w') ∧ KeptC w [(⟨w.heap.size, 0, none⟩, .string s), (⟨w.heap.size, 1, none⟩, .int .i64 e), (⟨w.heap.size, 2, none⟩, .int .i64 m), (⟨w.heap.size, 3, none⟩, .bool al), (⟨w.heap.size, 4, none⟩, .int .i64 k0), (⟨w.heap.size, 5, none⟩, .int .i64 sc)] [] w') (fun i _ => n1 - (intOf i).toNat)
  case atStart => exact ⟨0, Nat.zero_le _, rfl, Lib.hid (Below.refl _ _), HL6.out⟩
  case round =>
    obtain ⟨k, hk, rfl, HB, hK⟩ := hrel
    clear kc6_0 kc6_1 kc6_2 kc6_3 kc6_4 kc6_5 kb6
    have HK := Lib.hid hK
    have kbr := HB.out
    have kb0 := hK.low
    have hs0 := kb0.size
    have hsr := kbr.size
    by_cases hlt : k < n1
    · obtain ⟨adx, x, hAx, habx, hx, _, hc6x⟩ := HB5.out.get hlt
      subst hAx
      obtain ⟨p, hpx⟩ : ∃ p, adx.add (k * 6) = p := ⟨_, rfl⟩
      have hpb : p.block < w6.heap.size := by rw [← hpx, block_of_add]; exact habx
      rw [hpx] at hc6x
      obtain ⟨ady, y, hAy, haby, hy, _, hc6y⟩ := HA6.out.get hlt
      subst hAy
      obtain ⟨q, hqy⟩ : ∃ q, ady.add (k * 6) = q := ⟨_, rfl⟩
      have hqb : q.block < w6.heap.size := by rw [← hqy, block_of_add]; exact haby
      rw [hqy] at hc6y
      obtain rfl := Option.some.inj (hx.symm.trans hy)
      have hpw : p.block < wr.heap.size := by omega
      have hqw : q.block < wr.heap.size := by omega
      obtain ⟨c0, c1, c2, c3, c4, c5x⟩ := hc6x.below hpb kbr
      obtain ⟨d0, d1, d2, d3, d4, d5⟩ := hc6y.below hqb kbr
      obtain ⟨xs, xe, xm, xa, xk, xc⟩ := x
      simp only [] at c0 c1 c2 c3 c4 c5x d0 d1 d2 d3 d4 d5
      have qc : ∀ W, (binOp .neq 38 (.agg #[.string xs, .int .i64 xe, .int .i64 xm, .bool xa, .int .i64 xk, .int .i64 xc]) (.agg #[.string xs, .int .i64 xe, .int .i64 xm, .bool xa, .int .i64 xk, .int .i64 xc])).run Try.prog W = .ok (.bool false) W := fun W => by rw [neq_chan ⟨xs, xe, xm, xa, xk, xc⟩ ⟨xs, xe, xm, xa, xk, xc⟩ W, chEq_iff.2 rfl]; rfl
      clear hx hy hc6x hc6y hK
      go_wp2_with (fail)
      go_quiet (fail)
      go_wp2
      go_roundw
      case rel => exact ⟨k + 1, by omega, by go_num, Lib.hid (by repeat (first | with_reducible refine Below.setCell ?_ (by first | (simp; done) | (simp; omega) | omega) _ | with_reducible refine Below.alloc ?_ (by first | (simp; done) | (simp; omega) | omega) _ | with_reducible refine Below.drew ?_ | with_reducible refine below_drewN ?_ _ | with_reducible exact Below.refl _ _ | with_reducible refine Below.trans ?_ (Below.mono kbr (by first | (simp; done) | (simp; omega) | omega)))), by first | exact HK.out | exact KeptC.below HK.out (by repeat (first | with_reducible refine Below.setCell ?_ (by first | (simp; done) | (simp; omega) | omega) _ | with_reducible refine Below.alloc ?_ (by first | (simp; done) | (simp; omega) | omega) _ | with_reducible refine Below.drew ?_ | with_reducible refine below_drewN ?_ _ | with_reducible exact Below.refl _ _))⟩
      case measure => simp [intOf]; omega
    · obtain rfl : k = n1 := by omega
      clear hK kbr
      go_wp2_with (fail)
      refine (CC.out _ (by repeat (first | with_reducible refine Below.setCell ?_ (by first | (simp; done) | (simp; omega) | omega) _ | with_reducible refine Below.alloc ?_ (by first | (simp; done) | (simp; omega) | omega) _ | with_reducible refine Below.drew ?_ | with_reducible refine below_drewN ?_ _ | with_reducible exact Below.refl _ _ | with_reducible refine Below.trans ?_ (Below.mono kb0 (by first | (simp; done) | (simp; omega) | omega))))).mono ?_; rintro x w7 ⟨lv7, rfl, hown7, hb7⟩
      have K7 := HK.out.below hb7
      have kb7 := K7.low
      have hs7 := kb7.size
      obtain ⟨A7, c7, hlv, hat7⟩ := hown7.at_n HR.out.2 HL.out
      subst hlv
      have HO7 := Lib.hid hown7
      clear hown7 hb7
      go_wp2_with (fail)
      refine (S3.out A7 c7 _ hat7 (by repeat (first | with_reducible refine Below.setCell ?_ (by first | (simp; done) | (simp; omega) | omega) _ | with_reducible refine Below.alloc ?_ (by first | (simp; done) | (simp; omega) | omega) _ | with_reducible refine Below.drew ?_ | with_reducible refine below_drewN ?_ _ | with_reducible exact Below.refl _ _ | with_reducible refine Below.trans ?_ (Below.mono kb7 (by first | (simp; done) | (simp; omega) | omega))))).mono ?_; rintro x w8 ⟨rfl, hb8⟩
      have K8 := K7.below hb8
      have HO8 := Lib.hid (OwnS.below HO7.out hb8)
      clear hb8 K7 hat7 HO7 kb7
      have HK8 := Lib.hid K8
      have kb8 := K8.low
      have hs8 := kb8.size
      clear K8
      rcases Nat.eq_zero_or_pos n with hn0 | hn0
      · subst hn0
        have KK0 := HK8.out
        go_wp2
        refine wp_loop_rounds 1 ?_
        rw [rounds_succ]
        go_upto_region 21 with (fail)
        refine lay (KeptC w [(⟨w.heap.size, 0, none⟩, .string s), (⟨w.heap.size, 1, none⟩, .int .i64 e), (⟨w.heap.size, 2, none⟩, .int .i64 m), (⟨w.heap.size, 3, none⟩, .bool al), (⟨w.heap.size, 4, none⟩, .int .i64 k0), (⟨w.heap.size, 5, none⟩, .int .i64 sc)] []) KK0 ?_
        intro wt hkt
        have hkt' := hkt
        simp only [KeptC, List.forall_mem_cons] at hkt'
        go_split_ands
        go_region_with (first | ((with_reducible refine (O1.out _ (by first | exact KeptC.low (by with_reducible assumption) | exact KeptC.low (KeptC.drewn (by with_reducible assumption)))).mono ?_); rintro e w9 ⟨rfl, hb9⟩; (first | have hk9 := KeptC.below (by with_reducible assumption) hb9 | have hk9 := KeptC.below (KeptC.drewn (by with_reducible assumption)) hb9); clear hb9; have hk9' := hk9; simp only [KeptC, List.forall_mem_cons] at hk9'; go_split_ands) | ((with_reducible refine (O2.out _ (by first | exact KeptC.low (by with_reducible assumption) | exact KeptC.low (KeptC.drewn (by with_reducible assumption)))).mono ?_); rintro e w9 ⟨rfl, hb9⟩; (first | have hk9 := KeptC.below (by with_reducible assumption) hb9 | have hk9 := KeptC.below (KeptC.drewn (by with_reducible assumption)) hb9); clear hb9; have hk9' := hk9; simp only [KeptC, List.forall_mem_cons] at hk9'; go_split_ands) | ((with_reducible refine (CC.out _ (by first | exact KeptC.low (by with_reducible assumption) | exact KeptC.low (KeptC.drewn (by with_reducible assumption)))).mono ?_); rintro e w9 ⟨lv9, rfl, hown9, hb9⟩; obtain ⟨A9, c9, rfl, hat9⟩ := hown9.at_n HR.out.2 HL.out; have HAT9 := Lib.hid hat9; clear hat9 hown9; (first | have hk9 := KeptC.below (by with_reducible assumption) hb9 | have hk9 := KeptC.below (KeptC.drewn (by with_reducible assumption)) hb9); clear hb9; have hk9' := hk9; simp only [KeptC, List.forall_mem_cons] at hk9'; go_split_ands) | ((with_reducible refine (S3.out A9 c9 _ HAT9.out (by first | exact KeptC.low (by with_reducible assumption) | exact KeptC.low (KeptC.drewn (by with_reducible assumption)))).mono ?_); rintro e w9 ⟨rfl, hb9⟩; (first | have hk9 := KeptC.below (by with_reducible assumption) hb9 | have hk9 := KeptC.below (KeptC.drewn (by with_reducible assumption)) hb9); clear hb9; have hk9' := hk9; simp only [KeptC, List.forall_mem_cons] at hk9'; go_split_ands) | ((with_reducible refine (awake_any _).mono ?_); rintro e w9 ⟨rfl, hb9⟩; (first | have hk9 := KeptC.below (by with_reducible assumption) hb9 | have hk9 := KeptC.below (KeptC.drewn (by with_reducible assumption)) hb9); clear hb9; have hk9' := hk9; simp only [KeptC, List.forall_mem_cons] at hk9'; go_split_ands))
        all_goals (
          go_wp2
          go_ret
          exact ⟨rfl, (by first | exact KeptC.low (by with_reducible assumption) | exact KeptC.low (KeptC.drewn (by with_reducible assumption)))⟩)
      · obtain ⟨ad, cx, hsl, hsp, hbase, hab, _, hrow⟩ := OwnE.row stV_len St0 HO8.out (by rw [HL.out]; exact hn0)
        rw [HL.out] at hsl hrow
        obtain ⟨rfl, _, rfl⟩ := Value.slice.inj hsl
        have HRW := Lib.hid hrow
        clear hrow hsl
        obtain ⟨g, hg⟩ : ∃ g, ad.block = g := ⟨_, rfl⟩
        rw [hg] at hbase hab
        have hwr : w.heap.size < wr.heap.size := cell_lt (HK.out.2.1 _ (List.mem_cons_self ..))
        go_wp2
        go_loopw [17] (fun i w' => ∃ (k : Nat) (R : Nat → St), k ≤ n ∧ i = .int .i64 k ∧ Hid (RowE stV 16 w' ad n R) ∧ g < w'.heap.size ∧ KeptC w [(⟨w.heap.size, 0, none⟩, .string s), (⟨w.heap.size, 1, none⟩, .int .i64 e), (⟨w.heap.size, 2, none⟩, .int .i64 m), (⟨w.heap.size, 3, none⟩, .bool al), (⟨w.heap.size, 4, none⟩, .int .i64 k0), (⟨w.heap.size, 5, none⟩, .int .i64 sc)] [] w') (fun i _ => n - (intOf i).toNat)
        case atStart => exact ⟨0, _, Nat.zero_le _, rfl, HRW, hab, HK8.out⟩
        case round =>
          obtain ⟨k, R, hk, rfl, HRR, hgr, hK⟩ := hrel
          by_cases hlt : k < n
          rotate_left
          · obtain rfl : k = n := by omega
            have KK0 := hK
            go_upto_region 21 with (fail)
            refine lay (KeptC w [(⟨w.heap.size, 0, none⟩, .string s), (⟨w.heap.size, 1, none⟩, .int .i64 e), (⟨w.heap.size, 2, none⟩, .int .i64 m), (⟨w.heap.size, 3, none⟩, .bool al), (⟨w.heap.size, 4, none⟩, .int .i64 k0), (⟨w.heap.size, 5, none⟩, .int .i64 sc)] []) KK0 ?_
            intro wt hkt
            have hkt' := hkt
            simp only [KeptC, List.forall_mem_cons] at hkt'
            go_split_ands
            go_region_with (first | ((with_reducible refine (O1.out _ (by first | exact KeptC.low (by with_reducible assumption) | exact KeptC.low (KeptC.drewn (by with_reducible assumption)))).mono ?_); rintro e w9 ⟨rfl, hb9⟩; (first | have hk9 := KeptC.below (by with_reducible assumption) hb9 | have hk9 := KeptC.below (KeptC.drewn (by with_reducible assumption)) hb9); clear hb9; have hk9' := hk9; simp only [KeptC, List.forall_mem_cons] at hk9'; go_split_ands) | ((with_reducible refine (O2.out _ (by first | exact KeptC.low (by with_reducible assumption) | exact KeptC.low (KeptC.drewn (by with_reducible assumption)))).mono ?_); rintro e w9 ⟨rfl, hb9⟩; (first | have hk9 := KeptC.below (by with_reducible assumption) hb9 | have hk9 := KeptC.below (KeptC.drewn (by with_reducible assumption)) hb9); clear hb9; have hk9' := hk9; simp only [KeptC, List.forall_mem_cons] at hk9'; go_split_ands) | ((with_reducible refine (CC.out _ (by first | exact KeptC.low (by with_reducible assumption) | exact KeptC.low (KeptC.drewn (by with_reducible assumption)))).mono ?_); rintro e w9 ⟨lv9, rfl, hown9, hb9⟩; obtain ⟨A9, c9, rfl, hat9⟩ := hown9.at_n HR.out.2 HL.out; have HAT9 := Lib.hid hat9; clear hat9 hown9; (first | have hk9 := KeptC.below (by with_reducible assumption) hb9 | have hk9 := KeptC.below (KeptC.drewn (by with_reducible assumption)) hb9); clear hb9; have hk9' := hk9; simp only [KeptC, List.forall_mem_cons] at hk9'; go_split_ands) | ((with_reducible refine (S3.out A9 c9 _ HAT9.out (by first | exact KeptC.low (by with_reducible assumption) | exact KeptC.low (KeptC.drewn (by with_reducible assumption)))).mono ?_); rintro e w9 ⟨rfl, hb9⟩; (first | have hk9 := KeptC.below (by with_reducible assumption) hb9 | have hk9 := KeptC.below (KeptC.drewn (by with_reducible assumption)) hb9); clear hb9; have hk9' := hk9; simp only [KeptC, List.forall_mem_cons] at hk9'; go_split_ands) | ((with_reducible refine (awake_any _).mono ?_); rintro e w9 ⟨rfl, hb9⟩; (first | have hk9 := KeptC.below (by with_reducible assumption) hb9 | have hk9 := KeptC.below (KeptC.drewn (by with_reducible assumption)) hb9); clear hb9; have hk9' := hk9; simp only [KeptC, List.forall_mem_cons] at hk9'; go_split_ands))
            all_goals (
              go_wp2
              go_ret
              exact ⟨rfl, (by first | exact KeptC.low (by with_reducible assumption) | exact KeptC.low (KeptC.drewn (by with_reducible assumption)))⟩)
          · obtain ⟨hcE, hfE⟩ := HRR.out k hlt
            obtain ⟨o, ho⟩ : ∃ o, ad.off + k * 16 = o := ⟨_, rfl⟩
            have hq : ad.add (k * 16) = ⟨g, o, none⟩ := by rw [addr_eq hsp, hg, ho]
            have h7 := hcE 7 _ rfl
            have f7 := hfE 7 (by omega)
            rw [hq, Addr.add_lit] at h7 f7
            have HQ := Lib.hid hq
            clear hcE hfE ho
            go_wp2
            go_roundw
            case rel =>
              refine ⟨k + 1, _, by omega, by go_num, Lib.hid (by have := row_set stV_len (x := ⟨(R k).ch, (R k).has, 77, (R k).mn, (R k).mx⟩) (v := .int .i64 77) HRR.out hlt (i0 := 7) (by omega) rfl; rw [HQ.out, Addr.add_lit] at this; exact this), by simp; omega, KeptC.set1 hK (by omega) (fun a ha => by simp only [List.mem_cons, List.not_mem_nil, or_false] at ha; rcases ha with rfl | rfl | rfl | rfl | rfl | rfl <;> (simp; omega))⟩
            case measure => simp [intOf]; omega
theorem chansFinds_lifted (os : Os) (started : os.Started) (H : Type) (enc : TypeId × Value → H) :
    ReturnsInHanded {} Try.checked os 4 .any (Rows.chansFindsSpec.pre6 enc Try.prog Try.f4 Rows.chansFindsRow.domain false) (Rows.chansFindsSpec.post enc Try.prog Try.f4 false true false false) := by
  refine returnsInHanded_of_change_sized (C := Try.checked) own started (by kernel_rfl) Try.func4
    (ChangeSpec.witness6 (enc := enc) (C := Try.checked) false ⟨#[], #[.int .i64 0, .slice none 0 0, .string ⟨#[]⟩, .agg #[.string ⟨#[]⟩, .int .i64 0, .int .i64 0, .bool false, .int .i64 0, .int .i64 0]], []⟩ 8 (by kernel_rfl) (by kernel_rfl) (by kernel_rfl) (by kernel_rfl)) ?_
  intro W base args ds gs before hval hW _ hsz _
  have hW' := hW
  obtain ⟨p, q, hA, hV, rfl, hfz, hnd⟩ := hW
  obtain ⟨rfl, rfl⟩ := trodVars_none hV
  rw [Try.params4] at hA hval
  obtain ⟨v0, vs0, d0, ds0, p0, q0, hargs, rfl, rfl, h0, r0⟩ := trodAll_cons hA
  obtain ⟨v1, vs1, d1, ds1, p1, q1, rfl, rfl, rfl, h1, r1⟩ := trodAll_cons r0
  obtain ⟨v2, vs2, d2, ds2, p2, q2, rfl, rfl, rfl, h2, r2⟩ := trodAll_cons r1
  obtain ⟨v3, vs3, d3, ds3, p3, q3, rfl, rfl, rfl, h3, r3⟩ := trodAll_cons r2
  obtain ⟨rfl, rfl, rfl⟩ := trodAll_nil r3
  obtain rfl : args = #[v0, v1, v2, v3] := by cases args; simp_all
  obtain ⟨id, rfl, _, _, _⟩ := open_int Try.underlying3 (hval 0 _ v0 rfl rfl) h0
  obtain ⟨A, n, cp, rs, rfl, _, hr, hds⟩ := open_states (hval 1 _ v1 rfl rfl) h1
  obtain ⟨nm, rfl, _, _, wx⟩ := open_string Try.underlying9 (hval 2 _ v2 rfl rfl) h2
  obtain ⟨s, e, m, al, k0, sc, rfl, ws⟩ := open_chan (hval 3 _ v3 rfl rfl) h3
  refine (chansFinds_any id A n cp rs nm s e m al k0 sc W ws hr (small_states hsz (j := 1) rfl rfl hds)).mono fun e W' ⟨he, hg⟩ => ?_
  subst he
  exact ⟨_, rfl, law_post laidOut rfl (by kernel_rfl) rfl Try.underlying4 rfl hW' hg⟩

theorem chansFinds_holds : Rows.ChansFindsSaid :=
  OpenClaim.holds_of_wide 4 Try.f4 rfl rfl rfl rfl rfl rfl rfl ⟨rfl, rfl, rfl, rfl, rfl⟩ rfl rfl rfl rfl rfl (by kernel_rfl) Try.func4 (by kernel_rfl)
    (of_decide_eq_true (by kernel_rfl)) (by unfold Func.isWrapper; first | (rw [if_pos (by decide +kernel)]; kernel_rfl) | (rw [if_neg (by decide +kernel)]; exact ⟨rfl, rfl⟩))
    (fun os started H enc _ => chansFinds_lifted os started H enc)

end Go.Proofs.Ytfihkkamedghkaa
