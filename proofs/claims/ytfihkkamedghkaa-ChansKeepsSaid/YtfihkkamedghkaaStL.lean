/- Learn, Create and Delete of chans and of its reference: what each call computes, for fit states. -/
import Derived.Test.YtfihkkamedghkaaStM
import Derived.Test.YtfihkkamedghkaaStG
import Derived.Test.YtfihkkamedghkaaDirR
namespace Go.Proofs.Ytfihkkamedghkaa
open Go.RowKit
set_option linter.unusedVariables false
theorem putF_names {c : Ch} {ls : List St} (hs : Srt (ls.map St.ch)) (hc : c.name.size ≤ maxLen) (h : ∀ x ∈ ls, x.ch.name.size ≤ maxLen) : ∀ x ∈ putF c (ls.map St.ch), x.name.size ≤ maxLen := by
  intro x hx
  rcases (putF_mem c hs x).1 hx with rfl | ⟨hx, _⟩
  · exact hc
  · obtain ⟨y, hy, rfl⟩ := List.mem_map.1 hx
    exact h y hy
theorem putF_few {c : Ch} {L : List Ch} (h : fitsB L = true) : (putF c L).length ≤ 1000 := by
  have := putF_len_le c (srt_of_fits h)
  have := (fit_of_fits h).1
  omega
set_option maxRecDepth 100000 in
set_option maxHeartbeats 8000000 in
theorem screate_any (A : Option Addr) (n cp : Nat) (rs : List St) (id : Int) (nm : ByteArray) (k sc : Int) (w : World) (hnz : nm.size ≤ maxLen) (hr : StsAt w w.heap.size A n rs) (hft : fitsB (rs.map St.ch) = true) (hm : n * 136 ≤ 140737488351232) :
    Calls Try.prog 12 #[.slice A n cp, .int .i64 id, .string nm, .int .i64 k, .int .i64 sc] w fun x w' => ∃ lv, x = .returned (.tuple #[lv, .int .i64 (stCre rs id nm k sc).2]) ∧ OwnS w' w.heap.size lv (stCre rs id nm k sc).1 ∧ Below w.heap.size w w' := by
  have HR := Lib.hid hr
  clear hr
  have HFT := Lib.hid hft
  have hsr := srt_of_fits hft
  have HSR := Lib.hid hsr
  have hnm : ∀ x ∈ rs.map St.ch, x.name.size ≤ maxLen := by
    intro x hx
    obtain ⟨y, hy, rfl⟩ := List.mem_map.1 hx
    exact HR.out.2 y hy
  have HNM := Lib.hid hnm
  clear hnm
  have cr := fun W (hb : Below w.heap.size w W) => records_any A n cp rs W ((HR.out.below hb).more hb.size) hm
  have CR := Lib.hid cr
  clear cr
  have cc := fun W (hb : Below w.heap.size w W) => scopy_any A n cp rs W ((HR.out.below hb).more hb.size) hm
  have CC := Lib.hid cc
  clear cc
  by_cases he : creE (rs.map St.ch) nm k sc = 0
  · have HRES : Hid (stCre rs id nm k sc = (stPut (creC (rs.map St.ch) id nm k sc) rs, 0)) := Lib.hid (by unfold stCre; rw [if_pos he])
    have HSZ : Hid (∀ x ∈ putF (creC (rs.map St.ch) id nm k sc) (rs.map St.ch), x.name.size ≤ maxLen) := Lib.hid (putF_names hsr hnz HR.out.2)
    have HEQ : Hid ((putF (creC (rs.map St.ch) id nm k sc) (rs.map St.ch)).map (anewS rs nm) = stPut (creC (rs.map St.ch) id nm k sc) rs) := Lib.hid (anew_put hsr (rfl))
    have HE := Lib.hid he
    have HOK : Hid (creL (rs.map St.ch) id nm k sc = putF (creC (rs.map St.ch) id nm k sc) (rs.map St.ch)) := Lib.hid (by rw [creL_ok he])
    have hfew : (putF (creC (rs.map St.ch) id nm k sc) (rs.map St.ch)).length ≤ 1000 := putF_few hft
    generalize creC (rs.map St.ch) id nm k sc = C at *
    clear hft hsr he
    go_enter Try.func12, Try.ntmps12
    go_wp2_with (fail)
    refine (CR.out _ (by repeat (first | with_reducible refine Below.setCell ?_ (by first | (simp; done) | (simp; omega) | omega) _ | with_reducible refine Below.alloc ?_ (by first | (simp; done) | (simp; omega) | omega) _ | with_reducible refine Below.drew ?_ | with_reducible refine below_drewN ?_ _ | with_reducible exact Below.refl _ _))).mono ?_; rintro e w1 ⟨lv, rfl, hown, hb1⟩
    obtain ⟨A1, c1, rfl, hat⟩ := hown.at_ HNM.out
    obtain ⟨n1, hn1⟩ : ∃ n1, (rs.map St.ch).length = n1 := ⟨_, rfl⟩
    rw [hn1] at hat
    rw [hn1]
    clear hn1
    have c2 := fun W (hb : Below w1.heap.size w1 W) => create_any A1 n1 c1 (rs.map St.ch) id nm k sc W ((hat.below hb).more hb.size) HFT.out
    rw [HOK.out, HE.out] at c2
    have C2 := Lib.hid c2
    clear c2 hat hown
    have hz1 := hb1.size
    go_wp2_with (fail)
    refine (C2.out _ (by repeat (first | with_reducible refine Below.setCell ?_ (by first | (simp; done) | (simp; omega) | omega) _ | with_reducible refine Below.alloc ?_ (by first | (simp; done) | (simp; omega) | omega) _ | with_reducible refine Below.drew ?_ | with_reducible refine below_drewN ?_ _ | with_reducible exact Below.refl _ _))).mono ?_; rintro e w2 ⟨lv2, rfl, hown2, hb2⟩
    obtain ⟨A2, c2, rfl, hat2⟩ := hown2.at_ HSZ.out
    obtain ⟨n2, hn2⟩ : ∃ n2, (putF C (rs.map St.ch)).length = n2 := ⟨_, rfl⟩
    rw [hn2] at hat2 hfew
    rw [hn2]
    clear hn2
    have hz2 := hb2.size
    have kb2 : Below w.heap.size w w2 := (by repeat (first | with_reducible refine Below.setCell ?_ (by first | (simp; done) | (simp; omega) | omega) _ | with_reducible refine Below.alloc ?_ (by first | (simp; done) | (simp; omega) | omega) _ | with_reducible refine Below.drew ?_ | with_reducible refine below_drewN ?_ _ | with_reducible exact Below.refl _ _ | with_reducible refine Below.trans ?_ (Below.mono hb2 (by first | (simp; done) | (simp; omega) | omega)) | with_reducible refine Below.trans ?_ (Below.mono hb1 (by first | (simp; done) | (simp; omega) | omega))))
    clear C2 hb2 hb1 hown2
    have c3 := fun W (hb : Below w2.heap.size w2 W) => anew_any A n cp rs A2 n2 c2 (putF C (rs.map St.ch)) nm W ((HR.out.below (kb2.trans (hb.mono kb2.size))).more (kb2.trans (hb.mono kb2.size)).size) hm ((hat2.below hb).more hb.size) hfew
    rw [HEQ.out] at c3
    have C3 := Lib.hid c3
    clear c3 hat2
    go_wp2_with (fail)
    refine (C3.out _ (by repeat (first | with_reducible refine Below.setCell ?_ (by first | (simp; done) | (simp; omega) | omega) _ | with_reducible refine Below.alloc ?_ (by first | (simp; done) | (simp; omega) | omega) _ | with_reducible refine Below.drew ?_ | with_reducible refine below_drewN ?_ _ | with_reducible exact Below.refl _ _))).mono ?_; rintro e w3 ⟨lv3, rfl, hown3, hb3⟩
    have hz3 := kb2.size
    go_wp2
    refine bodyPost_ret (v := .tuple #[lv3, .int .i64 0]) (by simp [results, Try.results12, go_sem, *]) rfl ⟨_, by rw [HRES.out], by rw [HRES.out]; exact OwnS.less hown3 hz3, (by repeat (first | with_reducible refine Below.setCell ?_ (by first | (simp; done) | (simp; omega) | omega) _ | with_reducible refine Below.alloc ?_ (by first | (simp; done) | (simp; omega) | omega) _ | with_reducible refine Below.drew ?_ | with_reducible refine below_drewN ?_ _ | with_reducible exact Below.refl _ _ | with_reducible refine Below.trans ?_ (Below.mono hb3 (by first | (simp; done) | (simp; omega) | omega)) | with_reducible refine Below.trans ?_ (Below.mono kb2 (by first | (simp; done) | (simp; omega) | omega))))⟩
  · have HRES : Hid (stCre rs id nm k sc = (rs, creE (rs.map St.ch) nm k sc)) := Lib.hid (by unfold stCre; rw [if_neg he])
    have HNO : Hid (creL (rs.map St.ch) id nm k sc = rs.map St.ch) := Lib.hid (creL_no rfl he)
    obtain ⟨er, her⟩ : ∃ er, creE (rs.map St.ch) nm k sc = er := ⟨_, rfl⟩
    rw [her] at HRES
    have hnb : (er != 0) = true := by rw [← her]; simpa using he
    have HER := Lib.hid her
    clear hft hsr he her
    go_enter Try.func12, Try.ntmps12
    go_wp2_with (fail)
    refine (CR.out _ (by repeat (first | with_reducible refine Below.setCell ?_ (by first | (simp; done) | (simp; omega) | omega) _ | with_reducible refine Below.alloc ?_ (by first | (simp; done) | (simp; omega) | omega) _ | with_reducible refine Below.drew ?_ | with_reducible refine below_drewN ?_ _ | with_reducible exact Below.refl _ _))).mono ?_; rintro e w1 ⟨lv, rfl, hown, hb1⟩
    obtain ⟨A1, c1, rfl, hat⟩ := hown.at_ HNM.out
    obtain ⟨n1, hn1⟩ : ∃ n1, (rs.map St.ch).length = n1 := ⟨_, rfl⟩
    rw [hn1] at hat
    rw [hn1]
    clear hn1
    have c2 := fun W (hb : Below w1.heap.size w1 W) => create_any A1 n1 c1 (rs.map St.ch) id nm k sc W ((hat.below hb).more hb.size) HFT.out
    rw [HNO.out, HER.out] at c2
    have C2 := Lib.hid c2
    clear c2 hat hown
    have hz1 := hb1.size
    go_wp2_with (fail)
    refine (C2.out _ (by repeat (first | with_reducible refine Below.setCell ?_ (by first | (simp; done) | (simp; omega) | omega) _ | with_reducible refine Below.alloc ?_ (by first | (simp; done) | (simp; omega) | omega) _ | with_reducible refine Below.drew ?_ | with_reducible refine below_drewN ?_ _ | with_reducible exact Below.refl _ _))).mono ?_; rintro e w2 ⟨lv2, rfl, hown2, hb2⟩
    have hz2 := hb2.size
    have kb2 : Below w.heap.size w w2 := (by repeat (first | with_reducible refine Below.setCell ?_ (by first | (simp; done) | (simp; omega) | omega) _ | with_reducible refine Below.alloc ?_ (by first | (simp; done) | (simp; omega) | omega) _ | with_reducible refine Below.drew ?_ | with_reducible refine below_drewN ?_ _ | with_reducible exact Below.refl _ _ | with_reducible refine Below.trans ?_ (Below.mono hb2 (by first | (simp; done) | (simp; omega) | omega)) | with_reducible refine Below.trans ?_ (Below.mono hb1 (by first | (simp; done) | (simp; omega) | omega))))
    obtain ⟨A2, c2, rfl⟩ := row_slice hown2
    clear C2 hb2 hb1 hown2
    go_wp2_with (fail)
    refine (CC.out _ (by repeat (first | with_reducible refine Below.setCell ?_ (by first | (simp; done) | (simp; omega) | omega) _ | with_reducible refine Below.alloc ?_ (by first | (simp; done) | (simp; omega) | omega) _ | with_reducible refine Below.drew ?_ | with_reducible refine below_drewN ?_ _ | with_reducible exact Below.refl _ _ | with_reducible refine Below.trans ?_ (Below.mono kb2 (by first | (simp; done) | (simp; omega) | omega))))).mono ?_; rintro e w3 ⟨lv3, rfl, hown3, hb3⟩
    have hz3 := kb2.size
    go_wp2
    refine bodyPost_ret (v := .tuple #[lv3, .int .i64 er]) (by simp [results, Try.results12, go_sem, *]) rfl ⟨_, by rw [HRES.out], by rw [HRES.out]; exact OwnS.less hown3 hz3, (by repeat (first | with_reducible refine Below.setCell ?_ (by first | (simp; done) | (simp; omega) | omega) _ | with_reducible refine Below.alloc ?_ (by first | (simp; done) | (simp; omega) | omega) _ | with_reducible refine Below.drew ?_ | with_reducible refine below_drewN ?_ _ | with_reducible exact Below.refl _ _ | with_reducible refine Below.trans ?_ (Below.mono hb3 (by first | (simp; done) | (simp; omega) | omega)) | with_reducible refine Below.trans ?_ (Below.mono kb2 (by first | (simp; done) | (simp; omega) | omega))))⟩
set_option maxRecDepth 100000 in
set_option maxHeartbeats 8000000 in
theorem srcreate_any (A : Option Addr) (n cp : Nat) (rs : List St) (id : Int) (nm : ByteArray) (k sc : Int) (w : World) (hnz : nm.size ≤ maxLen) (hr : StsAt w w.heap.size A n rs) (hft : fitsB (rs.map St.ch) = true) (hm : n * 136 ≤ 140737488351232) :
    Calls Try.prog 13 #[.slice A n cp, .int .i64 id, .string nm, .int .i64 k, .int .i64 sc] w fun x w' => ∃ lv, x = .returned (.tuple #[lv, .int .i64 (stCre rs id nm k sc).2]) ∧ OwnS w' w.heap.size lv (stCre rs id nm k sc).1 ∧ Below w.heap.size w w' := by
  have HR := Lib.hid hr
  clear hr
  have HFT := Lib.hid hft
  have hsr := srt_of_fits hft
  have HSR := Lib.hid hsr
  have hnm : ∀ x ∈ rs.map St.ch, x.name.size ≤ maxLen := by
    intro x hx
    obtain ⟨y, hy, rfl⟩ := List.mem_map.1 hx
    exact HR.out.2 y hy
  have HNM := Lib.hid hnm
  clear hnm
  have cr := fun W (hb : Below w.heap.size w W) => rrecords_any A n cp rs W ((HR.out.below hb).more hb.size) hm
  have CR := Lib.hid cr
  clear cr
  have cc := fun W (hb : Below w.heap.size w W) => srcopy_any A n cp rs W ((HR.out.below hb).more hb.size) hm
  have CC := Lib.hid cc
  clear cc
  by_cases he : creE (rs.map St.ch) nm k sc = 0
  · have HRES : Hid (stCre rs id nm k sc = (stPut (creC (rs.map St.ch) id nm k sc) rs, 0)) := Lib.hid (by unfold stCre; rw [if_pos he])
    have HSZ : Hid (∀ x ∈ putF (creC (rs.map St.ch) id nm k sc) (rs.map St.ch), x.name.size ≤ maxLen) := Lib.hid (putF_names hsr hnz HR.out.2)
    have HEQ : Hid ((putF (creC (rs.map St.ch) id nm k sc) (rs.map St.ch)).map (begunS rs) = stPut (creC (rs.map St.ch) id nm k sc) rs) := Lib.hid (begun_put hsr (cre_new hsr))
    have HE := Lib.hid he
    have HOK : Hid (creL (rs.map St.ch) id nm k sc = putF (creC (rs.map St.ch) id nm k sc) (rs.map St.ch)) := Lib.hid (by rw [creL_ok he])
    have hfew : (putF (creC (rs.map St.ch) id nm k sc) (rs.map St.ch)).length ≤ 1000 := putF_few hft
    generalize creC (rs.map St.ch) id nm k sc = C at *
    clear hft hsr he
    go_enter Try.func13, Try.ntmps13
    go_wp2_with (fail)
    refine (CR.out _ (by repeat (first | with_reducible refine Below.setCell ?_ (by first | (simp; done) | (simp; omega) | omega) _ | with_reducible refine Below.alloc ?_ (by first | (simp; done) | (simp; omega) | omega) _ | with_reducible refine Below.drew ?_ | with_reducible refine below_drewN ?_ _ | with_reducible exact Below.refl _ _))).mono ?_; rintro e w1 ⟨lv, rfl, hown, hb1⟩
    obtain ⟨A1, c1, rfl, hat⟩ := hown.at_ HNM.out
    obtain ⟨n1, hn1⟩ : ∃ n1, (rs.map St.ch).length = n1 := ⟨_, rfl⟩
    rw [hn1] at hat
    rw [hn1]
    clear hn1
    have c2 := fun W (hb : Below w1.heap.size w1 W) => rcreate_any A1 n1 c1 (rs.map St.ch) id nm k sc W hnz ((hat.below hb).more hb.size) HFT.out
    rw [HOK.out, HE.out] at c2
    have C2 := Lib.hid c2
    clear c2 hat hown
    have hz1 := hb1.size
    go_wp2_with (fail)
    refine (C2.out _ (by repeat (first | with_reducible refine Below.setCell ?_ (by first | (simp; done) | (simp; omega) | omega) _ | with_reducible refine Below.alloc ?_ (by first | (simp; done) | (simp; omega) | omega) _ | with_reducible refine Below.drew ?_ | with_reducible refine below_drewN ?_ _ | with_reducible exact Below.refl _ _))).mono ?_; rintro e w2 ⟨lv2, rfl, hown2, hb2⟩
    obtain ⟨A2, c2, rfl, hat2⟩ := hown2.at_ HSZ.out
    obtain ⟨n2, hn2⟩ : ∃ n2, (putF C (rs.map St.ch)).length = n2 := ⟨_, rfl⟩
    rw [hn2] at hat2 hfew
    rw [hn2]
    clear hn2
    have hz2 := hb2.size
    have kb2 : Below w.heap.size w w2 := (by repeat (first | with_reducible refine Below.setCell ?_ (by first | (simp; done) | (simp; omega) | omega) _ | with_reducible refine Below.alloc ?_ (by first | (simp; done) | (simp; omega) | omega) _ | with_reducible refine Below.drew ?_ | with_reducible refine below_drewN ?_ _ | with_reducible exact Below.refl _ _ | with_reducible refine Below.trans ?_ (Below.mono hb2 (by first | (simp; done) | (simp; omega) | omega)) | with_reducible refine Below.trans ?_ (Below.mono hb1 (by first | (simp; done) | (simp; omega) | omega))))
    clear C2 hb2 hb1 hown2
    have c3 := fun W (hb : Below w2.heap.size w2 W) => begun_any A n cp rs A2 n2 c2 (putF C (rs.map St.ch)) W ((HR.out.below (kb2.trans (hb.mono kb2.size))).more (kb2.trans (hb.mono kb2.size)).size) hm ((hat2.below hb).more hb.size) hfew
    rw [HEQ.out] at c3
    have C3 := Lib.hid c3
    clear c3 hat2
    go_wp2_with (fail)
    refine (C3.out _ (by repeat (first | with_reducible refine Below.setCell ?_ (by first | (simp; done) | (simp; omega) | omega) _ | with_reducible refine Below.alloc ?_ (by first | (simp; done) | (simp; omega) | omega) _ | with_reducible refine Below.drew ?_ | with_reducible refine below_drewN ?_ _ | with_reducible exact Below.refl _ _))).mono ?_; rintro e w3 ⟨lv3, rfl, hown3, hb3⟩
    have hz3 := kb2.size
    go_wp2
    refine bodyPost_ret (v := .tuple #[lv3, .int .i64 0]) (by simp [results, Try.results13, go_sem, *]) rfl ⟨_, by rw [HRES.out], by rw [HRES.out]; exact OwnS.less hown3 hz3, (by repeat (first | with_reducible refine Below.setCell ?_ (by first | (simp; done) | (simp; omega) | omega) _ | with_reducible refine Below.alloc ?_ (by first | (simp; done) | (simp; omega) | omega) _ | with_reducible refine Below.drew ?_ | with_reducible refine below_drewN ?_ _ | with_reducible exact Below.refl _ _ | with_reducible refine Below.trans ?_ (Below.mono hb3 (by first | (simp; done) | (simp; omega) | omega)) | with_reducible refine Below.trans ?_ (Below.mono kb2 (by first | (simp; done) | (simp; omega) | omega))))⟩
  · have HRES : Hid (stCre rs id nm k sc = (rs, creE (rs.map St.ch) nm k sc)) := Lib.hid (by unfold stCre; rw [if_neg he])
    have HNO : Hid (creL (rs.map St.ch) id nm k sc = rs.map St.ch) := Lib.hid (creL_no rfl he)
    obtain ⟨er, her⟩ : ∃ er, creE (rs.map St.ch) nm k sc = er := ⟨_, rfl⟩
    rw [her] at HRES
    have hnb : (er != 0) = true := by rw [← her]; simpa using he
    have HER := Lib.hid her
    clear hft hsr he her
    go_enter Try.func13, Try.ntmps13
    go_wp2_with (fail)
    refine (CR.out _ (by repeat (first | with_reducible refine Below.setCell ?_ (by first | (simp; done) | (simp; omega) | omega) _ | with_reducible refine Below.alloc ?_ (by first | (simp; done) | (simp; omega) | omega) _ | with_reducible refine Below.drew ?_ | with_reducible refine below_drewN ?_ _ | with_reducible exact Below.refl _ _))).mono ?_; rintro e w1 ⟨lv, rfl, hown, hb1⟩
    obtain ⟨A1, c1, rfl, hat⟩ := hown.at_ HNM.out
    obtain ⟨n1, hn1⟩ : ∃ n1, (rs.map St.ch).length = n1 := ⟨_, rfl⟩
    rw [hn1] at hat
    rw [hn1]
    clear hn1
    have c2 := fun W (hb : Below w1.heap.size w1 W) => rcreate_any A1 n1 c1 (rs.map St.ch) id nm k sc W hnz ((hat.below hb).more hb.size) HFT.out
    rw [HNO.out, HER.out] at c2
    have C2 := Lib.hid c2
    clear c2 hat hown
    have hz1 := hb1.size
    go_wp2_with (fail)
    refine (C2.out _ (by repeat (first | with_reducible refine Below.setCell ?_ (by first | (simp; done) | (simp; omega) | omega) _ | with_reducible refine Below.alloc ?_ (by first | (simp; done) | (simp; omega) | omega) _ | with_reducible refine Below.drew ?_ | with_reducible refine below_drewN ?_ _ | with_reducible exact Below.refl _ _))).mono ?_; rintro e w2 ⟨lv2, rfl, hown2, hb2⟩
    have hz2 := hb2.size
    have kb2 : Below w.heap.size w w2 := (by repeat (first | with_reducible refine Below.setCell ?_ (by first | (simp; done) | (simp; omega) | omega) _ | with_reducible refine Below.alloc ?_ (by first | (simp; done) | (simp; omega) | omega) _ | with_reducible refine Below.drew ?_ | with_reducible refine below_drewN ?_ _ | with_reducible exact Below.refl _ _ | with_reducible refine Below.trans ?_ (Below.mono hb2 (by first | (simp; done) | (simp; omega) | omega)) | with_reducible refine Below.trans ?_ (Below.mono hb1 (by first | (simp; done) | (simp; omega) | omega))))
    obtain ⟨A2, c2, rfl⟩ := row_slice hown2
    clear C2 hb2 hb1 hown2
    go_wp2_with (fail)
    refine (CC.out _ (by repeat (first | with_reducible refine Below.setCell ?_ (by first | (simp; done) | (simp; omega) | omega) _ | with_reducible refine Below.alloc ?_ (by first | (simp; done) | (simp; omega) | omega) _ | with_reducible refine Below.drew ?_ | with_reducible refine below_drewN ?_ _ | with_reducible exact Below.refl _ _ | with_reducible refine Below.trans ?_ (Below.mono kb2 (by first | (simp; done) | (simp; omega) | omega))))).mono ?_; rintro e w3 ⟨lv3, rfl, hown3, hb3⟩
    have hz3 := kb2.size
    go_wp2
    refine bodyPost_ret (v := .tuple #[lv3, .int .i64 er]) (by simp [results, Try.results13, go_sem, *]) rfl ⟨_, by rw [HRES.out], by rw [HRES.out]; exact OwnS.less hown3 hz3, (by repeat (first | with_reducible refine Below.setCell ?_ (by first | (simp; done) | (simp; omega) | omega) _ | with_reducible refine Below.alloc ?_ (by first | (simp; done) | (simp; omega) | omega) _ | with_reducible refine Below.drew ?_ | with_reducible refine below_drewN ?_ _ | with_reducible exact Below.refl _ _ | with_reducible refine Below.trans ?_ (Below.mono hb3 (by first | (simp; done) | (simp; omega) | omega)) | with_reducible refine Below.trans ?_ (Below.mono kb2 (by first | (simp; done) | (simp; omega) | omega))))⟩
set_option maxRecDepth 100000 in
set_option maxHeartbeats 8000000 in
theorem sdelete_any (A : Option Addr) (n cp : Nat) (rs : List St) (id : Int) (nm : ByteArray) (w : World) (hnz : nm.size ≤ maxLen) (hr : StsAt w w.heap.size A n rs) (hft : fitsB (rs.map St.ch) = true) (hm : n * 136 ≤ 140737488351232) :
    Calls Try.prog 15 #[.slice A n cp, .int .i64 id, .string nm] w fun x w' => ∃ lv, x = .returned (.tuple #[lv, .int .i64 (stDel rs id nm).2]) ∧ OwnS w' w.heap.size lv (stDel rs id nm).1 ∧ Below w.heap.size w w' := by
  have HR := Lib.hid hr
  clear hr
  have HFT := Lib.hid hft
  have hsr := srt_of_fits hft
  have HSR := Lib.hid hsr
  have hnm : ∀ x ∈ rs.map St.ch, x.name.size ≤ maxLen := by
    intro x hx
    obtain ⟨y, hy, rfl⟩ := List.mem_map.1 hx
    exact HR.out.2 y hy
  have HNM := Lib.hid hnm
  clear hnm
  have cr := fun W (hb : Below w.heap.size w W) => records_any A n cp rs W ((HR.out.below hb).more hb.size) hm
  have CR := Lib.hid cr
  clear cr
  have cc := fun W (hb : Below w.heap.size w W) => scopy_any A n cp rs W ((HR.out.below hb).more hb.size) hm
  have CC := Lib.hid cc
  clear cc
  by_cases he : delE (rs.map St.ch) nm = 0
  · have HRES : Hid (stDel rs id nm = (stPut (delC ((findL (rs.map St.ch) nm).getD Ch0) id) rs, 0)) := Lib.hid (by unfold stDel; rw [if_pos he])
    obtain ⟨o, hfo, hom, hon⟩ := del_some he
    have hCC : delC o id = delC ((findL (rs.map St.ch) nm).getD Ch0) id := by rw [hfo]; rfl
    have HSZ : Hid (∀ x ∈ putF (delC ((findL (rs.map St.ch) nm).getD Ch0) id) (rs.map St.ch), x.name.size ≤ maxLen) := Lib.hid (putF_names hsr (by obtain ⟨y, hy, hyo⟩ := List.mem_map.1 hom; rw [hfo]; show (delC o id).name.size ≤ maxLen; show o.name.size ≤ maxLen; rw [← hyo]; exact HR.out.2 y hy) HR.out.2)
    have HEQ : Hid ((putF (delC ((findL (rs.map St.ch) nm).getD Ch0) id) (rs.map St.ch)).map (anewS rs nm) = stPut (delC ((findL (rs.map St.ch) nm).getD Ch0) id) rs) := Lib.hid (anew_put hsr ((by rw [hfo]; exact hon)))
    have HE := Lib.hid he
    have HOK : Hid (delL (rs.map St.ch) id nm = putF (delC ((findL (rs.map St.ch) nm).getD Ch0) id) (rs.map St.ch)) := Lib.hid (by rw [delL_ok hfo he, hCC])
    have hfew : (putF (delC ((findL (rs.map St.ch) nm).getD Ch0) id) (rs.map St.ch)).length ≤ 1000 := putF_few hft
    generalize delC ((findL (rs.map St.ch) nm).getD Ch0) id = C at *
    clear hft hsr he hfo hom hon hCC
    go_enter Try.func15, Try.ntmps15
    go_wp2_with (fail)
    refine (CR.out _ (by repeat (first | with_reducible refine Below.setCell ?_ (by first | (simp; done) | (simp; omega) | omega) _ | with_reducible refine Below.alloc ?_ (by first | (simp; done) | (simp; omega) | omega) _ | with_reducible refine Below.drew ?_ | with_reducible refine below_drewN ?_ _ | with_reducible exact Below.refl _ _))).mono ?_; rintro e w1 ⟨lv, rfl, hown, hb1⟩
    obtain ⟨A1, c1, rfl, hat⟩ := hown.at_ HNM.out
    obtain ⟨n1, hn1⟩ : ∃ n1, (rs.map St.ch).length = n1 := ⟨_, rfl⟩
    rw [hn1] at hat
    rw [hn1]
    clear hn1
    have c2 := fun W (hb : Below w1.heap.size w1 W) => delete_any A1 n1 c1 (rs.map St.ch) id nm W ((hat.below hb).more hb.size) HFT.out
    rw [HOK.out, HE.out] at c2
    have C2 := Lib.hid c2
    clear c2 hat hown
    have hz1 := hb1.size
    go_wp2_with (fail)
    refine (C2.out _ (by repeat (first | with_reducible refine Below.setCell ?_ (by first | (simp; done) | (simp; omega) | omega) _ | with_reducible refine Below.alloc ?_ (by first | (simp; done) | (simp; omega) | omega) _ | with_reducible refine Below.drew ?_ | with_reducible refine below_drewN ?_ _ | with_reducible exact Below.refl _ _))).mono ?_; rintro e w2 ⟨lv2, rfl, hown2, hb2⟩
    obtain ⟨A2, c2, rfl, hat2⟩ := hown2.at_ HSZ.out
    obtain ⟨n2, hn2⟩ : ∃ n2, (putF C (rs.map St.ch)).length = n2 := ⟨_, rfl⟩
    rw [hn2] at hat2 hfew
    rw [hn2]
    clear hn2
    have hz2 := hb2.size
    have kb2 : Below w.heap.size w w2 := (by repeat (first | with_reducible refine Below.setCell ?_ (by first | (simp; done) | (simp; omega) | omega) _ | with_reducible refine Below.alloc ?_ (by first | (simp; done) | (simp; omega) | omega) _ | with_reducible refine Below.drew ?_ | with_reducible refine below_drewN ?_ _ | with_reducible exact Below.refl _ _ | with_reducible refine Below.trans ?_ (Below.mono hb2 (by first | (simp; done) | (simp; omega) | omega)) | with_reducible refine Below.trans ?_ (Below.mono hb1 (by first | (simp; done) | (simp; omega) | omega))))
    clear C2 hb2 hb1 hown2
    have c3 := fun W (hb : Below w2.heap.size w2 W) => anew_any A n cp rs A2 n2 c2 (putF C (rs.map St.ch)) nm W ((HR.out.below (kb2.trans (hb.mono kb2.size))).more (kb2.trans (hb.mono kb2.size)).size) hm ((hat2.below hb).more hb.size) hfew
    rw [HEQ.out] at c3
    have C3 := Lib.hid c3
    clear c3 hat2
    go_wp2_with (fail)
    refine (C3.out _ (by repeat (first | with_reducible refine Below.setCell ?_ (by first | (simp; done) | (simp; omega) | omega) _ | with_reducible refine Below.alloc ?_ (by first | (simp; done) | (simp; omega) | omega) _ | with_reducible refine Below.drew ?_ | with_reducible refine below_drewN ?_ _ | with_reducible exact Below.refl _ _))).mono ?_; rintro e w3 ⟨lv3, rfl, hown3, hb3⟩
    have hz3 := kb2.size
    go_wp2
    refine bodyPost_ret (v := .tuple #[lv3, .int .i64 0]) (by simp [results, Try.results15, go_sem, *]) rfl ⟨_, by rw [HRES.out], by rw [HRES.out]; exact OwnS.less hown3 hz3, (by repeat (first | with_reducible refine Below.setCell ?_ (by first | (simp; done) | (simp; omega) | omega) _ | with_reducible refine Below.alloc ?_ (by first | (simp; done) | (simp; omega) | omega) _ | with_reducible refine Below.drew ?_ | with_reducible refine below_drewN ?_ _ | with_reducible exact Below.refl _ _ | with_reducible refine Below.trans ?_ (Below.mono hb3 (by first | (simp; done) | (simp; omega) | omega)) | with_reducible refine Below.trans ?_ (Below.mono kb2 (by first | (simp; done) | (simp; omega) | omega))))⟩
  · have HRES : Hid (stDel rs id nm = (rs, delE (rs.map St.ch) nm)) := Lib.hid (by unfold stDel; rw [if_neg he])
    have HNO : Hid (delL (rs.map St.ch) id nm = rs.map St.ch) := Lib.hid (delL_no rfl he)
    obtain ⟨er, her⟩ : ∃ er, delE (rs.map St.ch) nm = er := ⟨_, rfl⟩
    rw [her] at HRES
    have hnb : (er != 0) = true := by rw [← her]; simpa using he
    have HER := Lib.hid her
    clear hft hsr he her
    go_enter Try.func15, Try.ntmps15
    go_wp2_with (fail)
    refine (CR.out _ (by repeat (first | with_reducible refine Below.setCell ?_ (by first | (simp; done) | (simp; omega) | omega) _ | with_reducible refine Below.alloc ?_ (by first | (simp; done) | (simp; omega) | omega) _ | with_reducible refine Below.drew ?_ | with_reducible refine below_drewN ?_ _ | with_reducible exact Below.refl _ _))).mono ?_; rintro e w1 ⟨lv, rfl, hown, hb1⟩
    obtain ⟨A1, c1, rfl, hat⟩ := hown.at_ HNM.out
    obtain ⟨n1, hn1⟩ : ∃ n1, (rs.map St.ch).length = n1 := ⟨_, rfl⟩
    rw [hn1] at hat
    rw [hn1]
    clear hn1
    have c2 := fun W (hb : Below w1.heap.size w1 W) => delete_any A1 n1 c1 (rs.map St.ch) id nm W ((hat.below hb).more hb.size) HFT.out
    rw [HNO.out, HER.out] at c2
    have C2 := Lib.hid c2
    clear c2 hat hown
    have hz1 := hb1.size
    go_wp2_with (fail)
    refine (C2.out _ (by repeat (first | with_reducible refine Below.setCell ?_ (by first | (simp; done) | (simp; omega) | omega) _ | with_reducible refine Below.alloc ?_ (by first | (simp; done) | (simp; omega) | omega) _ | with_reducible refine Below.drew ?_ | with_reducible refine below_drewN ?_ _ | with_reducible exact Below.refl _ _))).mono ?_; rintro e w2 ⟨lv2, rfl, hown2, hb2⟩
    have hz2 := hb2.size
    have kb2 : Below w.heap.size w w2 := (by repeat (first | with_reducible refine Below.setCell ?_ (by first | (simp; done) | (simp; omega) | omega) _ | with_reducible refine Below.alloc ?_ (by first | (simp; done) | (simp; omega) | omega) _ | with_reducible refine Below.drew ?_ | with_reducible refine below_drewN ?_ _ | with_reducible exact Below.refl _ _ | with_reducible refine Below.trans ?_ (Below.mono hb2 (by first | (simp; done) | (simp; omega) | omega)) | with_reducible refine Below.trans ?_ (Below.mono hb1 (by first | (simp; done) | (simp; omega) | omega))))
    obtain ⟨A2, c2, rfl⟩ := row_slice hown2
    clear C2 hb2 hb1 hown2
    go_wp2_with (fail)
    refine (CC.out _ (by repeat (first | with_reducible refine Below.setCell ?_ (by first | (simp; done) | (simp; omega) | omega) _ | with_reducible refine Below.alloc ?_ (by first | (simp; done) | (simp; omega) | omega) _ | with_reducible refine Below.drew ?_ | with_reducible refine below_drewN ?_ _ | with_reducible exact Below.refl _ _ | with_reducible refine Below.trans ?_ (Below.mono kb2 (by first | (simp; done) | (simp; omega) | omega))))).mono ?_; rintro e w3 ⟨lv3, rfl, hown3, hb3⟩
    have hz3 := kb2.size
    go_wp2
    refine bodyPost_ret (v := .tuple #[lv3, .int .i64 er]) (by simp [results, Try.results15, go_sem, *]) rfl ⟨_, by rw [HRES.out], by rw [HRES.out]; exact OwnS.less hown3 hz3, (by repeat (first | with_reducible refine Below.setCell ?_ (by first | (simp; done) | (simp; omega) | omega) _ | with_reducible refine Below.alloc ?_ (by first | (simp; done) | (simp; omega) | omega) _ | with_reducible refine Below.drew ?_ | with_reducible refine below_drewN ?_ _ | with_reducible exact Below.refl _ _ | with_reducible refine Below.trans ?_ (Below.mono hb3 (by first | (simp; done) | (simp; omega) | omega)) | with_reducible refine Below.trans ?_ (Below.mono kb2 (by first | (simp; done) | (simp; omega) | omega))))⟩
set_option maxRecDepth 100000 in
set_option maxHeartbeats 8000000 in
theorem srdelete_any (A : Option Addr) (n cp : Nat) (rs : List St) (id : Int) (nm : ByteArray) (w : World) (hnz : nm.size ≤ maxLen) (hr : StsAt w w.heap.size A n rs) (hft : fitsB (rs.map St.ch) = true) (hm : n * 136 ≤ 140737488351232) :
    Calls Try.prog 16 #[.slice A n cp, .int .i64 id, .string nm] w fun x w' => ∃ lv, x = .returned (.tuple #[lv, .int .i64 (stDel rs id nm).2]) ∧ OwnS w' w.heap.size lv (stDel rs id nm).1 ∧ Below w.heap.size w w' := by
  have HR := Lib.hid hr
  clear hr
  have HFT := Lib.hid hft
  have hsr := srt_of_fits hft
  have HSR := Lib.hid hsr
  have hnm : ∀ x ∈ rs.map St.ch, x.name.size ≤ maxLen := by
    intro x hx
    obtain ⟨y, hy, rfl⟩ := List.mem_map.1 hx
    exact HR.out.2 y hy
  have HNM := Lib.hid hnm
  clear hnm
  have cr := fun W (hb : Below w.heap.size w W) => rrecords_any A n cp rs W ((HR.out.below hb).more hb.size) hm
  have CR := Lib.hid cr
  clear cr
  have cc := fun W (hb : Below w.heap.size w W) => srcopy_any A n cp rs W ((HR.out.below hb).more hb.size) hm
  have CC := Lib.hid cc
  clear cc
  by_cases he : delE (rs.map St.ch) nm = 0
  · have HRES : Hid (stDel rs id nm = (stPut (delC ((findL (rs.map St.ch) nm).getD Ch0) id) rs, 0)) := Lib.hid (by unfold stDel; rw [if_pos he])
    obtain ⟨o, hfo, hom, hon⟩ := del_some he
    have hCC : delC o id = delC ((findL (rs.map St.ch) nm).getD Ch0) id := by rw [hfo]; rfl
    have HSZ : Hid (∀ x ∈ putF (delC ((findL (rs.map St.ch) nm).getD Ch0) id) (rs.map St.ch), x.name.size ≤ maxLen) := Lib.hid (putF_names hsr (by obtain ⟨y, hy, hyo⟩ := List.mem_map.1 hom; rw [hfo]; show (delC o id).name.size ≤ maxLen; show o.name.size ≤ maxLen; rw [← hyo]; exact HR.out.2 y hy) HR.out.2)
    have HEQ : Hid ((putF (delC ((findL (rs.map St.ch) nm).getD Ch0) id) (rs.map St.ch)).map (begunS rs) = stPut (delC ((findL (rs.map St.ch) nm).getD Ch0) id) rs) := Lib.hid (begun_put hsr ((by rw [hfo]; exact del_new hsr hfo)))
    have HE := Lib.hid he
    have HOK : Hid (delL (rs.map St.ch) id nm = putF (delC ((findL (rs.map St.ch) nm).getD Ch0) id) (rs.map St.ch)) := Lib.hid (by rw [delL_ok hfo he, hCC])
    have hfew : (putF (delC ((findL (rs.map St.ch) nm).getD Ch0) id) (rs.map St.ch)).length ≤ 1000 := putF_few hft
    generalize delC ((findL (rs.map St.ch) nm).getD Ch0) id = C at *
    clear hft hsr he hfo hom hon hCC
    go_enter Try.func16, Try.ntmps16
    go_wp2_with (fail)
    refine (CR.out _ (by repeat (first | with_reducible refine Below.setCell ?_ (by first | (simp; done) | (simp; omega) | omega) _ | with_reducible refine Below.alloc ?_ (by first | (simp; done) | (simp; omega) | omega) _ | with_reducible refine Below.drew ?_ | with_reducible refine below_drewN ?_ _ | with_reducible exact Below.refl _ _))).mono ?_; rintro e w1 ⟨lv, rfl, hown, hb1⟩
    obtain ⟨A1, c1, rfl, hat⟩ := hown.at_ HNM.out
    obtain ⟨n1, hn1⟩ : ∃ n1, (rs.map St.ch).length = n1 := ⟨_, rfl⟩
    rw [hn1] at hat
    rw [hn1]
    clear hn1
    have c2 := fun W (hb : Below w1.heap.size w1 W) => rdelete_any A1 n1 c1 (rs.map St.ch) id nm W hnz ((hat.below hb).more hb.size) HFT.out
    rw [HOK.out, HE.out] at c2
    have C2 := Lib.hid c2
    clear c2 hat hown
    have hz1 := hb1.size
    go_wp2_with (fail)
    refine (C2.out _ (by repeat (first | with_reducible refine Below.setCell ?_ (by first | (simp; done) | (simp; omega) | omega) _ | with_reducible refine Below.alloc ?_ (by first | (simp; done) | (simp; omega) | omega) _ | with_reducible refine Below.drew ?_ | with_reducible refine below_drewN ?_ _ | with_reducible exact Below.refl _ _))).mono ?_; rintro e w2 ⟨lv2, rfl, hown2, hb2⟩
    obtain ⟨A2, c2, rfl, hat2⟩ := hown2.at_ HSZ.out
    obtain ⟨n2, hn2⟩ : ∃ n2, (putF C (rs.map St.ch)).length = n2 := ⟨_, rfl⟩
    rw [hn2] at hat2 hfew
    rw [hn2]
    clear hn2
    have hz2 := hb2.size
    have kb2 : Below w.heap.size w w2 := (by repeat (first | with_reducible refine Below.setCell ?_ (by first | (simp; done) | (simp; omega) | omega) _ | with_reducible refine Below.alloc ?_ (by first | (simp; done) | (simp; omega) | omega) _ | with_reducible refine Below.drew ?_ | with_reducible refine below_drewN ?_ _ | with_reducible exact Below.refl _ _ | with_reducible refine Below.trans ?_ (Below.mono hb2 (by first | (simp; done) | (simp; omega) | omega)) | with_reducible refine Below.trans ?_ (Below.mono hb1 (by first | (simp; done) | (simp; omega) | omega))))
    clear C2 hb2 hb1 hown2
    have c3 := fun W (hb : Below w2.heap.size w2 W) => begun_any A n cp rs A2 n2 c2 (putF C (rs.map St.ch)) W ((HR.out.below (kb2.trans (hb.mono kb2.size))).more (kb2.trans (hb.mono kb2.size)).size) hm ((hat2.below hb).more hb.size) hfew
    rw [HEQ.out] at c3
    have C3 := Lib.hid c3
    clear c3 hat2
    go_wp2_with (fail)
    refine (C3.out _ (by repeat (first | with_reducible refine Below.setCell ?_ (by first | (simp; done) | (simp; omega) | omega) _ | with_reducible refine Below.alloc ?_ (by first | (simp; done) | (simp; omega) | omega) _ | with_reducible refine Below.drew ?_ | with_reducible refine below_drewN ?_ _ | with_reducible exact Below.refl _ _))).mono ?_; rintro e w3 ⟨lv3, rfl, hown3, hb3⟩
    have hz3 := kb2.size
    go_wp2
    refine bodyPost_ret (v := .tuple #[lv3, .int .i64 0]) (by simp [results, Try.results16, go_sem, *]) rfl ⟨_, by rw [HRES.out], by rw [HRES.out]; exact OwnS.less hown3 hz3, (by repeat (first | with_reducible refine Below.setCell ?_ (by first | (simp; done) | (simp; omega) | omega) _ | with_reducible refine Below.alloc ?_ (by first | (simp; done) | (simp; omega) | omega) _ | with_reducible refine Below.drew ?_ | with_reducible refine below_drewN ?_ _ | with_reducible exact Below.refl _ _ | with_reducible refine Below.trans ?_ (Below.mono hb3 (by first | (simp; done) | (simp; omega) | omega)) | with_reducible refine Below.trans ?_ (Below.mono kb2 (by first | (simp; done) | (simp; omega) | omega))))⟩
  · have HRES : Hid (stDel rs id nm = (rs, delE (rs.map St.ch) nm)) := Lib.hid (by unfold stDel; rw [if_neg he])
    have HNO : Hid (delL (rs.map St.ch) id nm = rs.map St.ch) := Lib.hid (delL_no rfl he)
    obtain ⟨er, her⟩ : ∃ er, delE (rs.map St.ch) nm = er := ⟨_, rfl⟩
    rw [her] at HRES
    have hnb : (er != 0) = true := by rw [← her]; simpa using he
    have HER := Lib.hid her
    clear hft hsr he her
    go_enter Try.func16, Try.ntmps16
    go_wp2_with (fail)
    refine (CR.out _ (by repeat (first | with_reducible refine Below.setCell ?_ (by first | (simp; done) | (simp; omega) | omega) _ | with_reducible refine Below.alloc ?_ (by first | (simp; done) | (simp; omega) | omega) _ | with_reducible refine Below.drew ?_ | with_reducible refine below_drewN ?_ _ | with_reducible exact Below.refl _ _))).mono ?_; rintro e w1 ⟨lv, rfl, hown, hb1⟩
    obtain ⟨A1, c1, rfl, hat⟩ := hown.at_ HNM.out
    obtain ⟨n1, hn1⟩ : ∃ n1, (rs.map St.ch).length = n1 := ⟨_, rfl⟩
    rw [hn1] at hat
    rw [hn1]
    clear hn1
    have c2 := fun W (hb : Below w1.heap.size w1 W) => rdelete_any A1 n1 c1 (rs.map St.ch) id nm W hnz ((hat.below hb).more hb.size) HFT.out
    rw [HNO.out, HER.out] at c2
    have C2 := Lib.hid c2
    clear c2 hat hown
    have hz1 := hb1.size
    go_wp2_with (fail)
    refine (C2.out _ (by repeat (first | with_reducible refine Below.setCell ?_ (by first | (simp; done) | (simp; omega) | omega) _ | with_reducible refine Below.alloc ?_ (by first | (simp; done) | (simp; omega) | omega) _ | with_reducible refine Below.drew ?_ | with_reducible refine below_drewN ?_ _ | with_reducible exact Below.refl _ _))).mono ?_; rintro e w2 ⟨lv2, rfl, hown2, hb2⟩
    have hz2 := hb2.size
    have kb2 : Below w.heap.size w w2 := (by repeat (first | with_reducible refine Below.setCell ?_ (by first | (simp; done) | (simp; omega) | omega) _ | with_reducible refine Below.alloc ?_ (by first | (simp; done) | (simp; omega) | omega) _ | with_reducible refine Below.drew ?_ | with_reducible refine below_drewN ?_ _ | with_reducible exact Below.refl _ _ | with_reducible refine Below.trans ?_ (Below.mono hb2 (by first | (simp; done) | (simp; omega) | omega)) | with_reducible refine Below.trans ?_ (Below.mono hb1 (by first | (simp; done) | (simp; omega) | omega))))
    obtain ⟨A2, c2, rfl⟩ := row_slice hown2
    clear C2 hb2 hb1 hown2
    go_wp2_with (fail)
    refine (CC.out _ (by repeat (first | with_reducible refine Below.setCell ?_ (by first | (simp; done) | (simp; omega) | omega) _ | with_reducible refine Below.alloc ?_ (by first | (simp; done) | (simp; omega) | omega) _ | with_reducible refine Below.drew ?_ | with_reducible refine below_drewN ?_ _ | with_reducible exact Below.refl _ _ | with_reducible refine Below.trans ?_ (Below.mono kb2 (by first | (simp; done) | (simp; omega) | omega))))).mono ?_; rintro e w3 ⟨lv3, rfl, hown3, hb3⟩
    have hz3 := kb2.size
    go_wp2
    refine bodyPost_ret (v := .tuple #[lv3, .int .i64 er]) (by simp [results, Try.results16, go_sem, *]) rfl ⟨_, by rw [HRES.out], by rw [HRES.out]; exact OwnS.less hown3 hz3, (by repeat (first | with_reducible refine Below.setCell ?_ (by first | (simp; done) | (simp; omega) | omega) _ | with_reducible refine Below.alloc ?_ (by first | (simp; done) | (simp; omega) | omega) _ | with_reducible refine Below.drew ?_ | with_reducible refine below_drewN ?_ _ | with_reducible exact Below.refl _ _ | with_reducible refine Below.trans ?_ (Below.mono hb3 (by first | (simp; done) | (simp; omega) | omega)) | with_reducible refine Below.trans ?_ (Below.mono kb2 (by first | (simp; done) | (simp; omega) | omega))))⟩
end Go.Proofs.Ytfihkkamedghkaa
