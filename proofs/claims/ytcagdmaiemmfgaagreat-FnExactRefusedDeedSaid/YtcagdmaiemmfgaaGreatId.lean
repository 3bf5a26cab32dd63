/- The program's tests of streams and deeds answer what the plain tests answer; for all inputs. -/
import Derived.Test.YtcagdmaiemmfgaaGreatIc
import Derived.Test.YtcagdmaiemmfgaaGreatSp
namespace Go.Proofs.YtcagdmaiemmfgaaGreat
open Go.RowKit

theorem join_c (D : Dom) (A : Option Addr) (c : Nat) (p : List ByteArray) (w : World) (hs : Sl 1 elStr D w A c p) (h1 : 1 ≤ p.length) (hn : p.length ≤ 20) (hz : ∀ s ∈ p, s.size ≤ 60) :
    Calls Tryz.prog 206 #[.slice A p.length c, .string ⟨#[]⟩] w fun e w' => e = .returned (.string (whole p)) ∧ Below w.heap.size w w' := by
  obtain ⟨b, o, rfl, hb, hc⟩ := hs.2.2 h1
  have hc' : ∀ (j : Nat) x, p[j]? = some x → w.cell? ⟨b, o + j, none⟩ = some (.string x) := fun j x hx => by
    have := (hc j x hx).1
    rwa [Nat.mul_one] at this
  have hl : (Lib.join (p.map (·.data.toList)) (⟨#[]⟩ : ByteArray).data.toList).length ≤ 140737488355328 := by
    show (Lib.join (p.map (·.data.toList)) []).length ≤ _
    rw [join_whole]
    have h2 := whole_le p hz
    have : (whole p).size = (wholeL p).length := by
      show (wholeL p).toArray.size = _
      simp
    omega
  have hb2 : b < w.heap.size := lt_of_cell (hc' 0 _ (List.getElem?_eq_getElem h1))
  refine (Tryz.strings_Join b o c p ⟨#[]⟩ w hc' hb2 (by omega) hs.1 hl).mono fun e w' ⟨he, hw⟩ => ⟨?_, hw⟩
  rw [he]
  show Ending.returned (.string ⟨(Lib.join (p.map (·.data.toList)) []).toArray⟩) = _
  rw [join_whole]
  rfl
set_option maxHeartbeats 4000000 in
set_option maxRecDepth 100000 in
theorem validStream_c (D : Dom) (A0 : Option Addr) (c0 : Nat) (A1 : Option Addr) (c1 : Nat) (A2 : Option Addr) (c2 : Nat) (A3 : Option Addr) (c3 : Nat) (A4 : Option Addr) (c4 : Nat) (d : Chk) (p : List ByteArray) (w : World) (hv : StrAt D w A0 c0 A1 c1 A2 c2 A3 c3 A4 c4 d p) :
    Calls Tryz.prog 168 #[.agg (strV A0 c0 A1 c1 A2 c2 A3 c3 A4 c4 d p)] w fun e w' => e = .returned (.bool (okStream d p)) ∧ Below w.heap.size w w' := by
  obtain ⟨W, hW⟩ : ∃ W, W = w.alloc (.cells (strV A0 c0 A1 c1 A2 c2 A3 c3 A4 c4 d p) 61) := ⟨_, rfl⟩
  have HB : Hid (Below w.heap.size w W) := Lib.hid (hW ▸ bel1 w _)
  have HV : Hid (StrAt D W A0 c0 A1 c1 A2 c2 A3 c3 A4 c4 d p) := Lib.hid (hv.below HB.out)
  have hl := hv.str.le
  have HZ : Hid (∀ s ∈ p, s.size ≤ 9223372036854775807) := Lib.hid fun s hs => by
    obtain ⟨k, hk, rfl⟩ := List.getElem_of_mem hs
    obtain ⟨_, _, _, h1, h2⟩ := hv.str.at_ hk
    unfold maxLen at h2
    omega
  obtain ⟨x4, hx4⟩ : ∃ x, x = W.cell? ⟨w.heap.size, 6, none⟩ := ⟨_, rfl⟩
  have e6 : W.cell? ⟨w.heap.size, 6, none⟩ = some (.slice A4 p.length c4) := by rw [hW, cell_new]; rfl
  have hlt : w.heap.size < W.heap.size := by rw [hW]; simp
  have HWe := Lib.hid hW
  clear hv hW hx4 x4
  have HPI : Hid (∀ w1, Below W.heap.size W w1 → PredIn Tryz.prog 205 (fun x => #[.string x]) (fun s => !okWord s) p w1) := Lib.hid fun w1 _ x hx w2 _ => notWord_c x w2 (HZ.out x hx)
  cases hk : okChk d
  · go_enter Tryz.func168, Tryz.ntmps168
    go_wp2_with (go_at_call 68; rw [← HWe.out]; refine (validChecker_c D A0 c0 A1 c1 A2 c2 A3 c3 d W HV.out.chk).mono ?_; rintro e w1 ⟨rfl, hb1⟩; have HB1 := Lib.hid (HB.out.trans (hb1.mono HB.out.size)); rw [hk]; clear hb1)
    go_ret
    exact ⟨ret_b (by rw [okStream, hk]; rfl), HB1.out⟩
  cases hr : inB 1 20 (p.length : Int)
  · go_enter Tryz.func168, Tryz.ntmps168
    go_wp2_with (first | (go_at_call 68; rw [← HWe.out]; refine (validChecker_c D A0 c0 A1 c1 A2 c2 A3 c3 d W HV.out.chk).mono ?_; rintro e w1 ⟨rfl, hb1⟩; have HB1 := Lib.hid (HB.out.trans (hb1.mono HB.out.size)); have k6 := ((bcell hb1 (Nat.le_refl _)).1 _ _ hlt).trans e6; rw [hk]; clear hb1) | (go_at_call 172; refine (sizeS_c _ _ _ _).mono ?_; rintro e w' ⟨rfl, rfl⟩) | (go_at_call 137; refine (within_c _ _ _ _).mono ?_; rintro e w' ⟨rfl, rfl⟩; rw [hr]))
    go_ret
    exact ⟨ret_b (by rw [okStream, hk, hr]; rfl), HB1.out⟩
  obtain ⟨n1, n2⟩ := inB_iff.1 hr
  have hany : (p.any fun s => !okWord s) = !(p.all okWord) := by rw [List.all_eq_not_any_not]; simp
  have HANY := Lib.hid hany
  clear hany
  cases ha : p.all okWord
  · go_enter Tryz.func168, Tryz.ntmps168
    go_wp2_with (first | (go_at_call 68; rw [← HWe.out]; refine (validChecker_c D A0 c0 A1 c1 A2 c2 A3 c3 d W HV.out.chk).mono ?_; rintro e w1 ⟨rfl, hb1⟩; have HB0 := Lib.hid hb1; have HB1 := Lib.hid (HB.out.trans (hb1.mono HB.out.size)); have k6 := ((bcell hb1 (Nat.le_refl _)).1 _ _ hlt).trans e6; rw [hk]; clear hb1) | (go_at_call 172; refine (sizeS_c _ _ _ _).mono ?_; rintro e w' ⟨rfl, rfl⟩) | (go_at_call 137; refine (within_c _ _ _ _).mono ?_; rintro e w' ⟨rfl, rfl⟩; rw [hr]) | (go_at_call 204; refine (containsFuncS_c D A4 c4 p _ _ w1 (HV.out.str.below elStr_good HB0.out) enters_notWord (HPI.out w1 HB0.out)).mono ?_; rintro e w2 ⟨rfl, hb2⟩; have HB2 := Lib.hid (HB1.out.trans (hb2.mono HB1.out.size)); rw [HANY.out, ha]; clear hb2))
    go_ret
    exact ⟨ret_b (by rw [okStream, hk, hr, ha]; rfl), HB2.out⟩
  have hz : ∀ s ∈ p, s.size ≤ 60 := fun s hs => okWord_le ((List.all_eq_true.1 ha) s hs)
  have HZ6 := Lib.hid hz
  have hw60 := whole_le p hz
  clear hz
  go_enter Tryz.func168, Tryz.ntmps168
  go_wp2_with (first | (go_at_call 68; rw [← HWe.out]; refine (validChecker_c D A0 c0 A1 c1 A2 c2 A3 c3 d W HV.out.chk).mono ?_; rintro e w1 ⟨rfl, hb1⟩; have HB0 := Lib.hid hb1; have HB1 := Lib.hid (HB.out.trans (hb1.mono HB.out.size)); have k6 := ((bcell hb1 (Nat.le_refl _)).1 _ _ hlt).trans e6; rw [hk]; clear hb1) | (go_at_call 172; refine (sizeS_c _ _ _ _).mono ?_; rintro e w' ⟨rfl, rfl⟩) | (go_at_call 137; refine (within_c _ _ _ _).mono ?_; rintro e w' ⟨rfl, rfl⟩; rw [hr]) | (go_at_call 204; refine (containsFuncS_c D A4 c4 p _ _ w1 (HV.out.str.below elStr_good HB0.out) enters_notWord (HPI.out w1 HB0.out)).mono ?_; rintro e w2 ⟨rfl, hb2⟩; have HB02 := Lib.hid (HB0.out.trans (hb2.mono HB0.out.size)); have HB2 := Lib.hid (HB1.out.trans (hb2.mono HB1.out.size)); have k7 := ((bcell HB02.out (Nat.le_refl _)).1 _ _ hlt).trans e6; rw [HANY.out, ha]; clear hb2) |
    (go_at_call 206; refine (join_c D A4 c4 p w2 (HV.out.str.below elStr_good HB02.out) (by omega) (by omega) HZ6.out).mono ?_; rintro e w3 ⟨rfl, hb3⟩; have HB3 := Lib.hid (HB2.out.trans (hb3.mono HB2.out.size)); clear hb3) | (go_at_call 193; refine (validWord_c (whole p) _ (by omega)).mono ?_; rintro e w' ⟨rfl, rfl⟩))
  go_ret
  exact ⟨ret_b (by rw [okStream, hk, hr, ha]; rfl), HB3.out⟩
set_option maxHeartbeats 4000000 in
set_option maxRecDepth 100000 in
theorem deedsCode_c (D : Dom) (A0 : Option Addr) (c0 : Nat) (A1 : Option Addr) (c1 : Nat) (A2 : Option Addr) (c2 : Nat) (A3 : Option Addr) (c3 : Nat) (A4 : Option Addr) (c4 : Nat) (d : Chk) (p : List ByteArray) (A5 : Option Addr) (c5 : Nat) (xs : List Deed) (w : World) (hv : StrAt D w A0 c0 A1 c1 A2 c2 A3 c3 A4 c4 d p) (hs : Sl 3 elDeed D w A5 c5 xs) :
    Calls Tryz.prog 101 #[.agg (strV A0 c0 A1 c1 A2 c2 A3 c3 A4 c4 d p), .slice A5 xs.length c5] w fun e w' => e = .returned (.int .i64 (askedC d p xs)) ∧ Below w.heap.size w w' := by
  obtain ⟨W, hW⟩ : ∃ W, W = w.alloc (.cells (strV A0 c0 A1 c1 A2 c2 A3 c3 A4 c4 d p) 61) := ⟨_, rfl⟩
  have HB : Hid (Below w.heap.size w W) := Lib.hid (hW ▸ bel1 w _)
  have HV : Hid (StrAt D W A0 c0 A1 c1 A2 c2 A3 c3 A4 c4 d p) := Lib.hid (hv.below HB.out)
  have HS : Hid (Sl 3 elDeed D W A5 c5 xs) := Lib.hid (hs.below elDeed_good HB.out)
  have hl := hs.le
  have HWe := Lib.hid hW
  clear hv hs hW
  have HPI : Hid (∀ w1, PredIn Tryz.prog 170 (fun x => #[.agg #[.int .i64 x.kind, .int .i64 x.a, .int .i64 x.b]]) (fun x => !okDeed x) xs w1) := Lib.hid fun w1 x _ w2 _ => notDeed_c x w2
  cases hk : okStream d p
  · go_enter Tryz.func101, Tryz.ntmps101
    go_wp2_with (go_at_call 168; rw [← HWe.out]; refine (validStream_c D A0 c0 A1 c1 A2 c2 A3 c3 A4 c4 d p W HV.out).mono ?_; rintro e w1 ⟨rfl, hb1⟩; have HB1 := Lib.hid (HB.out.trans (hb1.mono HB.out.size)); rw [hk]; clear hb1)
    go_ret
    exact ⟨ret_i (by rw [askedC, if_neg (by rw [hk]; simp)]), HB1.out⟩
  have hany : (xs.any fun x => !okDeed x) = !(xs.all okDeed) := by rw [List.all_eq_not_any_not]; simp
  have HANY := Lib.hid hany
  clear hany
  cases ha : xs.all okDeed
  · go_enter Tryz.func101, Tryz.ntmps101
    go_wp2_with (first | (go_at_call 168; rw [← HWe.out]; refine (validStream_c D A0 c0 A1 c1 A2 c2 A3 c3 A4 c4 d p W HV.out).mono ?_; rintro e w1 ⟨rfl, hb1⟩; have HB0 := Lib.hid hb1; have HB1 := Lib.hid (HB.out.trans (hb1.mono HB.out.size)); rw [hk]; clear hb1) | (go_at_call 169; refine (containsFuncD_c D A5 c5 xs _ _ w1 (HS.out.below elDeed_good HB0.out) enters_notDeed (HPI.out w1)).mono ?_; rintro e w2 ⟨rfl, hb2⟩; have HB2 := Lib.hid (HB1.out.trans (hb2.mono HB1.out.size)); rw [HANY.out, ha]; clear hb2))
    go_ret
    exact ⟨ret_i (by rw [askedC, if_neg (by rw [ha]; simp)]), HB2.out⟩
  by_cases hm : xs.length ≤ 300
  · have hm2 : ¬ (300 : Int) < xs.length := by omega
    go_enter Tryz.func101, Tryz.ntmps101
    go_wp2_with (first | (go_at_call 168; rw [← HWe.out]; refine (validStream_c D A0 c0 A1 c1 A2 c2 A3 c3 A4 c4 d p W HV.out).mono ?_; rintro e w1 ⟨rfl, hb1⟩; have HB0 := Lib.hid hb1; have HB1 := Lib.hid (HB.out.trans (hb1.mono HB.out.size)); rw [hk]; clear hb1) | (go_at_call 169; refine (containsFuncD_c D A5 c5 xs _ _ w1 (HS.out.below elDeed_good HB0.out) enters_notDeed (HPI.out w1)).mono ?_; rintro e w2 ⟨rfl, hb2⟩; have HB2 := Lib.hid (HB1.out.trans (hb2.mono HB1.out.size)); rw [HANY.out, ha]; clear hb2))
    go_ret
    exact ⟨ret_i (by rw [askedC, if_pos ⟨hk, ha⟩, if_pos hm]), HB2.out⟩
  · have hm2 : (300 : Int) < xs.length := by omega
    go_enter Tryz.func101, Tryz.ntmps101
    go_wp2_with (first | (go_at_call 168; rw [← HWe.out]; refine (validStream_c D A0 c0 A1 c1 A2 c2 A3 c3 A4 c4 d p W HV.out).mono ?_; rintro e w1 ⟨rfl, hb1⟩; have HB0 := Lib.hid hb1; have HB1 := Lib.hid (HB.out.trans (hb1.mono HB.out.size)); rw [hk]; clear hb1) | (go_at_call 169; refine (containsFuncD_c D A5 c5 xs _ _ w1 (HS.out.below elDeed_good HB0.out) enters_notDeed (HPI.out w1)).mono ?_; rintro e w2 ⟨rfl, hb2⟩; have HB2 := Lib.hid (HB1.out.trans (hb2.mono HB1.out.size)); rw [HANY.out, ha]; clear hb2))
    go_ret
    exact ⟨ret_i (by rw [askedC, if_pos ⟨hk, ha⟩, if_neg hm]), HB2.out⟩
end Go.Proofs.YtcagdmaiemmfgaaGreat
