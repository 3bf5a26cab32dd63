/- The laws on the depth and on the first refused deed walk to true; for all streams and deeds. -/
import Derived.Test.YtcagdmaiemmfgaaGreatIn
import Derived.Test.YtcagdmaiemmfgaaGreatEq
import Derived.Test.YtcagdmaiemmfgaaGreatTc
namespace Go.Proofs.YtcagdmaiemmfgaaGreat
open Go.RowKit

/-- A stream's seven cells in a block. -/
def Cells7 (w : World) (b : Nat) (A0 : Option Addr) (c0 : Nat) (A1 : Option Addr) (c1 : Nat) (A2 : Option Addr) (c2 : Nat) (A3 : Option Addr) (c3 : Nat) (A4 : Option Addr) (c4 : Nat) (d : Chk) (p : List ByteArray) : Prop :=
  w.cell? ⟨b, 0, none⟩ = some (.int .i64 d.stack) ∧ w.cell? ⟨b, 1, none⟩ = some (.int .i64 d.start) ∧ w.cell? ⟨b, 2, none⟩ = some (.slice A0 d.acc.length c0) ∧ w.cell? ⟨b, 3, none⟩ = some (.slice A1 d.call.length c1) ∧ w.cell? ⟨b, 4, none⟩ = some (.slice A2 d.ret.length c2) ∧ w.cell? ⟨b, 5, none⟩ = some (.slice A3 d.inn.length c3) ∧ w.cell? ⟨b, 6, none⟩ = some (.slice A4 p.length c4)
section
variable {w w' : World} {b : Nat} {A0 : Option Addr} {c0 : Nat} {A1 : Option Addr} {c1 : Nat} {A2 : Option Addr} {c2 : Nat} {A3 : Option Addr} {c3 : Nat} {A4 : Option Addr} {c4 : Nat} {d : Chk} {p : List ByteArray}
theorem Cells7.below (h : Cells7 w b A0 c0 A1 c1 A2 c2 A3 c3 A4 c4 d p) (hb : Below w.heap.size w w') : Cells7 w' b A0 c0 A1 c1 A2 c2 A3 c3 A4 c4 d p := by
  obtain ⟨h0, h1, h2, h3, h4, h5, h6⟩ := h
  have q := (bcell hb (Nat.le_refl _)).1
  exact ⟨(q _ _ (lt_of_cell h0)).trans h0, (q _ _ (lt_of_cell h1)).trans h1, (q _ _ (lt_of_cell h2)).trans h2, (q _ _ (lt_of_cell h3)).trans h3, (q _ _ (lt_of_cell h4)).trans h4, (q _ _ (lt_of_cell h5)).trans h5, (q _ _ (lt_of_cell h6)).trans h6⟩
theorem cells7_new (w : World) (t : TypeId) : Cells7 (w.alloc (.cells (strV A0 c0 A1 c1 A2 c2 A3 c3 A4 c4 d p) t)) w.heap.size A0 c0 A1 c1 A2 c2 A3 c3 A4 c4 d p := by
  refine ⟨?_, ?_, ?_, ?_, ?_, ?_, ?_⟩ <;> (rw [cell_new]; rfl)
end
set_option maxHeartbeats 4000000 in
set_option maxRecDepth 100000 in
theorem lawDepth_c (D : Dom) (A0 : Option Addr) (c0 : Nat) (A1 : Option Addr) (c1 : Nat) (A2 : Option Addr) (c2 : Nat) (A3 : Option Addr) (c3 : Nat) (A4 : Option Addr) (c4 : Nat) (d : Chk) (p : List ByteArray) (A5 : Option Addr) (c5 : Nat) (xs : List Deed) (w : World) (hv : StrAt D w A0 c0 A1 c1 A2 c2 A3 c3 A4 c4 d p) (hs : Sl 3 elDeed D w A5 c5 xs) :
    Calls Tryz.prog 4 #[.agg (strV A0 c0 A1 c1 A2 c2 A3 c3 A4 c4 d p), .slice A5 xs.length c5] w fun e w' => e = .returned (.bool true) ∧ Below w.heap.size w w' := by
  obtain ⟨W, hW⟩ : ∃ W, W = w.alloc (.cells (strV A0 c0 A1 c1 A2 c2 A3 c3 A4 c4 d p) 54) := ⟨_, rfl⟩
  have HB : Hid (Below w.heap.size w W) := Lib.hid (hW ▸ bel1 w _)
  have HV : Hid (StrAt D W A0 c0 A1 c1 A2 c2 A3 c3 A4 c4 d p) := Lib.hid (hv.below HB.out)
  have HS : Hid (Sl 3 elDeed D W A5 c5 xs) := Lib.hid (hs.below elDeed_good HB.out)
  have HC : Hid (Cells7 W w.heap.size A0 c0 A1 c1 A2 c2 A3 c3 A4 c4 d p) := Lib.hid (by rw [hW]; exact cells7_new _ _)
  have HWe := Lib.hid hW
  have hlx := hs.le
  clear hv hs hW
  by_cases hz : (1048576 : Int) < ((d.bulk + bulkL ByteArray.size p : Nat) : Int)
  · go_enter Tryz.func4, Tryz.ntmps4
    go_wp2_with fail
    rw [← HWe.out]
    refine (szStream_c D A0 c0 A1 c1 A2 c2 A3 c3 d A4 c4 p 1048576 W HV.out.chk HV.out.str (by omega) (by omega)).mono ?_
    rintro e w1 ⟨rfl, hb⟩
    rw [szR_neg hz]
    go_wp2_with fail
    go_ret
    exact ⟨rfl, HB.out.trans (hb.mono HB.out.size)⟩
  · have hz2 : (d.bulk : Int) ≤ 1048576 ∧ (p.length : Int) ≤ 1048576 := by rw [bulkL_def] at hz; omega
    obtain ⟨m, hm⟩ : ∃ m : Int, m = 1048576 - ((d.bulk + bulkL ByteArray.size p : Nat) : Int) := ⟨_, rfl⟩
    have HM : Hid (szR (d.bulk + bulkL ByteArray.size p) 1048576 = m) := Lib.hid (by rw [szR_ok (by omega), hm])
    have m0 : 0 ≤ m := by omega
    have m1 : m ≤ 1048576 := by omega
    obtain ⟨hdb, hpl⟩ := hz2
    have hdb2 : d.bulk ≤ 1048576 := by omega
    have hpl2 : p.length ≤ 1048576 := by omega
    clear hz hm
    by_cases hy : m < (xs.length : Int)
    · go_enter Tryz.func4, Tryz.ntmps4
      go_wp2_with fail
      rw [← HWe.out]
      refine (szStream_c D A0 c0 A1 c1 A2 c2 A3 c3 d A4 c4 p 1048576 W HV.out.chk HV.out.str (by omega) (by omega)).mono ?_
      rintro e w1 ⟨rfl, hb⟩
      rw [HM.out]
      replace HB := Lib.hid (HB.out.trans (hb.mono HB.out.size))
      replace HV := Lib.hid (HV.out.below hb)
      replace HS := Lib.hid (HS.out.below elDeed_good hb)
      replace HC := Lib.hid (HC.out.below hb)
      clear hb
      obtain ⟨hc0, hc1, hc2, hc3, hc4, hc5, hc6⟩ := HC.out
      go_wp2_with fail
      refine (szDeedS_c A5 c5 xs m _ hlx m0 m1).mono ?_
      rintro e w1 ⟨rfl, rfl⟩
      rw [szR_neg hy]
      go_wp2_with fail
      go_ret
      exact ⟨rfl, HB.out⟩
    · obtain ⟨m2, hm2⟩ : ∃ m2 : Int, m2 = m - (xs.length : Int) := ⟨_, rfl⟩
      have HM2 : Hid (szR xs.length m = m2) := Lib.hid (by rw [szR_ok (by omega), hm2])
      have n0 : 0 ≤ m2 := by omega
      have hxl : xs.length ≤ 1048576 := by omega
      clear hm2 hy
      go_enter Tryz.func4, Tryz.ntmps4
      go_wp2_with fail
      rw [← HWe.out]
      refine (szStream_c D A0 c0 A1 c1 A2 c2 A3 c3 d A4 c4 p 1048576 W HV.out.chk HV.out.str (by omega) (by omega)).mono ?_
      rintro e w1 ⟨rfl, hb⟩
      rw [HM.out]
      replace HB := Lib.hid (HB.out.trans (hb.mono HB.out.size))
      replace HV := Lib.hid (HV.out.below hb)
      replace HS := Lib.hid (HS.out.below elDeed_good hb)
      replace HC := Lib.hid (HC.out.below hb)
      clear hb
      obtain ⟨hc0, hc1, hc2, hc3, hc4, hc5, hc6⟩ := HC.out
      go_wp2_with fail
      refine (szDeedS_c A5 c5 xs m _ hlx m0 m1).mono ?_
      rintro e w1 ⟨rfl, rfl⟩
      rw [HM2.out]
      go_wp2_with fail
      refine (toStream_c D A0 c0 A1 c1 A2 c2 A3 c3 d A4 c4 p _ HV.out.chk HV.out.str hdb2 hpl2).mono ?_
      rintro e w2 ⟨X0, xx0, X1, xx1, X2, xx2, X3, xx3, X4, xx4, rfl, hs1, hs2, hb⟩
      have HXV : Hid (StrAt (fun _ => True) w2 X0 xx0 X1 xx1 X2 xx2 X3 xx3 X4 xx4 d p) := Lib.hid (StrAt.mono ⟨hs1, hs2⟩ fun _ _ _ => trivial)
      clear hs1 hs2
      clear hc0 hc1 hc2 hc3 hc4 hc5 hc6
      replace HB := Lib.hid (HB.out.trans (hb.mono HB.out.size))
      replace HV := Lib.hid (HV.out.below hb)
      replace HS := Lib.hid (HS.out.below elDeed_good hb)
      replace HC := Lib.hid (HC.out.below hb)
      clear hb
      obtain ⟨hc0, hc1, hc2, hc3, hc4, hc5, hc6⟩ := HC.out
      go_wp2_with fail
      refine (toDeedS_c D A5 c5 xs _ HS.out hxl).mono ?_
      rintro e w3 ⟨X5, xx5, rfl, hs1, hb⟩
      have HXS : Hid (Sl 3 elDeed (fun _ => True) w3 X5 xx5 xs) := Lib.hid (hs1.mono elDeed_good fun _ _ _ => trivial)
      clear hs1
      clear hc0 hc1 hc2 hc3 hc4 hc5 hc6
      replace HB := Lib.hid (HB.out.trans (hb.mono HB.out.size))
      replace HV := Lib.hid (HV.out.below hb)
      replace HS := Lib.hid (HS.out.below elDeed_good hb)
      replace HC := Lib.hid (HC.out.below hb)
      replace HXV := Lib.hid (HXV.out.below hb)
      clear hb
      obtain ⟨hc0, hc1, hc2, hc3, hc4, hc5, hc6⟩ := HC.out
      obtain ⟨r0, hr0⟩ : ∃ r, r = (depthC d p xs).1 := ⟨_, rfl⟩
      have HR0 := Lib.hid hr0
      clear hr0
      obtain ⟨r1, hr1⟩ : ∃ r, r = (depthC d p xs).2 := ⟨_, rfl⟩
      have HR1 := Lib.hid hr1
      clear hr1
      go_wp2_with fail
      refine (refDepth_c (fun _ => True) X0 xx0 X1 xx1 X2 xx2 X3 xx3 X4 xx4 d p X5 xx5 xs _ HXV.out HXS.out).mono ?_
      rintro e w4 hr
      rw [← HR0.out, ← HR1.out] at hr
      obtain ⟨rfl, hb⟩ := hr
      clear hc0 hc1 hc2 hc3 hc4 hc5 hc6
      replace HB := Lib.hid (HB.out.trans (hb.mono HB.out.size))
      replace HV := Lib.hid (HV.out.below hb)
      replace HS := Lib.hid (HS.out.below elDeed_good hb)
      replace HC := Lib.hid (HC.out.below hb)
      replace HXV := Lib.hid (HXV.out.below hb)
      replace HXS := Lib.hid (HXS.out.below elDeed_good hb)
      clear hb
      obtain ⟨hc0, hc1, hc2, hc3, hc4, hc5, hc6⟩ := HC.out
      clear HXV HXS
      go_wp2_with fail
      refine (toStream_c D A0 c0 A1 c1 A2 c2 A3 c3 d A4 c4 p _ HV.out.chk HV.out.str hdb2 hpl2).mono ?_
      rintro e w5 ⟨Y0, yy0, Y1, yy1, Y2, yy2, Y3, yy3, Y4, yy4, rfl, hs1, hs2, hb⟩
      have HYV : Hid (StrAt (fun _ => True) w5 Y0 yy0 Y1 yy1 Y2 yy2 Y3 yy3 Y4 yy4 d p) := Lib.hid (StrAt.mono ⟨hs1, hs2⟩ fun _ _ _ => trivial)
      clear hs1 hs2
      clear hc0 hc1 hc2 hc3 hc4 hc5 hc6
      replace HB := Lib.hid (HB.out.trans (hb.mono HB.out.size))
      replace HV := Lib.hid (HV.out.below hb)
      replace HS := Lib.hid (HS.out.below elDeed_good hb)
      replace HC := Lib.hid (HC.out.below hb)
      clear hb
      obtain ⟨hc0, hc1, hc2, hc3, hc4, hc5, hc6⟩ := HC.out
      obtain ⟨W6, hW6⟩ : ∃ W6, W6 = w5.alloc (.cells (strV Y0 yy0 Y1 yy1 Y2 yy2 Y3 yy3 Y4 yy4 d p) 61) := ⟨_, rfl⟩
      have HW6 := Lib.hid hW6
      have HD : Hid (Cells7 W6 w5.heap.size Y0 yy0 Y1 yy1 Y2 yy2 Y3 yy3 Y4 yy4 d p) := Lib.hid (by rw [hW6]; exact cells7_new _ _)
      have hb : Below w5.heap.size w5 W6 := hW6 ▸ bel1 w5 _
      clear hW6
      clear hc0 hc1 hc2 hc3 hc4 hc5 hc6
      replace HB := Lib.hid (HB.out.trans (hb.mono HB.out.size))
      replace HV := Lib.hid (HV.out.below hb)
      replace HS := Lib.hid (HS.out.below elDeed_good hb)
      replace HC := Lib.hid (HC.out.below hb)
      replace HYV := Lib.hid (HYV.out.below hb)
      clear hb
      go_wp2_with fail
      rw [← HW6.out]
      refine (toDeedS_c D A5 c5 xs _ HS.out hxl).mono ?_
      rintro e w7 ⟨Y5, yy5, rfl, hs1, hb⟩
      have HYS : Hid (Sl 3 elDeed (fun _ => True) w7 Y5 yy5 xs) := Lib.hid (hs1.mono elDeed_good fun _ _ _ => trivial)
      clear hs1
      replace HB := Lib.hid (HB.out.trans (hb.mono HB.out.size))
      replace HV := Lib.hid (HV.out.below hb)
      replace HS := Lib.hid (HS.out.below elDeed_good hb)
      replace HC := Lib.hid (HC.out.below hb)
      replace HYV := Lib.hid (HYV.out.below hb)
      replace HD := Lib.hid (HD.out.below hb)
      clear hb
      obtain ⟨hc0, hc1, hc2, hc3, hc4, hc5, hc6⟩ := HC.out
      obtain ⟨hd0, hd1, hd2, hd3, hd4, hd5, hd6⟩ := HD.out
      go_wp2_with fail
      refine (impDepth_c (fun _ => True) Y0 yy0 Y1 yy1 Y2 yy2 Y3 yy3 Y4 yy4 d p Y5 yy5 xs _ HYV.out HYS.out).mono ?_
      rintro e w8 hr
      rw [← HR0.out, ← HR1.out] at hr
      obtain ⟨rfl, hb⟩ := hr
      clear hc0 hc1 hc2 hc3 hc4 hc5 hc6 hd0 hd1 hd2 hd3 hd4 hd5 hd6
      replace HB := Lib.hid (HB.out.trans (hb.mono HB.out.size))
      replace HV := Lib.hid (HV.out.below hb)
      replace HS := Lib.hid (HS.out.below elDeed_good hb)
      replace HC := Lib.hid (HC.out.below hb)
      replace HYV := Lib.hid (HYV.out.below hb)
      replace HD := Lib.hid (HD.out.below hb)
      replace HYS := Lib.hid (HYS.out.below elDeed_good hb)
      clear hb
      obtain ⟨hc0, hc1, hc2, hc3, hc4, hc5, hc6⟩ := HC.out
      obtain ⟨hd0, hd1, hd2, hd3, hd4, hd5, hd6⟩ := HD.out
      have HB8 : Hid (Below w8.heap.size w8 w8) := Lib.hid (Below.refl _ _)
      obtain ⟨S, hSI, hSE⟩ : ∃ S : World → Prop, (∀ w', S w' → w'.cell? ⟨w.heap.size, 0, none⟩ = some (.int .i64 d.stack) ∧ w'.cell? ⟨w.heap.size, 1, none⟩ = some (.int .i64 d.start) ∧ w'.cell? ⟨w.heap.size, 2, none⟩ = some (.slice A0 d.acc.length c0) ∧ w'.cell? ⟨w.heap.size, 3, none⟩ = some (.slice A1 d.call.length c1) ∧ w'.cell? ⟨w.heap.size, 4, none⟩ = some (.slice A2 d.ret.length c2) ∧ w'.cell? ⟨w.heap.size, 5, none⟩ = some (.slice A3 d.inn.length c3) ∧ w'.cell? ⟨w.heap.size, 6, none⟩ = some (.slice A4 p.length c4) ∧ w'.cell? ⟨w5.heap.size, 0, none⟩ = some (.int .i64 d.stack) ∧ w'.cell? ⟨w5.heap.size, 1, none⟩ = some (.int .i64 d.start) ∧ w'.cell? ⟨w5.heap.size, 2, none⟩ = some (.slice Y0 d.acc.length yy0) ∧ w'.cell? ⟨w5.heap.size, 3, none⟩ = some (.slice Y1 d.call.length yy1) ∧ w'.cell? ⟨w5.heap.size, 4, none⟩ = some (.slice Y2 d.ret.length yy2) ∧ w'.cell? ⟨w5.heap.size, 5, none⟩ = some (.slice Y3 d.inn.length yy3) ∧ w'.cell? ⟨w5.heap.size, 6, none⟩ = some (.slice Y4 p.length yy4)) ∧ ∀ w2, Below w8.heap.size w8 w2 → S w2 := by
        refine ⟨fun w' => Below w8.heap.size w8 w', fun w' h => ?_, fun w2 h => h⟩
        have h2 := (bcell h (Nat.le_refl _)).1
        exact ⟨(h2 _ _ (lt_of_cell hc0)).trans hc0, (h2 _ _ (lt_of_cell hc1)).trans hc1, (h2 _ _ (lt_of_cell hc2)).trans hc2, (h2 _ _ (lt_of_cell hc3)).trans hc3, (h2 _ _ (lt_of_cell hc4)).trans hc4, (h2 _ _ (lt_of_cell hc5)).trans hc5, (h2 _ _ (lt_of_cell hc6)).trans hc6, (h2 _ _ (lt_of_cell hd0)).trans hd0, (h2 _ _ (lt_of_cell hd1)).trans hd1, (h2 _ _ (lt_of_cell hd2)).trans hd2, (h2 _ _ (lt_of_cell hd3)).trans hd3, (h2 _ _ (lt_of_cell hd4)).trans hd4, (h2 _ _ (lt_of_cell hd5)).trans hd5, (h2 _ _ (lt_of_cell hd6)).trans hd6⟩
      have HSI := Lib.hid hSI
      have HSE := Lib.hid hSE
      clear hSI hSE
      go_wp2_with fail
      refine wp_region_L [] S (by kernel_rfl) (HSE.out _ (bel_drew (Below.refl _ _))) (fun hS => ?_)
      refine anyL_take (i := 0) (oi := ?oz0) (v := ?vz0) ?hz0 (by kernel_rfl) (by kernel_rfl) (by kernel_rfl) (by kernel_rfl) (by kernel_rfl) (fun _ _ _ h => h) (Or.inl ⟨?wz0, ?yz0⟩) hS ?_
      case hz0 => simp only [List.getElem?_toArray, List.getElem?_cons_zero]; rfl
      case wz0 => rfl
      case yz0 => (intro w hSw; replace hSw := HSI.out _ hSw; go_simp; try with_reducible rfl)
      try simp only [Act.put, List.setIfInBounds_toArray, List.set_cons_zero, List.set_cons_succ]
      refine anyL_take (i := 1) (oi := ?oz1) (v := ?vz1) ?hz1 (by kernel_rfl) (by kernel_rfl) (by kernel_rfl) (by kernel_rfl) (by kernel_rfl) (fun _ _ _ h => h) (Or.inl ⟨?wz1, ?yz1⟩) hS ?_
      case hz1 => simp only [List.getElem?_toArray, List.getElem?_cons_succ, List.getElem?_cons_zero]; rfl
      case wz1 => rfl
      case yz1 => (intro w hSw; replace hSw := HSI.out _ hSw; go_simp; try with_reducible rfl)
      try simp only [Act.put, List.setIfInBounds_toArray, List.set_cons_zero, List.set_cons_succ]
      refine anyL_one (i := 2) (o := ?oz2) (by kernel_rfl) ?hz2 ?wz2 (fun K hK => ?_)
      case hz2 => simp only [List.getElem?_toArray, List.getElem?_cons_succ, List.getElem?_cons_zero]; rfl
      case wz2 => rfl
      go_simp
      go_at_call 24
      refine (toStream_c D A0 c0 A1 c1 A2 c2 A3 c3 d A4 c4 p _ (HV.out.below (bel_drew (Below.refl _ _))).chk (HV.out.below (bel_drew (Below.refl _ _))).str hdb2 hpl2).mono ?_
      rintro e w9 ⟨Z0, zz0, Z1, zz1, Z2, zz2, Z3, zz3, Z4, zz4, rfl, hs1, hs2, hb⟩
      have HB9 : Hid (Below w8.heap.size w8 w9) := Lib.hid (Below.trans (bel_drew (Below.refl _ _)) hb)
      have HZV : Hid (StrAt (fun _ => True) w9 Z0 zz0 Z1 zz1 Z2 zz2 Z3 zz3 Z4 zz4 d p) := Lib.hid (StrAt.mono ⟨hs1, hs2⟩ fun _ _ _ => trivial)
      clear hs1 hs2 hb
      go_wp2_with fail
      refine hK _ _ (fun _ => HSE.out _ HB9.out) ?_
      replace hS := HSE.out _ HB9.out
      clear hK K
      try simp only [Act.put, List.setIfInBounds_toArray, List.set_cons_zero, List.set_cons_succ]
      refine anyL_one (i := 3) (o := ?oz3) (by kernel_rfl) ?hz3 ?wz3 (fun K hK => ?_)
      case hz3 => simp only [List.getElem?_toArray, List.getElem?_cons_succ, List.getElem?_cons_zero]; rfl
      case wz3 => rfl
      go_simp
      go_at_call 27
      refine (eqStream_c (fun _ => True) (fun _ => True) Y0 yy0 Y1 yy1 Y2 yy2 Y3 yy3 Y4 yy4 Z0 zz0 Z1 zz1 Z2 zz2 Z3 zz3 Z4 zz4 d p _ (HYV.out.below HB9.out).chk (HYV.out.below HB9.out).str HZV.out.chk HZV.out.str).mono ?_
      rintro e w10 ⟨rfl, hb⟩
      have HB10 : Hid (Below w8.heap.size w8 w10) := Lib.hid (HB9.out.trans (hb.mono HB9.out.size))
      clear hb
      go_wp2_with fail
      refine hK _ _ (fun _ => HSE.out _ HB10.out) ?_
      replace hS := HSE.out _ HB10.out
      clear hK K
      try simp only [Act.put, List.setIfInBounds_toArray, List.set_cons_zero, List.set_cons_succ]
      refine anyL_take0 (i := 4) (oi := ?oz4) (v := ?vz4) ?hz4 (by kernel_rfl) (by kernel_rfl) (by kernel_rfl) (by kernel_rfl) (fun _ _ _ h => h) (Or.inl ⟨?wz4, ?yz4⟩) (Or.inr hS) ?_
      case hz4 => simp only [List.getElem?_toArray, List.getElem?_cons_succ, List.getElem?_cons_zero]; rfl
      case wz4 => rfl
      case yz4 => (intro w; go_simp; try with_reducible rfl)
      try simp only [Act.put, List.setIfInBounds_toArray, List.set_cons_zero, List.set_cons_succ]
      refine anyL_end (by kernel_rfl) ?_ _
      have hb := HB10.out
      clear HB8 HB9 HB10 HSI HSE hS
      clear hc0 hc1 hc2 hc3 hc4 hc5 hc6 hd0 hd1 hd2 hd3 hd4 hd5 hd6
      replace HB := Lib.hid (HB.out.trans (hb.mono HB.out.size))
      replace HS := Lib.hid (HS.out.below elDeed_good hb)
      replace HYS := Lib.hid (HYS.out.below elDeed_good hb)
      clear hb
      go_wp2_with fail
      refine (toDeedS_c D A5 c5 xs _ HS.out hxl).mono ?_
      rintro e w11 ⟨Z5, zz5, rfl, hs1, hb⟩
      have HZS : Hid (Sl 3 elDeed (fun _ => True) w11 Z5 zz5 xs) := Lib.hid (hs1.mono elDeed_good fun _ _ _ => trivial)
      clear hs1
      replace HB := Lib.hid (HB.out.trans (hb.mono HB.out.size))
      replace HS := Lib.hid (HS.out.below elDeed_good hb)
      replace HYS := Lib.hid (HYS.out.below elDeed_good hb)
      clear hb
      go_wp2_with fail
      refine (eqDeedS_c (fun _ => True) (fun _ => True) Y5 yy5 Z5 zz5 xs _ HYS.out HZS.out).mono ?_
      rintro e w12 ⟨rfl, hb⟩
      replace HB := Lib.hid (HB.out.trans (hb.mono HB.out.size))
      clear hb
      go_wp2_with fail
      go_ret
      exact ⟨rfl, HB.out⟩
set_option maxHeartbeats 4000000 in
set_option maxRecDepth 100000 in
theorem lawRefused_c (D : Dom) (A0 : Option Addr) (c0 : Nat) (A1 : Option Addr) (c1 : Nat) (A2 : Option Addr) (c2 : Nat) (A3 : Option Addr) (c3 : Nat) (A4 : Option Addr) (c4 : Nat) (d : Chk) (p : List ByteArray) (A5 : Option Addr) (c5 : Nat) (xs : List Deed) (w : World) (hv : StrAt D w A0 c0 A1 c1 A2 c2 A3 c3 A4 c4 d p) (hs : Sl 3 elDeed D w A5 c5 xs) :
    Calls Tryz.prog 5 #[.agg (strV A0 c0 A1 c1 A2 c2 A3 c3 A4 c4 d p), .slice A5 xs.length c5] w fun e w' => e = .returned (.bool true) ∧ Below w.heap.size w w' := by
  obtain ⟨W, hW⟩ : ∃ W, W = w.alloc (.cells (strV A0 c0 A1 c1 A2 c2 A3 c3 A4 c4 d p) 54) := ⟨_, rfl⟩
  have HB : Hid (Below w.heap.size w W) := Lib.hid (hW ▸ bel1 w _)
  have HV : Hid (StrAt D W A0 c0 A1 c1 A2 c2 A3 c3 A4 c4 d p) := Lib.hid (hv.below HB.out)
  have HS : Hid (Sl 3 elDeed D W A5 c5 xs) := Lib.hid (hs.below elDeed_good HB.out)
  have HC : Hid (Cells7 W w.heap.size A0 c0 A1 c1 A2 c2 A3 c3 A4 c4 d p) := Lib.hid (by rw [hW]; exact cells7_new _ _)
  have HWe := Lib.hid hW
  have hlx := hs.le
  clear hv hs hW
  by_cases hz : (1048576 : Int) < ((d.bulk + bulkL ByteArray.size p : Nat) : Int)
  · go_enter Tryz.func5, Tryz.ntmps5
    go_wp2_with fail
    rw [← HWe.out]
    refine (szStream_c D A0 c0 A1 c1 A2 c2 A3 c3 d A4 c4 p 1048576 W HV.out.chk HV.out.str (by omega) (by omega)).mono ?_
    rintro e w1 ⟨rfl, hb⟩
    rw [szR_neg hz]
    go_wp2_with fail
    go_ret
    exact ⟨rfl, HB.out.trans (hb.mono HB.out.size)⟩
  · have hz2 : (d.bulk : Int) ≤ 1048576 ∧ (p.length : Int) ≤ 1048576 := by rw [bulkL_def] at hz; omega
    obtain ⟨m, hm⟩ : ∃ m : Int, m = 1048576 - ((d.bulk + bulkL ByteArray.size p : Nat) : Int) := ⟨_, rfl⟩
    have HM : Hid (szR (d.bulk + bulkL ByteArray.size p) 1048576 = m) := Lib.hid (by rw [szR_ok (by omega), hm])
    have m0 : 0 ≤ m := by omega
    have m1 : m ≤ 1048576 := by omega
    obtain ⟨hdb, hpl⟩ := hz2
    have hdb2 : d.bulk ≤ 1048576 := by omega
    have hpl2 : p.length ≤ 1048576 := by omega
    clear hz hm
    by_cases hy : m < (xs.length : Int)
    · go_enter Tryz.func5, Tryz.ntmps5
      go_wp2_with fail
      rw [← HWe.out]
      refine (szStream_c D A0 c0 A1 c1 A2 c2 A3 c3 d A4 c4 p 1048576 W HV.out.chk HV.out.str (by omega) (by omega)).mono ?_
      rintro e w1 ⟨rfl, hb⟩
      rw [HM.out]
      replace HB := Lib.hid (HB.out.trans (hb.mono HB.out.size))
      replace HV := Lib.hid (HV.out.below hb)
      replace HS := Lib.hid (HS.out.below elDeed_good hb)
      replace HC := Lib.hid (HC.out.below hb)
      clear hb
      obtain ⟨hc0, hc1, hc2, hc3, hc4, hc5, hc6⟩ := HC.out
      go_wp2_with fail
      refine (szDeedS_c A5 c5 xs m _ hlx m0 m1).mono ?_
      rintro e w1 ⟨rfl, rfl⟩
      rw [szR_neg hy]
      go_wp2_with fail
      go_ret
      exact ⟨rfl, HB.out⟩
    · obtain ⟨m2, hm2⟩ : ∃ m2 : Int, m2 = m - (xs.length : Int) := ⟨_, rfl⟩
      have HM2 : Hid (szR xs.length m = m2) := Lib.hid (by rw [szR_ok (by omega), hm2])
      have n0 : 0 ≤ m2 := by omega
      have hxl : xs.length ≤ 1048576 := by omega
      clear hm2 hy
      go_enter Tryz.func5, Tryz.ntmps5
      go_wp2_with fail
      rw [← HWe.out]
      refine (szStream_c D A0 c0 A1 c1 A2 c2 A3 c3 d A4 c4 p 1048576 W HV.out.chk HV.out.str (by omega) (by omega)).mono ?_
      rintro e w1 ⟨rfl, hb⟩
      rw [HM.out]
      replace HB := Lib.hid (HB.out.trans (hb.mono HB.out.size))
      replace HV := Lib.hid (HV.out.below hb)
      replace HS := Lib.hid (HS.out.below elDeed_good hb)
      replace HC := Lib.hid (HC.out.below hb)
      clear hb
      obtain ⟨hc0, hc1, hc2, hc3, hc4, hc5, hc6⟩ := HC.out
      go_wp2_with fail
      refine (szDeedS_c A5 c5 xs m _ hlx m0 m1).mono ?_
      rintro e w1 ⟨rfl, rfl⟩
      rw [HM2.out]
      go_wp2_with fail
      refine (toStream_c D A0 c0 A1 c1 A2 c2 A3 c3 d A4 c4 p _ HV.out.chk HV.out.str hdb2 hpl2).mono ?_
      rintro e w2 ⟨X0, xx0, X1, xx1, X2, xx2, X3, xx3, X4, xx4, rfl, hs1, hs2, hb⟩
      have HXV : Hid (StrAt (fun _ => True) w2 X0 xx0 X1 xx1 X2 xx2 X3 xx3 X4 xx4 d p) := Lib.hid (StrAt.mono ⟨hs1, hs2⟩ fun _ _ _ => trivial)
      clear hs1 hs2
      clear hc0 hc1 hc2 hc3 hc4 hc5 hc6
      replace HB := Lib.hid (HB.out.trans (hb.mono HB.out.size))
      replace HV := Lib.hid (HV.out.below hb)
      replace HS := Lib.hid (HS.out.below elDeed_good hb)
      replace HC := Lib.hid (HC.out.below hb)
      clear hb
      obtain ⟨hc0, hc1, hc2, hc3, hc4, hc5, hc6⟩ := HC.out
      go_wp2_with fail
      refine (toDeedS_c D A5 c5 xs _ HS.out hxl).mono ?_
      rintro e w3 ⟨X5, xx5, rfl, hs1, hb⟩
      have HXS : Hid (Sl 3 elDeed (fun _ => True) w3 X5 xx5 xs) := Lib.hid (hs1.mono elDeed_good fun _ _ _ => trivial)
      clear hs1
      clear hc0 hc1 hc2 hc3 hc4 hc5 hc6
      replace HB := Lib.hid (HB.out.trans (hb.mono HB.out.size))
      replace HV := Lib.hid (HV.out.below hb)
      replace HS := Lib.hid (HS.out.below elDeed_good hb)
      replace HC := Lib.hid (HC.out.below hb)
      replace HXV := Lib.hid (HXV.out.below hb)
      clear hb
      obtain ⟨hc0, hc1, hc2, hc3, hc4, hc5, hc6⟩ := HC.out
      obtain ⟨r0, hr0⟩ : ∃ r, r = (refusedC d p xs).1 := ⟨_, rfl⟩
      have HR0 := Lib.hid hr0
      clear hr0
      obtain ⟨r1, hr1⟩ : ∃ r, r = (refusedC d p xs).2.1 := ⟨_, rfl⟩
      have HR1 := Lib.hid hr1
      clear hr1
      obtain ⟨r2, hr2⟩ : ∃ r, r = (refusedC d p xs).2.2 := ⟨_, rfl⟩
      have HR2 := Lib.hid hr2
      clear hr2
      go_wp2_with fail
      refine (refRefused_c (fun _ => True) X0 xx0 X1 xx1 X2 xx2 X3 xx3 X4 xx4 d p X5 xx5 xs _ HXV.out HXS.out).mono ?_
      rintro e w4 hr
      rw [← HR0.out, ← HR1.out, ← HR2.out] at hr
      obtain ⟨rfl, hb⟩ := hr
      clear hc0 hc1 hc2 hc3 hc4 hc5 hc6
      replace HB := Lib.hid (HB.out.trans (hb.mono HB.out.size))
      replace HV := Lib.hid (HV.out.below hb)
      replace HS := Lib.hid (HS.out.below elDeed_good hb)
      replace HC := Lib.hid (HC.out.below hb)
      replace HXV := Lib.hid (HXV.out.below hb)
      replace HXS := Lib.hid (HXS.out.below elDeed_good hb)
      clear hb
      obtain ⟨hc0, hc1, hc2, hc3, hc4, hc5, hc6⟩ := HC.out
      clear HXV HXS
      go_wp2_with fail
      refine (toStream_c D A0 c0 A1 c1 A2 c2 A3 c3 d A4 c4 p _ HV.out.chk HV.out.str hdb2 hpl2).mono ?_
      rintro e w5 ⟨Y0, yy0, Y1, yy1, Y2, yy2, Y3, yy3, Y4, yy4, rfl, hs1, hs2, hb⟩
      have HYV : Hid (StrAt (fun _ => True) w5 Y0 yy0 Y1 yy1 Y2 yy2 Y3 yy3 Y4 yy4 d p) := Lib.hid (StrAt.mono ⟨hs1, hs2⟩ fun _ _ _ => trivial)
      clear hs1 hs2
      clear hc0 hc1 hc2 hc3 hc4 hc5 hc6
      replace HB := Lib.hid (HB.out.trans (hb.mono HB.out.size))
      replace HV := Lib.hid (HV.out.below hb)
      replace HS := Lib.hid (HS.out.below elDeed_good hb)
      replace HC := Lib.hid (HC.out.below hb)
      clear hb
      obtain ⟨hc0, hc1, hc2, hc3, hc4, hc5, hc6⟩ := HC.out
      obtain ⟨W6, hW6⟩ : ∃ W6, W6 = w5.alloc (.cells (strV Y0 yy0 Y1 yy1 Y2 yy2 Y3 yy3 Y4 yy4 d p) 61) := ⟨_, rfl⟩
      have HW6 := Lib.hid hW6
      have HD : Hid (Cells7 W6 w5.heap.size Y0 yy0 Y1 yy1 Y2 yy2 Y3 yy3 Y4 yy4 d p) := Lib.hid (by rw [hW6]; exact cells7_new _ _)
      have hb : Below w5.heap.size w5 W6 := hW6 ▸ bel1 w5 _
      clear hW6
      clear hc0 hc1 hc2 hc3 hc4 hc5 hc6
      replace HB := Lib.hid (HB.out.trans (hb.mono HB.out.size))
      replace HV := Lib.hid (HV.out.below hb)
      replace HS := Lib.hid (HS.out.below elDeed_good hb)
      replace HC := Lib.hid (HC.out.below hb)
      replace HYV := Lib.hid (HYV.out.below hb)
      clear hb
      go_wp2_with fail
      rw [← HW6.out]
      refine (toDeedS_c D A5 c5 xs _ HS.out hxl).mono ?_
      rintro e w7 ⟨Y5, yy5, rfl, hs1, hb⟩
      have HYS : Hid (Sl 3 elDeed (fun _ => True) w7 Y5 yy5 xs) := Lib.hid (hs1.mono elDeed_good fun _ _ _ => trivial)
      clear hs1
      replace HB := Lib.hid (HB.out.trans (hb.mono HB.out.size))
      replace HV := Lib.hid (HV.out.below hb)
      replace HS := Lib.hid (HS.out.below elDeed_good hb)
      replace HC := Lib.hid (HC.out.below hb)
      replace HYV := Lib.hid (HYV.out.below hb)
      replace HD := Lib.hid (HD.out.below hb)
      clear hb
      obtain ⟨hc0, hc1, hc2, hc3, hc4, hc5, hc6⟩ := HC.out
      obtain ⟨hd0, hd1, hd2, hd3, hd4, hd5, hd6⟩ := HD.out
      go_wp2_with fail
      refine (impRefused_c (fun _ => True) Y0 yy0 Y1 yy1 Y2 yy2 Y3 yy3 Y4 yy4 d p Y5 yy5 xs _ HYV.out HYS.out).mono ?_
      rintro e w8 hr
      rw [← HR0.out, ← HR1.out, ← HR2.out] at hr
      obtain ⟨rfl, hb⟩ := hr
      clear hc0 hc1 hc2 hc3 hc4 hc5 hc6 hd0 hd1 hd2 hd3 hd4 hd5 hd6
      replace HB := Lib.hid (HB.out.trans (hb.mono HB.out.size))
      replace HV := Lib.hid (HV.out.below hb)
      replace HS := Lib.hid (HS.out.below elDeed_good hb)
      replace HC := Lib.hid (HC.out.below hb)
      replace HYV := Lib.hid (HYV.out.below hb)
      replace HD := Lib.hid (HD.out.below hb)
      replace HYS := Lib.hid (HYS.out.below elDeed_good hb)
      clear hb
      obtain ⟨hc0, hc1, hc2, hc3, hc4, hc5, hc6⟩ := HC.out
      obtain ⟨hd0, hd1, hd2, hd3, hd4, hd5, hd6⟩ := HD.out
      have HB8 : Hid (Below w8.heap.size w8 w8) := Lib.hid (Below.refl _ _)
      obtain ⟨S, hSI, hSE⟩ : ∃ S : World → Prop, (∀ w', S w' → w'.cell? ⟨w.heap.size, 0, none⟩ = some (.int .i64 d.stack) ∧ w'.cell? ⟨w.heap.size, 1, none⟩ = some (.int .i64 d.start) ∧ w'.cell? ⟨w.heap.size, 2, none⟩ = some (.slice A0 d.acc.length c0) ∧ w'.cell? ⟨w.heap.size, 3, none⟩ = some (.slice A1 d.call.length c1) ∧ w'.cell? ⟨w.heap.size, 4, none⟩ = some (.slice A2 d.ret.length c2) ∧ w'.cell? ⟨w.heap.size, 5, none⟩ = some (.slice A3 d.inn.length c3) ∧ w'.cell? ⟨w.heap.size, 6, none⟩ = some (.slice A4 p.length c4) ∧ w'.cell? ⟨w5.heap.size, 0, none⟩ = some (.int .i64 d.stack) ∧ w'.cell? ⟨w5.heap.size, 1, none⟩ = some (.int .i64 d.start) ∧ w'.cell? ⟨w5.heap.size, 2, none⟩ = some (.slice Y0 d.acc.length yy0) ∧ w'.cell? ⟨w5.heap.size, 3, none⟩ = some (.slice Y1 d.call.length yy1) ∧ w'.cell? ⟨w5.heap.size, 4, none⟩ = some (.slice Y2 d.ret.length yy2) ∧ w'.cell? ⟨w5.heap.size, 5, none⟩ = some (.slice Y3 d.inn.length yy3) ∧ w'.cell? ⟨w5.heap.size, 6, none⟩ = some (.slice Y4 p.length yy4)) ∧ ∀ w2, Below w8.heap.size w8 w2 → S w2 := by
        refine ⟨fun w' => Below w8.heap.size w8 w', fun w' h => ?_, fun w2 h => h⟩
        have h2 := (bcell h (Nat.le_refl _)).1
        exact ⟨(h2 _ _ (lt_of_cell hc0)).trans hc0, (h2 _ _ (lt_of_cell hc1)).trans hc1, (h2 _ _ (lt_of_cell hc2)).trans hc2, (h2 _ _ (lt_of_cell hc3)).trans hc3, (h2 _ _ (lt_of_cell hc4)).trans hc4, (h2 _ _ (lt_of_cell hc5)).trans hc5, (h2 _ _ (lt_of_cell hc6)).trans hc6, (h2 _ _ (lt_of_cell hd0)).trans hd0, (h2 _ _ (lt_of_cell hd1)).trans hd1, (h2 _ _ (lt_of_cell hd2)).trans hd2, (h2 _ _ (lt_of_cell hd3)).trans hd3, (h2 _ _ (lt_of_cell hd4)).trans hd4, (h2 _ _ (lt_of_cell hd5)).trans hd5, (h2 _ _ (lt_of_cell hd6)).trans hd6⟩
      have HSI := Lib.hid hSI
      have HSE := Lib.hid hSE
      clear hSI hSE
      go_wp2_with fail
      refine wp_region_L [] S (by kernel_rfl) (HSE.out _ (bel_drew (Below.refl _ _))) (fun hS => ?_)
      refine anyL_take (i := 0) (oi := ?oz0) (v := ?vz0) ?hz0 (by kernel_rfl) (by kernel_rfl) (by kernel_rfl) (by kernel_rfl) (by kernel_rfl) (fun _ _ _ h => h) (Or.inl ⟨?wz0, ?yz0⟩) hS ?_
      case hz0 => simp only [List.getElem?_toArray, List.getElem?_cons_zero]; rfl
      case wz0 => rfl
      case yz0 => (intro w hSw; replace hSw := HSI.out _ hSw; go_simp; try with_reducible rfl)
      try simp only [Act.put, List.setIfInBounds_toArray, List.set_cons_zero, List.set_cons_succ]
      refine anyL_take (i := 1) (oi := ?oz1) (v := ?vz1) ?hz1 (by kernel_rfl) (by kernel_rfl) (by kernel_rfl) (by kernel_rfl) (by kernel_rfl) (fun _ _ _ h => h) (Or.inl ⟨?wz1, ?yz1⟩) hS ?_
      case hz1 => simp only [List.getElem?_toArray, List.getElem?_cons_succ, List.getElem?_cons_zero]; rfl
      case wz1 => rfl
      case yz1 => (intro w hSw; replace hSw := HSI.out _ hSw; go_simp; try with_reducible rfl)
      try simp only [Act.put, List.setIfInBounds_toArray, List.set_cons_zero, List.set_cons_succ]
      refine anyL_one (i := 2) (o := ?oz2) (by kernel_rfl) ?hz2 ?wz2 (fun K hK => ?_)
      case hz2 => simp only [List.getElem?_toArray, List.getElem?_cons_succ, List.getElem?_cons_zero]; rfl
      case wz2 => rfl
      go_simp
      go_at_call 24
      refine (toStream_c D A0 c0 A1 c1 A2 c2 A3 c3 d A4 c4 p _ (HV.out.below (bel_drew (Below.refl _ _))).chk (HV.out.below (bel_drew (Below.refl _ _))).str hdb2 hpl2).mono ?_
      rintro e w9 ⟨Z0, zz0, Z1, zz1, Z2, zz2, Z3, zz3, Z4, zz4, rfl, hs1, hs2, hb⟩
      have HB9 : Hid (Below w8.heap.size w8 w9) := Lib.hid (Below.trans (bel_drew (Below.refl _ _)) hb)
      have HZV : Hid (StrAt (fun _ => True) w9 Z0 zz0 Z1 zz1 Z2 zz2 Z3 zz3 Z4 zz4 d p) := Lib.hid (StrAt.mono ⟨hs1, hs2⟩ fun _ _ _ => trivial)
      clear hs1 hs2 hb
      go_wp2_with fail
      refine hK _ _ (fun _ => HSE.out _ HB9.out) ?_
      replace hS := HSE.out _ HB9.out
      clear hK K
      try simp only [Act.put, List.setIfInBounds_toArray, List.set_cons_zero, List.set_cons_succ]
      refine anyL_one (i := 3) (o := ?oz3) (by kernel_rfl) ?hz3 ?wz3 (fun K hK => ?_)
      case hz3 => simp only [List.getElem?_toArray, List.getElem?_cons_succ, List.getElem?_cons_zero]; rfl
      case wz3 => rfl
      go_simp
      go_at_call 27
      refine (eqStream_c (fun _ => True) (fun _ => True) Y0 yy0 Y1 yy1 Y2 yy2 Y3 yy3 Y4 yy4 Z0 zz0 Z1 zz1 Z2 zz2 Z3 zz3 Z4 zz4 d p _ (HYV.out.below HB9.out).chk (HYV.out.below HB9.out).str HZV.out.chk HZV.out.str).mono ?_
      rintro e w10 ⟨rfl, hb⟩
      have HB10 : Hid (Below w8.heap.size w8 w10) := Lib.hid (HB9.out.trans (hb.mono HB9.out.size))
      clear hb
      go_wp2_with fail
      refine hK _ _ (fun _ => HSE.out _ HB10.out) ?_
      replace hS := HSE.out _ HB10.out
      clear hK K
      try simp only [Act.put, List.setIfInBounds_toArray, List.set_cons_zero, List.set_cons_succ]
      refine anyL_take0 (i := 4) (oi := ?oz4) (v := ?vz4) ?hz4 (by kernel_rfl) (by kernel_rfl) (by kernel_rfl) (by kernel_rfl) (fun _ _ _ h => h) (Or.inl ⟨?wz4, ?yz4⟩) (Or.inr hS) ?_
      case hz4 => simp only [List.getElem?_toArray, List.getElem?_cons_succ, List.getElem?_cons_zero]; rfl
      case wz4 => rfl
      case yz4 => (intro w; go_simp; try with_reducible rfl)
      try simp only [Act.put, List.setIfInBounds_toArray, List.set_cons_zero, List.set_cons_succ]
      refine anyL_end (by kernel_rfl) ?_ _
      have hb := HB10.out
      clear HB8 HB9 HB10 HSI HSE hS
      clear hc0 hc1 hc2 hc3 hc4 hc5 hc6 hd0 hd1 hd2 hd3 hd4 hd5 hd6
      replace HB := Lib.hid (HB.out.trans (hb.mono HB.out.size))
      replace HS := Lib.hid (HS.out.below elDeed_good hb)
      replace HYS := Lib.hid (HYS.out.below elDeed_good hb)
      clear hb
      go_wp2_with fail
      refine (toDeedS_c D A5 c5 xs _ HS.out hxl).mono ?_
      rintro e w11 ⟨Z5, zz5, rfl, hs1, hb⟩
      have HZS : Hid (Sl 3 elDeed (fun _ => True) w11 Z5 zz5 xs) := Lib.hid (hs1.mono elDeed_good fun _ _ _ => trivial)
      clear hs1
      replace HB := Lib.hid (HB.out.trans (hb.mono HB.out.size))
      replace HS := Lib.hid (HS.out.below elDeed_good hb)
      replace HYS := Lib.hid (HYS.out.below elDeed_good hb)
      clear hb
      go_wp2_with fail
      refine (eqDeedS_c (fun _ => True) (fun _ => True) Y5 yy5 Z5 zz5 xs _ HYS.out HZS.out).mono ?_
      rintro e w12 ⟨rfl, hb⟩
      replace HB := Lib.hid (HB.out.trans (hb.mono HB.out.size))
      clear hb
      go_wp2_with fail
      go_ret
      exact ⟨rfl, HB.out⟩
end Go.Proofs.YtcagdmaiemmfgaaGreat
