/- The program's depth and first refused deed come to what the plain run tells; for all streams and deeds. -/
import Derived.Test.YtcagdmaiemmfgaaGreatIm
import Derived.Test.YtcagdmaiemmfgaaGreatSp
namespace Go.Proofs.YtcagdmaiemmfgaaGreat
open Go.RowKit

set_option maxHeartbeats 1000000 in
theorem newWorks_c (D : Dom) (B : Nat) (A0 : Option Addr) (c0 : Nat) (A1 : Option Addr) (c1 : Nat) (A2 : Option Addr) (c2 : Nat) (A3 : Option Addr) (c3 : Nat) (A4 : Option Addr) (c4 : Nat) (d : Chk) (p : List ByteArray) (w : World) (hv : StrAt D w A0 c0 A1 c1 A2 c2 A3 c3 A4 c4 d p) (hB : B ≤ w.heap.size) (hD : ∀ k, D k → k < B) :
    Calls Tryz.prog 106 #[.agg (strV A0 c0 A1 c1 A2 c2 A3 c3 A4 c4 d p)] w fun e w' => ∃ g, e = .returned (.pointer (some ⟨g, 0, none⟩)) ∧ WorkS B w' g d p (begin_ d) none 0 none 0 ∧ Below w.heap.size w w' := by
  have HV := Lib.hid (hv.mono (D' := fun k => k < B) fun k h _ => hD k h)
  clear hv
  go_enter Tryz.func106, Tryz.ntmps106
  go_wp2_with fail
  obtain ⟨W, hW⟩ : ∃ W, W = (w.alloc (.cells (strV A0 c0 A1 c1 A2 c2 A3 c3 A4 c4 d p) 61)).alloc (.cells #[.int .i64 0, .int .i64 d.start, .slice none 0 0, .slice none 0 0] 80) := ⟨_, rfl⟩
  have hs : W.heap.size = w.heap.size + 1 + 1 := by rw [hW]; simp
  have hb : Below w.heap.size w W := Below.trans (b := w.alloc (.cells (strV A0 c0 A1 c1 A2 c2 A3 c3 A4 c4 d p) 61)) (bel1 _ _) (hW ▸ (bel1 _ _).mono (by simp))
  rw [← hW, ← hs]
  go_ret
  obtain ⟨cs, hcs⟩ : ∃ cs : Array Value, cs = #[.int .i64 0, .int .i64 d.start, .slice none 0 0, .slice none 0 0, .int .i64 0, .int .i64 d.start, .slice none 0 0, .slice none 0 0, .slice none 0 0, .int .i64 d.stack, .int .i64 d.start, .slice A0 d.acc.length c0, .slice A1 d.call.length c1, .slice A2 d.ret.length c2, .slice A3 d.inn.length c3, .slice A4 p.length c4] := ⟨_, rfl⟩
  have hc : ∀ j, (W.alloc (.cells cs 159)).cell? ⟨W.heap.size, j, none⟩ = cs[j]? := fun j => cell_new _ _ _ j
  have hv2 := HV.out.below (hb.trans ((bel1 W (.cells cs 159)).mono (by omega)))
  rw [← hcs]
  have hlen : cs.size = 16 := by rw [hcs]; rfl
  refine ⟨W.heap.size, rfl, ⟨by omega, ⟨cs, heap_alloc_new _ _, hlen⟩, (hc 0).trans (by rw [hcs]; rfl), (hc 1).trans (by rw [hcs]; rfl), ⟨none, 0, (hc 2).trans (by rw [hcs]; rfl), Sl.nil⟩, (hc 3).trans (by rw [hcs]; rfl), OwnSl.nil, desk_none _ _ _ _ _ ((hc 4).trans (by rw [hcs]; rfl)) ((hc 5).trans (by rw [hcs]; rfl)) ((hc 6).trans (by rw [hcs]; rfl)) ((hc 7).trans (by rw [hcs]; rfl)), (hc 8).trans (by rw [hcs]; rfl), OwnSl.nil,
    ⟨⟨(hc 9).trans (by rw [hcs]; rfl), (hc 10).trans (by rw [hcs]; rfl), A0, c0, A1, c1, A2, c2, A3, c3, (hc 11).trans (by rw [hcs]; rfl), (hc 12).trans (by rw [hcs]; rfl), (hc 13).trans (by rw [hcs]; rfl), (hc 14).trans (by rw [hcs]; rfl), hv2.chk⟩, A4, c4, (hc 15).trans (by rw [hcs]; rfl), hv2.str⟩, (fun b h => by rw [ownB_zero] at h; cases h), (fun b h => by rw [ownB_zero] at h; cases h)⟩, ?_⟩
  exact hb.trans ((bel1 _ _).mono (by omega))
/-- How many codes are 0. -/
def zeros : List Int → Nat
  | [] => 0
  | x :: xs => (if x = 0 then 1 else 0) + zeros xs
theorem zeros_app (xs : List Int) (x : Int) : zeros (xs ++ [x]) = zeros xs + (if x = 0 then 1 else 0) := by
  induction xs with
  | nil => simp [zeros]
  | cons y ys ih => simp only [List.cons_append, zeros, ih]; omega
theorem zeros_le (xs : List Int) : zeros xs ≤ xs.length := by
  induction xs with
  | nil => simp [zeros]
  | cons y ys ih =>
    simp only [zeros, List.length_cons]
    split <;> omega
/-- The works behind deeds are handed back, and how many deeds were done. -/
def RetAfter (d : Chk) (p : List ByteArray) (xs : List Deed) (w : World) (e : Ending) (w' : World) : Prop :=
  ∃ g A c A2 c2, e = .returned (.tuple #[.pointer (some ⟨g, 0, none⟩), .int .i64 (zeros (playC d p xs).2)]) ∧ WorkS w.heap.size w' g d p (playC d p xs).1 A c A2 c2 ∧ Below w.heap.size w w'
set_option maxHeartbeats 4000000 in
set_option maxRecDepth 100000 in
theorem after_c (D : Dom) (A0 : Option Addr) (c0 : Nat) (A1 : Option Addr) (c1 : Nat) (A2 : Option Addr) (c2 : Nat) (A3 : Option Addr) (c3 : Nat) (A4 : Option Addr) (c4 : Nat) (d : Chk) (p : List ByteArray) (A5 : Option Addr) (c5 : Nat) (xs : List Deed) (w : World) (hv : StrAt D w A0 c0 A1 c1 A2 c2 A3 c3 A4 c4 d p) (hs : Sl 3 elDeed D w A5 c5 xs) (hd : Dim d) (hw : ∀ s ∈ p, okWord s = true) (hp20 : p.length ≤ 20) (hx : ∀ x ∈ xs, okDeed x = true) (hn : xs.length ≤ 300) :
    Calls Tryz.prog 102 #[.agg (strV A0 c0 A1 c1 A2 c2 A3 c3 A4 c4 d p), .slice A5 xs.length c5] w (RetAfter d p xs w) := by
  have HV := Lib.hid (hv.mono (D' := fun k => k < w.heap.size) fun k _ h => h)
  have HS : Hid (Sl 3 elDeed (fun k => k < w.heap.size) w A5 c5 xs) := Lib.hid ((hs.lt elDeed_good).mono elDeed_good fun _ h _ => h.2)
  have HD := Lib.hid hd
  have HW := Lib.hid hw
  have HX := Lib.hid hx
  clear hv hs hd hw hx
  go_enter Tryz.func102, Tryz.ntmps102
  go_wp2_with (go_at_call 106; refine (newWorks_c _ w.heap.size A0 c0 A1 c1 A2 c2 A3 c3 A4 c4 d p _ (HV.out.below (bel1 _ _)) (by simp) (fun _ h => h)).mono ?_; rintro e w1 ⟨g, rfl, hr1, hb1⟩; have HR1 := Lib.hid hr1; have HB1 : Hid (Below w.heap.size w w1) := Lib.hid (Below.trans (bel1 _ _) (hb1.mono (by simp))); clear hr1 hb1)
  go_loopg [7, 14] xs.length (fun z v7 v14 wr => ∃ (k : Nat) (A : Option Addr) (c : Nat) (A2 : Option Addr) (c2 : Nat), k ≤ xs.length ∧ z = xs.length - k ∧ v14 = .int .i64 k ∧ v7 = .int .i64 (zeros (playC d p (xs.take k)).2) ∧ WorkS w.heap.size wr g d p (playC d p (xs.take k)).1 A c A2 c2 ∧ Below w.heap.size w wr)
  case atStart => exact ⟨0, none, 0, none, 0, by omega, by omega, rfl, rfl, HR1.out, HB1.out⟩
  case round =>
    clear HR1 HB1
    obtain ⟨k, A, c, A8, c8, hk, hz, rfl, rfl, hr, hb⟩ := hrel
    have HZ := Lib.hid hz
    have HR := Lib.hid hr
    have HB := Lib.hid hb
    clear hz hr hb
    by_cases hlt : k < xs.length
    · obtain ⟨bx, ox, rfl, d0, d1, d2⟩ := (HS.out.keep elDeed_good fun k hk => HB.out.block k hk).at_ hlt
      have HT := Lib.hid (playC_take (d := d) (p := p) hlt)
      have HXK := Lib.hid (HX.out _ (List.getElem_mem hlt))
      have HPK := Lib.hid (playC_ok HD.out HW.out HX.out (k := k) (by omega) (p := p))
      have HLN := Lib.hid (playC_len (d := d) (p := p) (xs := xs) (k := k) (by omega))
      have HZN : Hid (zeros (playC d p (xs.take (k + 1))).2 = zeros (playC d p (xs.take k)).2 + (if (doC d p (playC d p (xs.take k)).1 xs[k]).2 = 0 then 1 else 0)) := Lib.hid (by rw [HT.out, zeros_app])
      have hz1 : zeros (playC d p (xs.take k)).2 ≤ 300 := by have := zeros_le (playC d p (xs.take k)).2; have := HLN.out; omega
      generalize xs[k] = x at *
      generalize playC d p (xs.take k) = pk at *
      generalize zeros pk.2 = zn at *
      have HST : Hid (∀ w2 A c A2 c2, WorkS w.heap.size w2 g d p (doC d p pk.1 x).1 A c A2 c2 → WorkS w.heap.size w2 g d p (playC d p (xs.take (k + 1))).1 A c A2 c2) := Lib.hid fun w2 A c A2 c2 h => by rw [HT.out]; exact h
      have hi0 : (0 : Int) ≤ k := by omega
      have hi1 : (k : Int) < xs.length := by omega
      have HDO : Hid (∀ w1, Below wr.heap.size wr w1 → Calls Tryz.prog 107 #[.pointer (some ⟨g, 0, none⟩), .agg #[.int .i64 x.kind, .int .i64 x.a, .int .i64 x.b]] w1 (RetWork w.heap.size g d p pk.1 x w1)) := Lib.hid fun w1 hb => wdo_c w.heap.size g pk.1 A c A8 c8 d p x w1 (HR.out.below hb) HD.out HW.out hp20 HPK.out HXK.out
      by_cases hco : (doC d p pk.1 x).2 = 0
      · have HZ2 : Hid (zeros (playC d p (xs.take (k + 1))).2 = zn + 1) := Lib.hid (by rw [HZN.out, if_pos hco])
        generalize hcode : (doC d p pk.1 x).2 = code at *
        subst hco
        have HC := Lib.hid hcode
        clear hcode
        go_wp2_with (go_at_call 107; refine (HDO.out _ (bel1 _ _)).mono ?_; rintro e w2 ⟨A6, c6, A7, c7, rfl, hr2, hb2⟩; rw [HC.out]; have HR2 := Lib.hid (HST.out _ _ _ _ _ hr2); have HB2 : Hid (Below w.heap.size w w2) := Lib.hid (HB.out.trans (((bel1 wr _).mono HB.out.size).trans hb2)); clear hr2 hb2)
        go_roundg (xs.length - (k + 1))
        case measure => have := HZ.out; omega
        case rel => exact ⟨k + 1, A6, c6, A7, c7, by omega, rfl, by go_num, by rw [HZ2.out]; go_num, HR2.out, HB2.out⟩
      · have HZ2 : Hid (zeros (playC d p (xs.take (k + 1))).2 = zn) := Lib.hid (by rw [HZN.out, if_neg hco]; omega)
        generalize hcode : (doC d p pk.1 x).2 = code at *
        have hco2 : (code == 0) = false := beq_eq_false_iff_ne.2 hco
        have HC := Lib.hid hcode
        clear hcode hco
        go_wp2_with (go_at_call 107; refine (HDO.out _ (bel1 _ _)).mono ?_; rintro e w2 ⟨A6, c6, A7, c7, rfl, hr2, hb2⟩; rw [HC.out]; have HR2 := Lib.hid (HST.out _ _ _ _ _ hr2); have HB2 : Hid (Below w.heap.size w w2) := Lib.hid (HB.out.trans (((bel1 wr _).mono HB.out.size).trans hb2)); clear hr2 hb2)
        go_roundg (xs.length - (k + 1))
        case measure => have := HZ.out; omega
        case rel => exact ⟨k + 1, A6, c6, A7, c7, by omega, rfl, by go_num, by rw [HZ2.out], HR2.out, HB2.out⟩
    · have hke : k = xs.length := by omega
      subst hke
      have HTL := Lib.hid (List.take_length (l := xs))
      go_wp2_with fail
      go_ret2
      refine ⟨g, A, c, A8, c8, by rw [HTL.out]; rfl, by have := HR.out; rw [HTL.out] at this; exact this, HB.out⟩
set_option maxHeartbeats 1000000 in
set_option maxRecDepth 100000 in
theorem impDepth_c (D : Dom) (A0 : Option Addr) (c0 : Nat) (A1 : Option Addr) (c1 : Nat) (A2 : Option Addr) (c2 : Nat) (A3 : Option Addr) (c3 : Nat) (A4 : Option Addr) (c4 : Nat) (d : Chk) (p : List ByteArray) (A5 : Option Addr) (c5 : Nat) (xs : List Deed) (w : World) (hv : StrAt D w A0 c0 A1 c1 A2 c2 A3 c3 A4 c4 d p) (hs : Sl 3 elDeed D w A5 c5 xs) :
    Calls Tryz.prog 26 #[.agg (strV A0 c0 A1 c1 A2 c2 A3 c3 A4 c4 d p), .slice A5 xs.length c5] w (Ret2 (depthC d p xs).1 (depthC d p xs).2 w) := by
  obtain ⟨W, hW⟩ : ∃ W, W = w.alloc (.cells (strV A0 c0 A1 c1 A2 c2 A3 c3 A4 c4 d p) 61) := ⟨_, rfl⟩
  have HB : Hid (Below w.heap.size w W) := Lib.hid (hW ▸ bel1 w _)
  have HV : Hid (StrAt D W A0 c0 A1 c1 A2 c2 A3 c3 A4 c4 d p) := Lib.hid (hv.below HB.out)
  have HS : Hid (Sl 3 elDeed D W A5 c5 xs) := Lib.hid (hs.below elDeed_good HB.out)
  have HC : Hid (∀ j, W.cell? ⟨w.heap.size, j, none⟩ = (strV A0 c0 A1 c1 A2 c2 A3 c3 A4 c4 d p)[j]?) := Lib.hid fun j => by rw [hW]; exact cell_new _ _ _ j
  have HWe := Lib.hid hW
  clear hv hs hW
  by_cases ha : askedC d p xs = 0
  · have HR : Hid (depthC d p xs = ((((playC d p xs).1.desk.stack.length : Nat) : Int), 0)) := Lib.hid (by unfold depthC; rw [if_pos ha])
    have HA := Lib.hid ha
    obtain ⟨z1, z2, z3, z4, z5⟩ := asked_zero ha
    have hle : (playC d p xs).1.desk.stack.length ≤ 1048576 := by
      have h1 := (playC_ok z1 z2 z4 (Nat.le_refl _) (p := p)).desk
      rw [List.take_length] at h1
      have h2 := h1.at_.len
      have h3 := h1.r1
      simp only at h2 h3
      omega
    have Z1 := Lib.hid z1
    have Z2 := Lib.hid z2
    have Z4 := Lib.hid z4
    clear ha z1 z2 z4
    go_enter Tryz.func26, Tryz.ntmps26
    go_wp2_with (first
      | (go_at_call 101; rw [← HWe.out]; refine (deedsCode_c D A0 c0 A1 c1 A2 c2 A3 c3 A4 c4 d p A5 c5 xs W HV.out HS.out).mono ?_; rintro e w1 ⟨rfl, hb1⟩; have HB1 := Lib.hid hb1; rw [HA.out]; have k0 := ((bcell hb1 (Nat.le_refl _)).1 _ _ (lt_of_cell (HC.out 0))).trans (HC.out 0); have k1 := ((bcell hb1 (Nat.le_refl _)).1 _ _ (lt_of_cell (HC.out 1))).trans (HC.out 1); have k2 := ((bcell hb1 (Nat.le_refl _)).1 _ _ (lt_of_cell (HC.out 2))).trans (HC.out 2); have k3 := ((bcell hb1 (Nat.le_refl _)).1 _ _ (lt_of_cell (HC.out 3))).trans (HC.out 3); have k4 := ((bcell hb1 (Nat.le_refl _)).1 _ _ (lt_of_cell (HC.out 4))).trans (HC.out 4); have k5 := ((bcell hb1 (Nat.le_refl _)).1 _ _ (lt_of_cell (HC.out 5))).trans (HC.out 5); have k6 := ((bcell hb1 (Nat.le_refl _)).1 _ _ (lt_of_cell (HC.out 6))).trans (HC.out 6); simp only [strV, List.getElem?_toArray, List.getElem?_cons_succ, List.getElem?_cons_zero] at k0 k1 k2 k3 k4 k5 k6; clear hb1)
      | (go_at_call 102; refine (after_c D A0 c0 A1 c1 A2 c2 A3 c3 A4 c4 d p A5 c5 xs w1 (HV.out.below HB1.out) (HS.out.below elDeed_good HB1.out) Z1.out Z2.out z3 Z4.out z5).mono ?_; rintro e w2 ⟨g, A, c, A7, c7, rfl, hr2, hb2⟩; obtain ⟨A6, c6, e3, _⟩ := hr2.stack; have HB2 := Lib.hid hb2; clear hr2 hb2)
      | (go_at_call 103; refine (size1_c _ _ _ _).mono ?_; rintro e w' ⟨rfl, rfl⟩))
    go_ret2
    exact ⟨by rw [HR.out]; rfl, HB.out.trans ((HB1.out.trans (HB2.out.mono HB1.out.size)).mono HB.out.size)⟩
  · have HR : Hid (depthC d p xs = (0, askedC d p xs)) := Lib.hid (by unfold depthC; rw [if_neg ha])
    have ha2 : (askedC d p xs != 0) = true := bne_iff_ne.2 ha
    generalize hcode : askedC d p xs = code at *
    have HA : Hid (askedC d p xs = code) := Lib.hid hcode
    clear ha hcode
    go_enter Tryz.func26, Tryz.ntmps26
    go_wp2_with (go_at_call 101; rw [← HWe.out]; refine (deedsCode_c D A0 c0 A1 c1 A2 c2 A3 c3 A4 c4 d p A5 c5 xs W HV.out HS.out).mono ?_; rintro e w1 ⟨rfl, hb1⟩; have HB1 := Lib.hid hb1; rw [HA.out]; clear hb1)
    go_ret2
    exact ⟨by rw [HR.out]; rfl, HB.out.trans (HB1.out.mono HB.out.size)⟩
theorem play_from (d : Chk) (p : List ByteArray) : ∀ (ys : List Deed) (r : PlantP × List Int), ∃ t, (ys.foldl (fun r x => ((doC d p r.1 x).1, r.2 ++ [(doC d p r.1 x).2])) r).2 = r.2 ++ t
  | [], r => ⟨[], by simp⟩
  | y :: ys, r => by
    obtain ⟨t, ht⟩ := play_from d p ys ((doC d p r.1 y).1, r.2 ++ [(doC d p r.1 y).2])
    exact ⟨(doC d p r.1 y).2 :: t, by rw [List.foldl_cons, ht]; simp⟩
theorem play_code {d : Chk} {p : List ByteArray} {xs : List Deed} {k : Nat} (h : k < xs.length) : (playC d p xs).2[k]? = some (doC d p (playC d p (xs.take k)).1 xs[k]).2 := by
  obtain ⟨t, ht⟩ := play_from d p (xs.drop (k + 1)) (playC d p (xs.take (k + 1)))
  have e : (playC d p xs).2 = (playC d p (xs.take (k + 1))).2 ++ t := by
    rw [← ht]
    conv => lhs; rw [← List.take_append_drop (k + 1) xs]
    unfold playC
    rw [List.foldl_append]
  rw [e, playC_take h]
  simp only
  have hl := playC_len (d := d) (p := p) (xs := xs) (k := k) (by omega)
  rw [List.append_assoc, List.getElem?_append_right (by omega), hl]
  simp
set_option maxHeartbeats 4000000 in
set_option maxRecDepth 100000 in
theorem impRefused_c (D : Dom) (A0 : Option Addr) (c0 : Nat) (A1 : Option Addr) (c1 : Nat) (A2 : Option Addr) (c2 : Nat) (A3 : Option Addr) (c3 : Nat) (A4 : Option Addr) (c4 : Nat) (d : Chk) (p : List ByteArray) (A5 : Option Addr) (c5 : Nat) (xs : List Deed) (w : World) (hv : StrAt D w A0 c0 A1 c1 A2 c2 A3 c3 A4 c4 d p) (hs : Sl 3 elDeed D w A5 c5 xs) :
    Calls Tryz.prog 30 #[.agg (strV A0 c0 A1 c1 A2 c2 A3 c3 A4 c4 d p), .slice A5 xs.length c5] w (Ret3 (refusedC d p xs).1 (refusedC d p xs).2.1 (refusedC d p xs).2.2 w) := by
  obtain ⟨W, hW⟩ : ∃ W, W = w.alloc (.cells (strV A0 c0 A1 c1 A2 c2 A3 c3 A4 c4 d p) 61) := ⟨_, rfl⟩
  have HB : Hid (Below w.heap.size w W) := Lib.hid (hW ▸ bel1 w _)
  have HV : Hid (StrAt (fun k => k < w.heap.size) W A0 c0 A1 c1 A2 c2 A3 c3 A4 c4 d p) := Lib.hid ((hv.mono (D' := fun k => k < w.heap.size) fun k _ h => h).below HB.out)
  have HS : Hid (Sl 3 elDeed (fun k => k < w.heap.size) W A5 c5 xs) := Lib.hid (((hs.lt elDeed_good).mono (D' := fun k => k < w.heap.size) elDeed_good fun _ h _ => h.2).below elDeed_good HB.out)
  have HC : Hid (∀ j, W.cell? ⟨w.heap.size, j, none⟩ = (strV A0 c0 A1 c1 A2 c2 A3 c3 A4 c4 d p)[j]?) := Lib.hid fun j => by rw [hW]; exact cell_new _ _ _ j
  have HWe := Lib.hid hW
  clear hv hs hW
  by_cases ha : askedC d p xs = 0
  · have HR : Hid (refusedC d p xs = badOut (firstBad (playC d p xs).2 0)) := Lib.hid (by unfold refusedC; rw [if_pos ha])
    have HA := Lib.hid ha
    obtain ⟨z1, z2, z3, z4, z5⟩ := asked_zero ha
    have hcl : (playC d p xs).2.length = xs.length := by have h := playC_len (d := d) (p := p) (xs := xs) (Nat.le_refl _); rwa [List.take_length] at h
    have HCL := Lib.hid hcl
    have HCK : Hid (∀ k (h : k < xs.length), firstBad ((playC d p xs).2.drop k) k = if (doC d p (playC d p (xs.take k)).1 xs[k]).2 = 0 then firstBad ((playC d p xs).2.drop (k + 1)) (k + 1) else some (k, (doC d p (playC d p (xs.take k)).1 xs[k]).2)) := Lib.hid fun k h => by
      have h1 := play_code (d := d) (p := p) h
      obtain ⟨h2, h3⟩ := List.getElem?_eq_some_iff.1 h1
      rw [firstBad_cons h2, h3]
    have Z1 := Lib.hid z1
    have Z2 := Lib.hid z2
    have Z4 := Lib.hid z4
    clear ha z1 z2 z4 hcl
    go_enter Tryz.func30, Tryz.ntmps30
    go_wp2_with (first
      | (go_at_call 101; rw [← HWe.out]; refine (deedsCode_c _ A0 c0 A1 c1 A2 c2 A3 c3 A4 c4 d p A5 c5 xs W HV.out HS.out).mono ?_; rintro e w1 ⟨rfl, hb1⟩; have HB1 := Lib.hid hb1; rw [HA.out]; have k0 := ((bcell hb1 (Nat.le_refl _)).1 _ _ (lt_of_cell (HC.out 0))).trans (HC.out 0); have k1 := ((bcell hb1 (Nat.le_refl _)).1 _ _ (lt_of_cell (HC.out 1))).trans (HC.out 1); have k2 := ((bcell hb1 (Nat.le_refl _)).1 _ _ (lt_of_cell (HC.out 2))).trans (HC.out 2); have k3 := ((bcell hb1 (Nat.le_refl _)).1 _ _ (lt_of_cell (HC.out 3))).trans (HC.out 3); have k4 := ((bcell hb1 (Nat.le_refl _)).1 _ _ (lt_of_cell (HC.out 4))).trans (HC.out 4); have k5 := ((bcell hb1 (Nat.le_refl _)).1 _ _ (lt_of_cell (HC.out 5))).trans (HC.out 5); have k6 := ((bcell hb1 (Nat.le_refl _)).1 _ _ (lt_of_cell (HC.out 6))).trans (HC.out 6); simp only [strV, List.getElem?_toArray, List.getElem?_cons_succ, List.getElem?_cons_zero] at k0 k1 k2 k3 k4 k5 k6; clear hb1)
      | (go_at_call 106; refine (newWorks_c _ w.heap.size A0 c0 A1 c1 A2 c2 A3 c3 A4 c4 d p w1 (HV.out.below HB1.out) (Nat.le_trans HB.out.size HB1.out.size) (fun _ h => h)).mono ?_; rintro e w2 ⟨g, rfl, hr2, hb2⟩; have HR2 := Lib.hid hr2; have HB2 : Hid (Below w.heap.size w w2) := Lib.hid (HB.out.trans ((HB1.out.trans (hb2.mono HB1.out.size)).mono HB.out.size)); clear hr2 hb2))
    clear k0 k1 k2 k3 k4 k5 k6
    have HSx : Hid (Sl 3 elDeed (fun k => k < w.heap.size) w A5 c5 xs) := Lib.hid (HS.out.keep elDeed_good fun k hk => (HB.out.block k hk).symm)
    go_loopg [22] xs.length (fun z v wr => ∃ (k : Nat) (A : Option Addr) (c : Nat) (A8 : Option Addr) (c8 : Nat), k ≤ xs.length ∧ z = xs.length - k ∧ v = .int .i64 k ∧ refusedC d p xs = badOut (firstBad ((playC d p xs).2.drop k) k) ∧ WorkS w.heap.size wr g d p (playC d p (xs.take k)).1 A c A8 c8 ∧ Below w.heap.size w wr)
    case atStart => exact ⟨0, none, 0, none, 0, by omega, by omega, rfl, HR.out, HR2.out, HB2.out⟩
    case round =>
      clear HR2 HB2 HR
      obtain ⟨k, A, c, A8, c8, hk, hz, rfl, hf, hr, hb⟩ := hrel
      have HZ := Lib.hid hz
      have HF := Lib.hid hf
      have HR := Lib.hid hr
      have HBR := Lib.hid hb
      clear hz hf hr hb
      by_cases hlt : k < xs.length
      · obtain ⟨bx, ox, rfl, d0, d1, d2⟩ := (HSx.out.keep elDeed_good fun k hk => HBR.out.block k hk).at_ hlt
        have HT := Lib.hid (playC_take (d := d) (p := p) hlt)
        have HXK := Lib.hid (Z4.out _ (List.getElem_mem hlt))
        have HPK := Lib.hid (playC_ok Z1.out Z2.out Z4.out (k := k) (by omega) (p := p))
        have HCk := Lib.hid (HCK.out k hlt)
        generalize xs[k] = x at *
        generalize playC d p (xs.take k) = pk at *
        have HST : Hid (∀ w2 A c A2 c2, WorkS w.heap.size w2 g d p (doC d p pk.1 x).1 A c A2 c2 → WorkS w.heap.size w2 g d p (playC d p (xs.take (k + 1))).1 A c A2 c2) := Lib.hid fun w2 A c A2 c2 h => by rw [HT.out]; exact h
        have hi0 : (0 : Int) ≤ k := by omega
        have hi1 : (k : Int) < xs.length := by omega
        have HDO : Hid (∀ w1, Below wr.heap.size wr w1 → Calls Tryz.prog 107 #[.pointer (some ⟨g, 0, none⟩), .agg #[.int .i64 x.kind, .int .i64 x.a, .int .i64 x.b]] w1 (RetWork w.heap.size g d p pk.1 x w1)) := Lib.hid fun w1 hb => wdo_c w.heap.size g pk.1 A c A8 c8 d p x w1 (HR.out.below hb) Z1.out Z2.out z3 HPK.out HXK.out
        by_cases hco : (doC d p pk.1 x).2 = 0
        · have HN : Hid (refusedC d p xs = badOut (firstBad ((playC d p xs).2.drop (k + 1)) (k + 1))) := Lib.hid (by rw [HF.out, HCk.out, if_pos hco])
          generalize hcode : (doC d p pk.1 x).2 = code at *
          subst hco
          have HC := Lib.hid hcode
          clear hcode
          go_wp2_with (go_at_call 107; refine (HDO.out _ (bel1 _ _)).mono ?_; rintro e w3 ⟨A6, c6, A7, c7, rfl, hr2, hb2⟩; rw [HC.out]; have HR3 := Lib.hid (HST.out _ _ _ _ _ hr2); have HB3 : Hid (Below w.heap.size w w3) := Lib.hid (HBR.out.trans (((bel1 wr _).mono HBR.out.size).trans hb2)); clear hr2 hb2)
          go_roundg (xs.length - (k + 1))
          case measure => have := HZ.out; omega
          case rel => exact ⟨k + 1, A6, c6, A7, c7, by omega, rfl, by go_num, HN.out, HR3.out, HB3.out⟩
        · have HN : Hid (refusedC d p xs = ((k : Int), (doC d p pk.1 x).2, 0)) := Lib.hid (by rw [HF.out, HCk.out, if_neg hco]; rfl)
          generalize hcode : (doC d p pk.1 x).2 = code at *
          have hco2 : (code != 0) = true := bne_iff_ne.2 hco
          have HC := Lib.hid hcode
          clear hcode hco
          go_wp2_with (go_at_call 107; refine (HDO.out _ (bel1 _ _)).mono ?_; rintro e w3 ⟨A6, c6, A7, c7, rfl, hr2, hb2⟩; rw [HC.out]; have HB3 : Hid (Below w.heap.size w w3) := Lib.hid (HBR.out.trans (((bel1 wr _).mono HBR.out.size).trans hb2)); clear hr2 hb2)
          go_ret3
          exact ⟨by rw [HN.out]; rfl, HB3.out⟩
      · have HN : Hid (refusedC d p xs = (0, 0, 6)) := Lib.hid (by rw [HF.out, firstBad_nil (by rw [HCL.out]; omega)]; rfl)
        go_wp2_with fail
        go_ret3
        exact ⟨by rw [HN.out]; rfl, HBR.out⟩
  · have HR : Hid (refusedC d p xs = (0, 0, askedC d p xs)) := Lib.hid (by unfold refusedC; rw [if_neg ha])
    have ha2 : (askedC d p xs != 0) = true := bne_iff_ne.2 ha
    generalize hcode : askedC d p xs = code at *
    have HA : Hid (askedC d p xs = code) := Lib.hid hcode
    clear ha hcode
    go_enter Tryz.func30, Tryz.ntmps30
    go_wp2_with (go_at_call 101; rw [← HWe.out]; refine (deedsCode_c _ A0 c0 A1 c1 A2 c2 A3 c3 A4 c4 d p A5 c5 xs W HV.out HS.out).mono ?_; rintro e w1 ⟨rfl, hb1⟩; have HB1 := Lib.hid hb1; rw [HA.out]; clear hb1)
    go_ret3
    exact ⟨by rw [HR.out]; rfl, HB.out.trans (HB1.out.mono HB.out.size)⟩
end Go.Proofs.YtcagdmaiemmfgaaGreat
