/- The reference's depth and first refused deed come to what the plain run tells; for all streams and deeds. -/
import Derived.Test.YtcagdmaiemmfgaaGreatSo
namespace Go.Proofs.YtcagdmaiemmfgaaGreat
open Go.RowKit

theorem bel_drewN {B : Nat} {a b : World} (h : Below B a b) (m : Nat) : Below B a (b.drewN m) := ⟨h.os, h.tape, h.output, h.size, h.block⟩
theorem asked_zero {d : Chk} {p : List ByteArray} {xs : List Deed} (h : askedC d p xs = 0) : Dim d ∧ (∀ s ∈ p, okWord s = true) ∧ p.length ≤ 20 ∧ (∀ x ∈ xs, okDeed x = true) ∧ xs.length ≤ 300 := by
  unfold askedC at h
  split at h
  · next h1 =>
    split at h
    · next h2 =>
      obtain ⟨h3, h4⟩ := h1
      unfold okStream at h3
      simp only [Bool.and_eq_true, inB_iff, List.all_eq_true] at h3 h4
      exact ⟨dim_of_ok h3.1.1.1, h3.1.2, by omega, h4, h2⟩
    · cases h
  · cases h
theorem asked_nat (d : Chk) (p : List ByteArray) (xs : List Deed) : askedC d p xs = 0 ∨ askedC d p xs = 1 ∨ askedC d p xs = 2 := by
  unfold askedC
  split
  · split
    · exact .inl rfl
    · exact .inr (.inr rfl)
  · exact .inr (.inl rfl)
/-- What stands on the stack behind deeds, and the code. -/
def depthC (d : Chk) (p : List ByteArray) (xs : List Deed) : Int × Int := if askedC d p xs = 0 then (((playC d p xs).1.desk.stack.length : Nat), 0) else (0, askedC d p xs)
/-- The place of the first code that is not 0, from k on. -/
def firstBad : List Int → Nat → Option (Nat × Int)
  | [], _ => none
  | c :: cs, k => if c = 0 then firstBad cs (k + 1) else some (k, c)
def badOut : Option (Nat × Int) → Int × Int × Int
  | none => (0, 0, 6)
  | some (k, c) => ((k : Int), c, 0)
def refusedC (d : Chk) (p : List ByteArray) (xs : List Deed) : Int × Int × Int :=
  if askedC d p xs = 0 then badOut (firstBad (playC d p xs).2 0) else (0, 0, askedC d p xs)
/-- A stream by value lies in memory. -/
structure StrAt (D : Dom) (w : World) (A0 : Option Addr) (c0 : Nat) (A1 : Option Addr) (c1 : Nat) (A2 : Option Addr) (c2 : Nat) (A3 : Option Addr) (c3 : Nat) (A4 : Option Addr) (c4 : Nat) (d : Chk) (p : List ByteArray) : Prop where
  chk : ChkAt D w A0 c0 A1 c1 A2 c2 A3 c3 d
  str : Sl 1 elStr D w A4 c4 p
abbrev strV (A0 : Option Addr) (c0 : Nat) (A1 : Option Addr) (c1 : Nat) (A2 : Option Addr) (c2 : Nat) (A3 : Option Addr) (c3 : Nat) (A4 : Option Addr) (c4 : Nat) (d : Chk) (p : List ByteArray) : Array Value :=
  #[.int .i64 d.stack, .int .i64 d.start, .slice A0 d.acc.length c0, .slice A1 d.call.length c1, .slice A2 d.ret.length c2, .slice A3 d.inn.length c3, .slice A4 p.length c4]
section
variable {D : Dom} {w w' : World} {A0 : Option Addr} {c0 : Nat} {A1 : Option Addr} {c1 : Nat} {A2 : Option Addr} {c2 : Nat} {A3 : Option Addr} {c3 : Nat} {A4 : Option Addr} {c4 : Nat} {d : Chk} {p : List ByteArray}
theorem StrAt.below (h : StrAt D w A0 c0 A1 c1 A2 c2 A3 c3 A4 c4 d p) (hb : Below w.heap.size w w') : StrAt D w' A0 c0 A1 c1 A2 c2 A3 c3 A4 c4 d p := ⟨h.chk.below hb, h.str.below elStr_good hb⟩
theorem StrAt.mono {D' : Dom} (h : StrAt D w A0 c0 A1 c1 A2 c2 A3 c3 A4 c4 d p) (hd : ∀ k, D k → k < w.heap.size → D' k) : StrAt D' w A0 c0 A1 c1 A2 c2 A3 c3 A4 c4 d p := ⟨h.chk.mono hd, h.str.mono elStr_good hd⟩
theorem StrAt.ptr (h : StrAt D w A0 c0 A1 c1 A2 c2 A3 c3 A4 c4 d p) (t : TypeId) : StrPtr D (w.alloc (.cells (strV A0 c0 A1 c1 A2 c2 A3 c3 A4 c4 d p) t)) w.heap.size 0 d p := by
  have hb := bel1 w (.cells (strV A0 c0 A1 c1 A2 c2 A3 c3 A4 c4 d p) t)
  refine ⟨⟨?_, ?_, A0, c0, A1, c1, A2, c2, A3, c3, ?_, ?_, ?_, ?_, h.chk.below hb⟩, A4, c4, ?_, h.str.below elStr_good hb⟩ <;> (rw [cell_new]; rfl)
end
/-- Two numbers are handed back. -/
def Ret2 (a b : Int) (w : World) (e : Ending) (w' : World) : Prop := e = .returned (.tuple #[.int .i64 a, .int .i64 b]) ∧ Below w.heap.size w w'
def Ret3 (a b c : Int) (w : World) (e : Ending) (w' : World) : Prop := e = .returned (.tuple #[.int .i64 a, .int .i64 b, .int .i64 c]) ∧ Below w.heap.size w w'
set_option maxHeartbeats 1000000 in
set_option maxRecDepth 100000 in
theorem refDepth_c (D : Dom) (A0 : Option Addr) (c0 : Nat) (A1 : Option Addr) (c1 : Nat) (A2 : Option Addr) (c2 : Nat) (A3 : Option Addr) (c3 : Nat) (A4 : Option Addr) (c4 : Nat) (d : Chk) (p : List ByteArray) (A5 : Option Addr) (c5 : Nat) (xs : List Deed) (w : World) (hv : StrAt D w A0 c0 A1 c1 A2 c2 A3 c3 A4 c4 d p) (hs : Sl 3 elDeed D w A5 c5 xs) :
    Calls Tryz.prog 23 #[.agg (strV A0 c0 A1 c1 A2 c2 A3 c3 A4 c4 d p), .slice A5 xs.length c5] w (Ret2 (depthC d p xs).1 (depthC d p xs).2 w) := by
  obtain ⟨W, hW⟩ : ∃ W, W = w.alloc (.cells (strV A0 c0 A1 c1 A2 c2 A3 c3 A4 c4 d p) 61) := ⟨_, rfl⟩
  have HP : Hid (StrPtr D W w.heap.size 0 d p) := Lib.hid (hW ▸ hv.ptr _)
  have HB : Hid (Below w.heap.size w W) := Lib.hid (hW ▸ bel1 w _)
  have HS : Hid (Sl 3 elDeed D W A5 c5 xs) := Lib.hid (hs.below elDeed_good HB.out)
  have HWe := Lib.hid hW
  clear hv hs hW
  by_cases ha : askedC d p xs = 0
  · have HR : Hid (depthC d p xs = ((((playC d p xs).1.desk.stack.length : Nat) : Int), 0)) := Lib.hid (by unfold depthC; rw [if_pos ha])
    have HA := Lib.hid ha
    obtain ⟨z1, z2, z3, z4, z5⟩ := asked_zero ha
    have Z1 := Lib.hid z1
    have Z2 := Lib.hid z2
    have Z4 := Lib.hid z4
    clear ha z1 z2 z4
    go_enter Tryz.func23, Tryz.ntmps23
    go_wp2_with (first | (go_at_call 97; rw [← HWe.out]; refine (l08Asked_c D _ 0 d p A5 c5 xs W HP.out HS.out).mono ?_; rintro e w1 ⟨rfl, hb1⟩; have HB1 := Lib.hid hb1; rw [HA.out]; clear hb1) | (go_at_call 98; refine (l08Play_c D _ 0 d p A5 c5 xs w1 (HP.out.below HB1.out) (HS.out.below elDeed_good HB1.out) Z1.out Z2.out z3 Z4.out z5).mono ?_; rintro e w2 ⟨g, A, c, v, X, rfl, hr2, _, hb2⟩; obtain ⟨_, _, ⟨A6, c6, e3, _⟩, _⟩ := hr2.desk; simp only [Nat.reduceAdd] at e3; have hle : (playC d p xs).1.desk.stack.length ≤ 1048576 := by { have h1 := (playC_ok Z1.out Z2.out Z4.out (Nat.le_refl _) (p := p)).desk; rw [List.take_length] at h1; have h2 := h1.at_.len; have h3 := h1.r1; simp only at h2 h3; omega }; have HB2 := Lib.hid hb2; clear hr2 hb2))
    go_ret2
    exact ⟨by rw [HR.out]; rfl, HB.out.trans ((HB1.out.trans (HB2.out.mono HB1.out.size)).mono HB.out.size)⟩
  · have HR : Hid (depthC d p xs = (0, askedC d p xs)) := Lib.hid (by unfold depthC; rw [if_neg ha])
    have ha2 : (askedC d p xs != 0) = true := bne_iff_ne.2 ha
    generalize hcode : askedC d p xs = code at *
    have HA : Hid (askedC d p xs = code) := Lib.hid hcode
    clear ha hcode
    go_enter Tryz.func23, Tryz.ntmps23
    go_wp2_with (go_at_call 97; rw [← HWe.out]; refine (l08Asked_c D _ 0 d p A5 c5 xs W HP.out HS.out).mono ?_; rintro e w1 ⟨rfl, hb1⟩; have HB1 := Lib.hid hb1; rw [HA.out]; clear hb1)
    go_ret2
    exact ⟨by rw [HR.out]; rfl, HB.out.trans (HB1.out.mono HB.out.size)⟩
theorem firstBad_nil {cs : List Int} {k : Nat} (h : cs.length ≤ k) : firstBad (cs.drop k) k = none := by
  rw [List.drop_eq_nil_of_le h]; rfl
theorem firstBad_cons {cs : List Int} {k : Nat} (h : k < cs.length) : firstBad (cs.drop k) k = if cs[k] = 0 then firstBad (cs.drop (k + 1)) (k + 1) else some (k, cs[k]) := by
  rw [List.drop_eq_getElem_cons h]; rfl
set_option maxHeartbeats 1000000 in
set_option maxRecDepth 100000 in
theorem refRefused_c (D : Dom) (A0 : Option Addr) (c0 : Nat) (A1 : Option Addr) (c1 : Nat) (A2 : Option Addr) (c2 : Nat) (A3 : Option Addr) (c3 : Nat) (A4 : Option Addr) (c4 : Nat) (d : Chk) (p : List ByteArray) (A5 : Option Addr) (c5 : Nat) (xs : List Deed) (w : World) (hv : StrAt D w A0 c0 A1 c1 A2 c2 A3 c3 A4 c4 d p) (hs : Sl 3 elDeed D w A5 c5 xs) :
    Calls Tryz.prog 29 #[.agg (strV A0 c0 A1 c1 A2 c2 A3 c3 A4 c4 d p), .slice A5 xs.length c5] w (Ret3 (refusedC d p xs).1 (refusedC d p xs).2.1 (refusedC d p xs).2.2 w) := by
  obtain ⟨W, hW⟩ : ∃ W, W = w.alloc (.cells (strV A0 c0 A1 c1 A2 c2 A3 c3 A4 c4 d p) 61) := ⟨_, rfl⟩
  have HP : Hid (StrPtr D W w.heap.size 0 d p) := Lib.hid (hW ▸ hv.ptr _)
  have HB : Hid (Below w.heap.size w W) := Lib.hid (hW ▸ bel1 w _)
  have HS : Hid (Sl 3 elDeed D W A5 c5 xs) := Lib.hid (hs.below elDeed_good HB.out)
  have HWe := Lib.hid hW
  clear hv hs hW
  by_cases ha : askedC d p xs = 0
  · have HR : Hid (refusedC d p xs = badOut (firstBad (playC d p xs).2 0)) := Lib.hid (by unfold refusedC; rw [if_pos ha])
    have HA := Lib.hid ha
    obtain ⟨z1, z2, z3, z4, z5⟩ := asked_zero ha
    have Z1 := Lib.hid z1
    have Z2 := Lib.hid z2
    have Z4 := Lib.hid z4
    clear ha z1 z2 z4
    have hcl : (playC d p xs).2.length ≤ 300 := by have h := playC_len (d := d) (p := p) (xs := xs) (Nat.le_refl _); rw [List.take_length] at h; omega
    go_enter Tryz.func29, Tryz.ntmps29
    go_wp2_with (first | (go_at_call 97; rw [← HWe.out]; refine (l08Asked_c D _ 0 d p A5 c5 xs W HP.out HS.out).mono ?_; rintro e w1 ⟨rfl, hb1⟩; have HB1 := Lib.hid hb1; rw [HA.out]; clear hb1) | (go_at_call 98; refine (l08Play_c D _ 0 d p A5 c5 xs w1 (HP.out.below HB1.out) (HS.out.below elDeed_good HB1.out) Z1.out Z2.out z3 Z4.out z5).mono ?_; rintro e w2 ⟨g, A, c, v, X, rfl, hr2, ho2, hb2⟩; obtain ⟨A6, c6, rfl, hs6⟩ := ho2.sl; have HB2 : Hid (Below w.heap.size w w2) := Lib.hid (HB.out.trans ((HB1.out.trans (hb2.mono HB1.out.size)).mono HB.out.size)); have HS6 := Lib.hid hs6; clear hr2 ho2 hb2 hs6))
    generalize (playC d p xs).2 = cs at *
    obtain ⟨fb, hfb⟩ : ∃ fb, fb = firstBad cs 0 := ⟨_, rfl⟩
    have HF := Lib.hid hfb
    have HR2 : Hid (refusedC d p xs = badOut fb) := Lib.hid (by rw [HR.out, hfb])
    clear hfb HR
    go_loopg [10] cs.length (fun z v wr => ∃ k : Nat, k ≤ cs.length ∧ z = cs.length - k ∧ v = .int .i64 k ∧ fb = firstBad (cs.drop k) k ∧ wr = w2)
    case atStart => exact ⟨0, by omega, by omega, rfl, by rw [HF.out]; rfl, rfl⟩
    case round =>
      obtain ⟨k, hk, hz, rfl, hf, rfl⟩ := hrel
      have HZ := Lib.hid hz
      have HFK := Lib.hid hf
      clear hz hf HF
      by_cases hlt : k < cs.length
      · obtain ⟨b6, o6, rfl, h6⟩ := HS6.out.at_ hlt
        simp only [elInt, Nat.mul_one] at h6
        have HC := Lib.hid (firstBad_cons hlt)
        generalize cs[k] = x at *
        have hi0 : (0 : Int) ≤ k := by omega
        have hi1 : (k : Int) < cs.length := by omega
        by_cases hx : x = 0
        · have HN : Hid (fb = firstBad (cs.drop (k + 1)) (k + 1)) := Lib.hid (by rw [HFK.out, HC.out, if_pos hx])
          subst hx
          go_wp2_with fail
          go_roundg (cs.length - (k + 1))
          case measure => have := HZ.out; omega
          case rel => exact ⟨k + 1, by omega, rfl, by go_num, HN.out, rfl⟩
        · have HN : Hid (refusedC d p xs = ((k : Int), x, 0)) := Lib.hid (by rw [HR2.out, HFK.out, HC.out, if_neg hx]; rfl)
          have hx2 : (x != 0) = true := bne_iff_ne.2 hx
          clear hx
          go_wp2_with fail
          go_quiet (fail)
          go_wp2_with fail
          go_ret3
          exact ⟨by rw [HN.out]; rfl, bel_drewN HB2.out _⟩
      · have HN : Hid (refusedC d p xs = (0, 0, 6)) := Lib.hid (by rw [HR2.out, HFK.out, firstBad_nil (by omega)]; rfl)
        go_wp2_with fail
        go_ret3
        exact ⟨by rw [HN.out]; rfl, HB2.out⟩
  · have HR : Hid (refusedC d p xs = (0, 0, askedC d p xs)) := Lib.hid (by unfold refusedC; rw [if_neg ha])
    have ha2 : (askedC d p xs != 0) = true := bne_iff_ne.2 ha
    generalize hcode : askedC d p xs = code at *
    have HA : Hid (askedC d p xs = code) := Lib.hid hcode
    clear ha hcode
    go_enter Tryz.func29, Tryz.ntmps29
    go_wp2_with (go_at_call 97; rw [← HWe.out]; refine (l08Asked_c D _ 0 d p A5 c5 xs W HP.out HS.out).mono ?_; rintro e w1 ⟨rfl, hb1⟩; have HB1 := Lib.hid hb1; rw [HA.out]; clear hb1)
    go_ret3
    exact ⟨by rw [HR.out]; rfl, HB.out.trans (HB1.out.mono HB.out.size)⟩
end Go.Proofs.YtcagdmaiemmfgaaGreat
