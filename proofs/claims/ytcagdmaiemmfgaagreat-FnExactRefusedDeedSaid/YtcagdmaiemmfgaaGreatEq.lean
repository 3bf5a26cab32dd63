/- The comparing functions of the laws answer true where both slices, checkers or streams hold the same; for all of them. -/
import Derived.Test.YtcagdmaiemmfgaaGreatProg
import Derived.Test.YtcagdmaiemmfgaaGreatTc
import Derived.WalkKit
import Derived.WalkSpells
import Derived.LoopTactic
import Derived.Deep.QuietTactic
import Derived.BigQuiet
import Derived.StillTailTactics
namespace Go.Proofs.YtcagdmaiemmfgaaGreat
open Go.RowKit

theorem below_drewN {B : Nat} {w W : World} (h : Below B w W) (n : Nat) : Below B w (W.drewN n) := ⟨h.os, h.tape, h.output, h.size, h.block⟩
theorem below_drew {B : Nat} {w W : World} (h : Below B w W) : Below B w W.drew := ⟨h.os, h.tape, h.output, h.size, h.block⟩

set_option maxHeartbeats 400000 in
set_option maxRecDepth 100000 in
theorem eqInt64S_c (D E : Dom) (A : Option Addr) (c : Nat) (B : Option Addr) (d : Nat) (xs : List (Int)) (w : World) (hs : Sl 1 (elInt .i64) D w A c xs) (ht : Sl 1 (elInt .i64) E w B d xs) :
    Calls Tryz.prog 35 #[.slice A xs.length c, .slice B xs.length d] w fun e w' => e = .returned (.bool true) ∧ Below w.heap.size w w' := by
  have hl := hs.le
  go_enter Tryz.func35, Tryz.ntmps35
  go_wp2_with fail
  go_loopw [5] (fun i wr => ∃ k : Nat, k ≤ xs.length ∧ i = .int .i64 k ∧ Below w.heap.size w wr) (fun i _ => xs.length - (intOf i).toNat)
  case atStart => exact ⟨0, by omega, rfl, Below.refl _ _⟩
  case round =>
    obtain ⟨k, hk, rfl, hbel⟩ := hrel
    have HB := Lib.hid hbel
    have HS := Lib.hid (hs.below ints_good hbel)
    have HT := Lib.hid (ht.below ints_good hbel)
    clear hs ht hbel
    by_cases hlt : k < xs.length
    · obtain ⟨b1, o1, rfl, hc1⟩ := HS.out.at_ hlt
      obtain ⟨b2, o2, rfl, hc2⟩ := HT.out.at_ hlt
      simp only [Nat.mul_one, elInt] at hc1 hc2
      have h0 : (0 : Int) ≤ k := by omega
      have h1 : (k : Int) < xs.length := by omega
      go_wp2_with fail
      go_quiet (fail)
      go_wp2_with fail
      go_roundw
      case rel => exact ⟨k + 1, by omega, by go_num, below_drewN HB.out _⟩
      case measure => simp [intOf]; omega
    · go_wp2_with fail
      go_ret
      exact ⟨rfl, HB.out⟩

set_option maxHeartbeats 400000 in
set_option maxRecDepth 100000 in
theorem eqBoolS_c (D E : Dom) (A : Option Addr) (c : Nat) (B : Option Addr) (d : Nat) (xs : List (Bool)) (w : World) (hs : Sl 1 elBool D w A c xs) (ht : Sl 1 elBool E w B d xs) :
    Calls Tryz.prog 78 #[.slice A xs.length c, .slice B xs.length d] w fun e w' => e = .returned (.bool true) ∧ Below w.heap.size w w' := by
  have hl := hs.le
  go_enter Tryz.func78, Tryz.ntmps78
  go_wp2_with fail
  go_loopw [5] (fun i wr => ∃ k : Nat, k ≤ xs.length ∧ i = .int .i64 k ∧ Below w.heap.size w wr) (fun i _ => xs.length - (intOf i).toNat)
  case atStart => exact ⟨0, by omega, rfl, Below.refl _ _⟩
  case round =>
    obtain ⟨k, hk, rfl, hbel⟩ := hrel
    have HB := Lib.hid hbel
    have HS := Lib.hid (hs.below elBool_good hbel)
    have HT := Lib.hid (ht.below elBool_good hbel)
    clear hs ht hbel
    by_cases hlt : k < xs.length
    · obtain ⟨b1, o1, rfl, hc1⟩ := HS.out.at_ hlt
      obtain ⟨b2, o2, rfl, hc2⟩ := HT.out.at_ hlt
      simp only [Nat.mul_one, elBool] at hc1 hc2
      have h0 : (0 : Int) ≤ k := by omega
      have h1 : (k : Int) < xs.length := by omega
      go_wp2_with fail
      go_quiet (fail)
      go_wp2_with fail
      go_roundw
      case rel => exact ⟨k + 1, by omega, by go_num, below_drewN HB.out _⟩
      case measure => simp [intOf]; omega
    · go_wp2_with fail
      go_ret
      exact ⟨rfl, HB.out⟩

set_option maxHeartbeats 400000 in
set_option maxRecDepth 100000 in
theorem eqStringS_c (D E : Dom) (A : Option Addr) (c : Nat) (B : Option Addr) (d : Nat) (xs : List (ByteArray)) (w : World) (hs : Sl 1 elStr D w A c xs) (ht : Sl 1 elStr E w B d xs) :
    Calls Tryz.prog 104 #[.slice A xs.length c, .slice B xs.length d] w fun e w' => e = .returned (.bool true) ∧ Below w.heap.size w w' := by
  have hl := hs.le
  go_enter Tryz.func104, Tryz.ntmps104
  go_wp2_with fail
  go_loopw [5] (fun i wr => ∃ k : Nat, k ≤ xs.length ∧ i = .int .i64 k ∧ Below w.heap.size w wr) (fun i _ => xs.length - (intOf i).toNat)
  case atStart => exact ⟨0, by omega, rfl, Below.refl _ _⟩
  case round =>
    obtain ⟨k, hk, rfl, hbel⟩ := hrel
    have HB := Lib.hid hbel
    have HS := Lib.hid (hs.below elStr_good hbel)
    have HT := Lib.hid (ht.below elStr_good hbel)
    clear hs ht hbel
    by_cases hlt : k < xs.length
    · obtain ⟨b1, o1, rfl, hc1, hx1⟩ := HS.out.at_ hlt
      obtain ⟨b2, o2, rfl, hc2, hx2⟩ := HT.out.at_ hlt
      simp only [Nat.mul_one] at hc1 hc2
      have h0 : (0 : Int) ≤ k := by omega
      have h1 : (k : Int) < xs.length := by omega
      go_wp2_with fail
      go_quiet (fail)
      go_wp2_with fail
      go_roundw
      case rel => exact ⟨k + 1, by omega, by go_num, below_drewN HB.out _⟩
      case measure => simp [intOf]; omega
    · go_wp2_with fail
      go_ret
      exact ⟨rfl, HB.out⟩

set_option maxHeartbeats 400000 in
theorem eqPush_c (a b : Int) (w : World) : Calls Tryz.prog 198 #[.agg #[.int .i64 a, .int .i64 b], .agg #[.int .i64 a, .int .i64 b]] w fun e w' => e = .returned (.bool true) ∧ Below w.heap.size w w' := by
  go_enter Tryz.func198, Tryz.ntmps198
  go_wp2_with fail
  go_ret
  exact ⟨rfl, ((Below.refl _ _).alloc (Nat.le_refl _) _).alloc (by simp) _⟩

set_option maxHeartbeats 400000 in
theorem eqDeed_c (a b c : Int) (w : World) : Calls Tryz.prog 105 #[.agg #[.int .i64 a, .int .i64 b, .int .i64 c], .agg #[.int .i64 a, .int .i64 b, .int .i64 c]] w fun e w' => e = .returned (.bool true) ∧ Below w.heap.size w w' := by
  go_enter Tryz.func105, Tryz.ntmps105
  go_wp2_with fail
  go_ret
  exact ⟨rfl, ((Below.refl _ _).alloc (Nat.le_refl _) _).alloc (by simp) _⟩

set_option maxHeartbeats 400000 in
set_option maxRecDepth 100000 in
theorem eqPushS_c (D E : Dom) (A : Option Addr) (c : Nat) (B : Option Addr) (d : Nat) (xs : List (Push)) (w : World) (hs : Sl 2 elPush D w A c xs) (ht : Sl 2 elPush E w B d xs) :
    Calls Tryz.prog 157 #[.slice A xs.length c, .slice B xs.length d] w fun e w' => e = .returned (.bool true) ∧ Below w.heap.size w w' := by
  have hl := hs.le
  go_enter Tryz.func157, Tryz.ntmps157
  go_wp2_with fail
  go_loopw [5] (fun i wr => ∃ k : Nat, k ≤ xs.length ∧ i = .int .i64 k ∧ Below w.heap.size w wr) (fun i _ => xs.length - (intOf i).toNat)
  case atStart => exact ⟨0, by omega, rfl, Below.refl _ _⟩
  case round =>
    obtain ⟨k, hk, rfl, hbel⟩ := hrel
    have HB := Lib.hid hbel
    have HS := Lib.hid (hs.below elPush_good hbel)
    have HT := Lib.hid (ht.below elPush_good hbel)
    clear hs ht hbel
    by_cases hlt : k < xs.length
    · obtain ⟨b1, o1, rfl, hp1⟩ := HS.out.at_ hlt
      obtain ⟨b2, o2, rfl, hp2⟩ := HT.out.at_ hlt
      obtain ⟨hc1, hc2⟩ := hp1
      obtain ⟨hd1, hd2⟩ := hp2
      have h0 : (0 : Int) ≤ k := by omega
      have h1 : (k : Int) < xs.length := by omega
      go_wp2_with fail
      go_still_tail 8, (by kernel_rfl)
      go_wp2_with fail
      refine (eqPush_c _ _ _).mono ?_
      rintro e w1 ⟨rfl, hb1⟩
      have HB1 := Lib.hid ((below_drew HB.out).trans (hb1.mono (by have := HB.out.size; simpa using this)))
      clear hb1
      go_wp2_with fail
      go_roundw
      case rel => exact ⟨k + 1, by omega, by go_num, HB1.out⟩
      case measure => simp [intOf]; omega
    · go_wp2_with fail
      go_ret
      exact ⟨rfl, HB.out⟩

set_option maxHeartbeats 400000 in
set_option maxRecDepth 100000 in
theorem eqDeedS_c (D E : Dom) (A : Option Addr) (c : Nat) (B : Option Addr) (d : Nat) (xs : List (Deed)) (w : World) (hs : Sl 3 elDeed D w A c xs) (ht : Sl 3 elDeed E w B d xs) :
    Calls Tryz.prog 28 #[.slice A xs.length c, .slice B xs.length d] w fun e w' => e = .returned (.bool true) ∧ Below w.heap.size w w' := by
  have hl := hs.le
  go_enter Tryz.func28, Tryz.ntmps28
  go_wp2_with fail
  go_loopw [5] (fun i wr => ∃ k : Nat, k ≤ xs.length ∧ i = .int .i64 k ∧ Below w.heap.size w wr) (fun i _ => xs.length - (intOf i).toNat)
  case atStart => exact ⟨0, by omega, rfl, Below.refl _ _⟩
  case round =>
    obtain ⟨k, hk, rfl, hbel⟩ := hrel
    have HB := Lib.hid hbel
    have HS := Lib.hid (hs.below elDeed_good hbel)
    have HT := Lib.hid (ht.below elDeed_good hbel)
    clear hs ht hbel
    by_cases hlt : k < xs.length
    · obtain ⟨b1, o1, rfl, hp1⟩ := HS.out.at_ hlt
      obtain ⟨b2, o2, rfl, hp2⟩ := HT.out.at_ hlt
      obtain ⟨hc1, hc2, hc3⟩ := hp1
      obtain ⟨hd1, hd2, hd3⟩ := hp2
      have h0 : (0 : Int) ≤ k := by omega
      have h1 : (k : Int) < xs.length := by omega
      go_wp2_with fail
      go_still_tail 8, (by kernel_rfl)
      go_wp2_with fail
      refine (eqDeed_c _ _ _ _).mono ?_
      rintro e w1 ⟨rfl, hb1⟩
      have HB1 := Lib.hid ((below_drew HB.out).trans (hb1.mono (by have := HB.out.size; simpa using this)))
      clear hb1
      go_wp2_with fail
      go_roundw
      case rel => exact ⟨k + 1, by omega, by go_num, HB1.out⟩
      case measure => simp [intOf]; omega
    · go_wp2_with fail
      go_ret
      exact ⟨rfl, HB.out⟩

set_option maxHeartbeats 400000 in
set_option maxRecDepth 100000 in
theorem eqPushSS_c (D E : Dom) (A : Option Addr) (c : Nat) (B : Option Addr) (d : Nat) (xs : List (List Push)) (w : World) (hs : Sl 1 elPushs D w A c xs) (ht : Sl 1 elPushs E w B d xs) :
    Calls Tryz.prog 79 #[.slice A xs.length c, .slice B xs.length d] w fun e w' => e = .returned (.bool true) ∧ Below w.heap.size w w' := by
  have hl := hs.le
  go_enter Tryz.func79, Tryz.ntmps79
  go_wp2_with fail
  go_loopw [5] (fun i wr => ∃ k : Nat, k ≤ xs.length ∧ i = .int .i64 k ∧ Below w.heap.size w wr) (fun i _ => xs.length - (intOf i).toNat)
  case atStart => exact ⟨0, by omega, rfl, Below.refl _ _⟩
  case round =>
    obtain ⟨k, hk, rfl, hbel⟩ := hrel
    have HB := Lib.hid hbel
    have HS := Lib.hid (hs.below elPushs_good hbel)
    have HT := Lib.hid (ht.below elPushs_good hbel)
    clear hs ht hbel
    by_cases hlt : k < xs.length
    · obtain ⟨b1, o1, rfl, X1, y1, hc1, hs1⟩ := HS.out.at_ hlt
      obtain ⟨b2, o2, rfl, X2, y2, hc2, hs2⟩ := HT.out.at_ hlt
      simp only [Nat.mul_one] at hc1 hc2
      have K1 := Lib.hid hs1
      have K2 := Lib.hid hs2
      clear hs1 hs2
      have h0 : (0 : Int) ≤ k := by omega
      have h1 : (k : Int) < xs.length := by omega
      go_wp2_with fail
      go_still_tail 8, (by kernel_rfl)
      go_wp2_with fail
      refine (eqPushS_c D E _ _ _ _ _ _ (K1.out.drew elPush_good) (K2.out.drew elPush_good)).mono ?_
      rintro e w1 ⟨rfl, hb1⟩
      have HB1 := Lib.hid ((below_drew HB.out).trans (hb1.mono (by have := HB.out.size; simpa using this)))
      clear hb1
      go_wp2_with fail
      go_roundw
      case rel => exact ⟨k + 1, by omega, by go_num, HB1.out⟩
      case measure => simp [intOf]; omega
    · go_wp2_with fail
      go_ret
      exact ⟨rfl, HB.out⟩

set_option maxHeartbeats 400000 in
set_option maxRecDepth 100000 in
theorem eqInt64SS_c (D E : Dom) (A : Option Addr) (c : Nat) (B : Option Addr) (d : Nat) (xs : List (List Int)) (w : World) (hs : Sl 1 elInts D w A c xs) (ht : Sl 1 elInts E w B d xs) :
    Calls Tryz.prog 81 #[.slice A xs.length c, .slice B xs.length d] w fun e w' => e = .returned (.bool true) ∧ Below w.heap.size w w' := by
  have hl := hs.le
  go_enter Tryz.func81, Tryz.ntmps81
  go_wp2_with fail
  go_loopw [5] (fun i wr => ∃ k : Nat, k ≤ xs.length ∧ i = .int .i64 k ∧ Below w.heap.size w wr) (fun i _ => xs.length - (intOf i).toNat)
  case atStart => exact ⟨0, by omega, rfl, Below.refl _ _⟩
  case round =>
    obtain ⟨k, hk, rfl, hbel⟩ := hrel
    have HB := Lib.hid hbel
    have HS := Lib.hid (hs.below elInts_good hbel)
    have HT := Lib.hid (ht.below elInts_good hbel)
    clear hs ht hbel
    by_cases hlt : k < xs.length
    · obtain ⟨b1, o1, rfl, X1, y1, hc1, hs1⟩ := HS.out.at_ hlt
      obtain ⟨b2, o2, rfl, X2, y2, hc2, hs2⟩ := HT.out.at_ hlt
      simp only [Nat.mul_one] at hc1 hc2
      have K1 := Lib.hid hs1
      have K2 := Lib.hid hs2
      clear hs1 hs2
      have h0 : (0 : Int) ≤ k := by omega
      have h1 : (k : Int) < xs.length := by omega
      go_wp2_with fail
      go_still_tail 8, (by kernel_rfl)
      go_wp2_with fail
      refine (eqInt64S_c D E _ _ _ _ _ _ (K1.out.drew ints_good) (K2.out.drew ints_good)).mono ?_
      rintro e w1 ⟨rfl, hb1⟩
      have HB1 := Lib.hid ((below_drew HB.out).trans (hb1.mono (by have := HB.out.size; simpa using this)))
      clear hb1
      go_wp2_with fail
      go_roundw
      case rel => exact ⟨k + 1, by omega, by go_num, HB1.out⟩
      case measure => simp [intOf]; omega
    · go_wp2_with fail
      go_ret
      exact ⟨rfl, HB.out⟩

set_option maxHeartbeats 400000 in
set_option maxRecDepth 100000 in
theorem eqInt64SSS_c (D E : Dom) (A : Option Addr) (c : Nat) (B : Option Addr) (d : Nat) (xs : List (List (List Int))) (w : World) (hs : Sl 1 elIntss D w A c xs) (ht : Sl 1 elIntss E w B d xs) :
    Calls Tryz.prog 80 #[.slice A xs.length c, .slice B xs.length d] w fun e w' => e = .returned (.bool true) ∧ Below w.heap.size w w' := by
  have hl := hs.le
  go_enter Tryz.func80, Tryz.ntmps80
  go_wp2_with fail
  go_loopw [5] (fun i wr => ∃ k : Nat, k ≤ xs.length ∧ i = .int .i64 k ∧ Below w.heap.size w wr) (fun i _ => xs.length - (intOf i).toNat)
  case atStart => exact ⟨0, by omega, rfl, Below.refl _ _⟩
  case round =>
    obtain ⟨k, hk, rfl, hbel⟩ := hrel
    have HB := Lib.hid hbel
    have HS := Lib.hid (hs.below elIntss_good hbel)
    have HT := Lib.hid (ht.below elIntss_good hbel)
    clear hs ht hbel
    by_cases hlt : k < xs.length
    · obtain ⟨b1, o1, rfl, X1, y1, hc1, hs1⟩ := HS.out.at_ hlt
      obtain ⟨b2, o2, rfl, X2, y2, hc2, hs2⟩ := HT.out.at_ hlt
      simp only [Nat.mul_one] at hc1 hc2
      have K1 := Lib.hid hs1
      have K2 := Lib.hid hs2
      clear hs1 hs2
      have h0 : (0 : Int) ≤ k := by omega
      have h1 : (k : Int) < xs.length := by omega
      go_wp2_with fail
      go_still_tail 8, (by kernel_rfl)
      go_wp2_with fail
      refine (eqInt64SS_c D E _ _ _ _ _ _ (K1.out.drew elInts_good) (K2.out.drew elInts_good)).mono ?_
      rintro e w1 ⟨rfl, hb1⟩
      have HB1 := Lib.hid ((below_drew HB.out).trans (hb1.mono (by have := HB.out.size; simpa using this)))
      clear hb1
      go_wp2_with fail
      go_roundw
      case rel => exact ⟨k + 1, by omega, by go_num, HB1.out⟩
      case measure => simp [intOf]; omega
    · go_wp2_with fail
      go_ret
      exact ⟨rfl, HB.out⟩

set_option maxHeartbeats 1000000 in
theorem eqChecker_c (D E : Dom) (A0 : Option Addr) (c0 : Nat) (A1 : Option Addr) (c1 : Nat) (A2 : Option Addr) (c2 : Nat) (A3 : Option Addr) (c3 : Nat) (X0 : Option Addr) (y0 : Nat) (X1 : Option Addr) (y1 : Nat) (X2 : Option Addr) (y2 : Nat) (X3 : Option Addr) (y3 : Nat) (d : Chk) (w : World)
    (hs : ChkAt D w A0 c0 A1 c1 A2 c2 A3 c3 d) (ht : ChkAt E w X0 y0 X1 y1 X2 y2 X3 y3 d) :
    Calls Tryz.prog 16 #[.agg #[.int .i64 d.stack, .int .i64 d.start, .slice A0 d.acc.length c0, .slice A1 d.call.length c1, .slice A2 d.ret.length c2, .slice A3 d.inn.length c3], .agg #[.int .i64 d.stack, .int .i64 d.start, .slice X0 d.acc.length y0, .slice X1 d.call.length y1, .slice X2 d.ret.length y2, .slice X3 d.inn.length y3]] w
      fun e w' => e = .returned (.bool true) ∧ Below w.heap.size w w' := by
  have H := Lib.hid hs
  have K := Lib.hid ht
  clear hs ht
  go_enter Tryz.func16, Tryz.ntmps16
  go_wp2_with fail
  refine (eqBoolS_c D E _ _ _ _ _ _ (H.out.acc.below elBool_good (((Below.refl _ _).alloc (Nat.le_refl _) _).alloc (by simp) _)) (K.out.acc.below elBool_good (((Below.refl _ _).alloc (Nat.le_refl _) _).alloc (by simp) _))).mono ?_
  rintro e w1 ⟨rfl, hb⟩
  have B1 : Below w.heap.size w w1 := (((Below.refl _ _).alloc (Nat.le_refl _) _).alloc (by simp) _).trans (hb.mono (by simp; omega))
  obtain ⟨k1, f1⟩ := bcell hb (n := w.heap.size + 2) (by simp)
  have z1 : w.heap.size + 2 ≤ w1.heap.size := by have := hb.size; (try simp at this); omega
  clear hb
  have B1 := Lib.hid B1
  go_wp2_with fail
  refine (eqPushSS_c D E _ _ _ _ _ _ (H.out.call.below elPushs_good B1.out) (K.out.call.below elPushs_good B1.out)).mono ?_
  rintro e w2 ⟨rfl, hb⟩
  have B2 : Below w.heap.size w w2 := B1.out.trans (hb.mono (by omega))
  obtain ⟨k2, f2⟩ := bcell hb (n := w.heap.size + 2) (by omega)
  have z2 : w.heap.size + 2 ≤ w2.heap.size := by have := hb.size; (try simp at this); omega
  clear hb
  have B2 := Lib.hid B2
  go_wp2_with fail
  refine (eqInt64SSS_c D E _ _ _ _ _ _ (H.out.ret.below elIntss_good B2.out) (K.out.ret.below elIntss_good B2.out)).mono ?_
  rintro e w3 ⟨rfl, hb⟩
  have B3 : Below w.heap.size w w3 := B2.out.trans (hb.mono (by omega))
  obtain ⟨k3, f3⟩ := bcell hb (n := w.heap.size + 2) (by omega)
  have z3 : w.heap.size + 2 ≤ w3.heap.size := by have := hb.size; (try simp at this); omega
  clear hb
  have B3 := Lib.hid B3
  go_wp2_with fail
  refine (eqInt64SS_c D E _ _ _ _ _ _ (H.out.inn.below elInts_good B3.out) (K.out.inn.below elInts_good B3.out)).mono ?_
  rintro e w4 ⟨rfl, hb⟩
  have B4 : Below w.heap.size w w4 := B3.out.trans (hb.mono (by omega))
  obtain ⟨k4, f4⟩ := bcell hb (n := w.heap.size + 2) (by omega)
  have z4 : w.heap.size + 2 ≤ w4.heap.size := by have := hb.size; (try simp at this); omega
  clear hb
  have B4 := Lib.hid B4
  go_wp2_with fail
  go_ret
  exact ⟨rfl, B4.out⟩
set_option maxHeartbeats 1000000 in
theorem eqStream_c (D E : Dom) (A0 : Option Addr) (c0 : Nat) (A1 : Option Addr) (c1 : Nat) (A2 : Option Addr) (c2 : Nat) (A3 : Option Addr) (c3 : Nat) (A4 : Option Addr) (c4 : Nat) (X0 : Option Addr) (y0 : Nat) (X1 : Option Addr) (y1 : Nat) (X2 : Option Addr) (y2 : Nat) (X3 : Option Addr) (y3 : Nat) (X4 : Option Addr) (y4 : Nat) (d : Chk) (p : List ByteArray) (w : World)
    (hs : ChkAt D w A0 c0 A1 c1 A2 c2 A3 c3 d) (hp : Sl 1 elStr D w A4 c4 p) (ht : ChkAt E w X0 y0 X1 y1 X2 y2 X3 y3 d) (hq : Sl 1 elStr E w X4 y4 p) :
    Calls Tryz.prog 27 #[.agg #[.int .i64 d.stack, .int .i64 d.start, .slice A0 d.acc.length c0, .slice A1 d.call.length c1, .slice A2 d.ret.length c2, .slice A3 d.inn.length c3, .slice A4 p.length c4], .agg #[.int .i64 d.stack, .int .i64 d.start, .slice X0 d.acc.length y0, .slice X1 d.call.length y1, .slice X2 d.ret.length y2, .slice X3 d.inn.length y3, .slice X4 p.length y4]] w
      fun e w' => e = .returned (.bool true) ∧ Below w.heap.size w w' := by
  have H := Lib.hid hs
  have K := Lib.hid ht
  have HP := Lib.hid hp
  have KP := Lib.hid hq
  clear hs ht hp hq
  go_enter Tryz.func27, Tryz.ntmps27
  go_wp2_with fail
  refine (eqChecker_c D E _ _ _ _ _ _ _ _ _ _ _ _ _ _ _ _ d _ (H.out.below (((Below.refl _ _).alloc (Nat.le_refl _) _).alloc (by simp) _)) (K.out.below (((Below.refl _ _).alloc (Nat.le_refl _) _).alloc (by simp) _))).mono ?_
  rintro e w1 ⟨rfl, hb⟩
  have B1 : Below w.heap.size w w1 := (((Below.refl _ _).alloc (Nat.le_refl _) _).alloc (by simp) _).trans (hb.mono (by simp; omega))
  obtain ⟨k1, f1⟩ := bcell hb (n := w.heap.size + 2) (by simp)
  have z1 : w.heap.size + 2 ≤ w1.heap.size := by have := hb.size; (try simp at this); omega
  clear hb
  have B1 := Lib.hid B1
  go_wp2_with fail
  refine (eqStringS_c D E _ _ _ _ p _ (HP.out.below elStr_good B1.out) (KP.out.below elStr_good B1.out)).mono ?_
  rintro e w2 ⟨rfl, hb⟩
  have B2 := Lib.hid (B1.out.trans (hb.mono (by omega)))
  clear hb
  go_wp2_with fail
  go_ret
  exact ⟨rfl, B2.out⟩
end Go.Proofs.YtcagdmaiemmfgaaGreat
