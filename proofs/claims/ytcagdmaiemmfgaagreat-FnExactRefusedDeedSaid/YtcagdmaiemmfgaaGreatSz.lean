/- The size functions of the laws count what they are given, or answer -1 where it is more than what is left; for all slices, where 0 to 1048576 are left. -/
import Derived.Test.YtcagdmaiemmfgaaGreatProg
import Derived.Test.YtcagdmaiemmfgaaGreatA
import Derived.WalkKit
import Derived.WalkSpells
import Derived.LoopTactic
namespace Go.Proofs.YtcagdmaiemmfgaaGreat
open Go.RowKit

def szR (n : Nat) (left : Int) : Int := if left < (n : Int) then -1 else left - n
theorem szR_neg {n : Nat} {left : Int} (h : left < (n : Int)) : szR n left = -1 := by simp [szR, h]
theorem szR_ok {n : Nat} {left : Int} (h : (n : Int) ≤ left) : szR n left = left - n := by unfold szR; rw [if_neg (by omega)]
def bulkL {α : Type} (f : α → Nat) (xs : List α) : Nat := xs.length + (xs.map f).sum
theorem bulkL_def {α : Type} (f : α → Nat) (xs : List α) : bulkL f xs = xs.length + (xs.map f).sum := rfl
theorem sum_take_le {α : Type} (f : α → Nat) (xs : List α) (k : Nat) : ((xs.take k).map f).sum ≤ (xs.map f).sum := by
  rw [← List.take_append_drop k xs, List.map_append, List.sum_append]
  simp only [List.take_append_drop]
  omega
theorem sum_take_succ {α : Type} (f : α → Nat) (xs : List α) (k : Nat) (h : k < xs.length) : ((xs.take (k + 1)).map f).sum = ((xs.take k).map f).sum + f xs[k] := by
  rw [List.take_succ_eq_append_getElem h, List.map_append, List.sum_append]; simp

set_option maxHeartbeats 400000 in
theorem szBoolS_c {α : Type} (A : Option Addr) (c : Nat) (xs : List α) (left : Int) (w : World) (hl : xs.length ≤ 9223372036854775807) (h0 : 0 ≤ left) (h1 : left ≤ 1048576) :
    Calls Tryz.prog 51 #[.slice A xs.length c, .int .i64 left] w fun e w' => e = .returned (.int .i64 (szR xs.length left)) ∧ w = w' := by
  by_cases h : left < (xs.length : Int)
  all_goals
    go_enter Tryz.func51, Tryz.ntmps51
    go_wp2
    go_ret
    exact ⟨ret_i (by unfold szR; split <;> omega), rfl⟩

set_option maxHeartbeats 400000 in
theorem szPushS_c {α : Type} (A : Option Addr) (c : Nat) (xs : List α) (left : Int) (w : World) (hl : xs.length ≤ 9223372036854775807) (h0 : 0 ≤ left) (h1 : left ≤ 1048576) :
    Calls Tryz.prog 124 #[.slice A xs.length c, .int .i64 left] w fun e w' => e = .returned (.int .i64 (szR xs.length left)) ∧ w = w' := by
  by_cases h : left < (xs.length : Int)
  all_goals
    go_enter Tryz.func124, Tryz.ntmps124
    go_wp2
    go_ret
    exact ⟨ret_i (by unfold szR; split <;> omega), rfl⟩

set_option maxHeartbeats 400000 in
theorem szInt64S_c {α : Type} (A : Option Addr) (c : Nat) (xs : List α) (left : Int) (w : World) (hl : xs.length ≤ 9223372036854775807) (h0 : 0 ≤ left) (h1 : left ≤ 1048576) :
    Calls Tryz.prog 125 #[.slice A xs.length c, .int .i64 left] w fun e w' => e = .returned (.int .i64 (szR xs.length left)) ∧ w = w' := by
  by_cases h : left < (xs.length : Int)
  all_goals
    go_enter Tryz.func125, Tryz.ntmps125
    go_wp2
    go_ret
    exact ⟨ret_i (by unfold szR; split <;> omega), rfl⟩

set_option maxHeartbeats 400000 in
theorem szDeedS_c {α : Type} (A : Option Addr) (c : Nat) (xs : List α) (left : Int) (w : World) (hl : xs.length ≤ 9223372036854775807) (h0 : 0 ≤ left) (h1 : left ≤ 1048576) :
    Calls Tryz.prog 22 #[.slice A xs.length c, .int .i64 left] w fun e w' => e = .returned (.int .i64 (szR xs.length left)) ∧ w = w' := by
  by_cases h : left < (xs.length : Int)
  all_goals
    go_enter Tryz.func22, Tryz.ntmps22
    go_wp2
    go_ret
    exact ⟨ret_i (by unfold szR; split <;> omega), rfl⟩

set_option maxHeartbeats 400000 in
theorem szPushSS_c (D : Dom) (A : Option Addr) (c : Nat) (xs : List (List Push)) (left : Int) (w : World) (hs : Sl 1 elPushs D w A c xs) (h0 : 0 ≤ left) (h1 : left ≤ 1048576) :
    Calls Tryz.prog 52 #[.slice A xs.length c, .int .i64 left] w fun e w' => e = .returned (.int .i64 (szR (bulkL List.length xs) left)) ∧ w = w' := by
  have hl := hs.le
  by_cases h : left < (xs.length : Int)
  · go_enter Tryz.func52, Tryz.ntmps52
    go_wp2_with fail
    go_ret
    exact ⟨ret_i (by have hB := bulkL_def List.length xs; rw [szR_neg]; omega), rfl⟩
  · go_enter Tryz.func52, Tryz.ntmps52
    go_wp2_with fail
    go_loop [1, 5] (fun l i => ∃ k : Nat, k ≤ xs.length ∧ i = .int .i64 k ∧ ∃ m : Nat, (m : Int) ≤ left - xs.length ∧ m = ((xs.take k).map List.length).sum ∧ l = .int .i64 (left - xs.length - m)) (fun _ i => xs.length - (intOf i).toNat)
    case atStart => exact ⟨0, by omega, rfl, 0, by omega, by simp, by simp⟩
    case round =>
      obtain ⟨k, hk, rfl, m, hm, hme, rfl⟩ := hrel
      have HM := Lib.hid hme
      clear hme
      by_cases hlt : k < xs.length
      · obtain ⟨b, off, rfl, A1, c1, hc1, hs1⟩ := hs.at_ hlt
        simp only [Nat.mul_one] at hc1
        have H1 := Lib.hid hs1
        clear hs1
        have HS := Lib.hid hs
        clear hs
        by_cases hx : left - xs.length - m < ((List.length xs[k] : Nat) : Int)
        · have e1 := szR_neg hx
          go_wp2_with (go_at_call 124; refine (szPushS_c _ _ _ _ _ H1.out.le (by omega) (by omega)).mono ?_; rintro e w' ⟨rfl, rfl⟩; rw [show szR _ _ = -1 from e1])
          go_ret
          refine ⟨ret_i ?_, rfl⟩
          rw [szR_neg]
          have := sum_take_le List.length xs (k + 1)
          rw [sum_take_succ List.length xs k hlt, ← HM.out] at this
          have hB := bulkL_def List.length xs
          omega
        · have e1 := szR_ok (Int.not_lt.1 hx)
          go_wp2_with (go_at_call 124; refine (szPushS_c _ _ _ _ _ H1.out.le (by omega) (by omega)).mono ?_; rintro e w' ⟨rfl, rfl⟩; rw [show szR _ _ = left - xs.length - m - (List.length xs[k] : Nat) from e1])
          go_round
          case rel => exact ⟨k + 1, by omega, by go_num, m + List.length xs[k], by omega, by rw [sum_take_succ List.length xs k hlt, ← HM.out], by go_num⟩
          case measure => simp [intOf]; omega
      · go_wp2_with fail
        go_ret
        refine ⟨ret_i ?_, rfl⟩
        have hm2 := HM.out
        rw [List.take_of_length_le (by omega)] at hm2
        have hB := bulkL_def List.length xs
        rw [szR_ok] <;> omega

set_option maxHeartbeats 400000 in
theorem szInt64SS_c (D : Dom) (A : Option Addr) (c : Nat) (xs : List (List Int)) (left : Int) (w : World) (hs : Sl 1 elInts D w A c xs) (h0 : 0 ≤ left) (h1 : left ≤ 1048576) :
    Calls Tryz.prog 54 #[.slice A xs.length c, .int .i64 left] w fun e w' => e = .returned (.int .i64 (szR (bulkL List.length xs) left)) ∧ w = w' := by
  have hl := hs.le
  by_cases h : left < (xs.length : Int)
  · go_enter Tryz.func54, Tryz.ntmps54
    go_wp2_with fail
    go_ret
    exact ⟨ret_i (by have hB := bulkL_def List.length xs; rw [szR_neg]; omega), rfl⟩
  · go_enter Tryz.func54, Tryz.ntmps54
    go_wp2_with fail
    go_loop [1, 5] (fun l i => ∃ k : Nat, k ≤ xs.length ∧ i = .int .i64 k ∧ ∃ m : Nat, (m : Int) ≤ left - xs.length ∧ m = ((xs.take k).map List.length).sum ∧ l = .int .i64 (left - xs.length - m)) (fun _ i => xs.length - (intOf i).toNat)
    case atStart => exact ⟨0, by omega, rfl, 0, by omega, by simp, by simp⟩
    case round =>
      obtain ⟨k, hk, rfl, m, hm, hme, rfl⟩ := hrel
      have HM := Lib.hid hme
      clear hme
      by_cases hlt : k < xs.length
      · obtain ⟨b, off, rfl, A1, c1, hc1, hs1⟩ := hs.at_ hlt
        simp only [Nat.mul_one] at hc1
        have H1 := Lib.hid hs1
        clear hs1
        have HS := Lib.hid hs
        clear hs
        by_cases hx : left - xs.length - m < ((List.length xs[k] : Nat) : Int)
        · have e1 := szR_neg hx
          go_wp2_with (go_at_call 125; refine (szInt64S_c _ _ _ _ _ H1.out.le (by omega) (by omega)).mono ?_; rintro e w' ⟨rfl, rfl⟩; rw [show szR _ _ = -1 from e1])
          go_ret
          refine ⟨ret_i ?_, rfl⟩
          rw [szR_neg]
          have := sum_take_le List.length xs (k + 1)
          rw [sum_take_succ List.length xs k hlt, ← HM.out] at this
          have hB := bulkL_def List.length xs
          omega
        · have e1 := szR_ok (Int.not_lt.1 hx)
          go_wp2_with (go_at_call 125; refine (szInt64S_c _ _ _ _ _ H1.out.le (by omega) (by omega)).mono ?_; rintro e w' ⟨rfl, rfl⟩; rw [show szR _ _ = left - xs.length - m - (List.length xs[k] : Nat) from e1])
          go_round
          case rel => exact ⟨k + 1, by omega, by go_num, m + List.length xs[k], by omega, by rw [sum_take_succ List.length xs k hlt, ← HM.out], by go_num⟩
          case measure => simp [intOf]; omega
      · go_wp2_with fail
        go_ret
        refine ⟨ret_i ?_, rfl⟩
        have hm2 := HM.out
        rw [List.take_of_length_le (by omega)] at hm2
        have hB := bulkL_def List.length xs
        rw [szR_ok] <;> omega

set_option maxHeartbeats 400000 in
theorem szInt64SSS_c (D : Dom) (A : Option Addr) (c : Nat) (xs : List (List (List Int))) (left : Int) (w : World) (hs : Sl 1 elIntss D w A c xs) (h0 : 0 ≤ left) (h1 : left ≤ 1048576) :
    Calls Tryz.prog 53 #[.slice A xs.length c, .int .i64 left] w fun e w' => e = .returned (.int .i64 (szR (bulkL (bulkL List.length) xs) left)) ∧ w = w' := by
  have hl := hs.le
  by_cases h : left < (xs.length : Int)
  · go_enter Tryz.func53, Tryz.ntmps53
    go_wp2_with fail
    go_ret
    exact ⟨ret_i (by have hB := bulkL_def (bulkL List.length) xs; rw [szR_neg]; omega), rfl⟩
  · go_enter Tryz.func53, Tryz.ntmps53
    go_wp2_with fail
    go_loop [1, 5] (fun l i => ∃ k : Nat, k ≤ xs.length ∧ i = .int .i64 k ∧ ∃ m : Nat, (m : Int) ≤ left - xs.length ∧ m = ((xs.take k).map (bulkL List.length)).sum ∧ l = .int .i64 (left - xs.length - m)) (fun _ i => xs.length - (intOf i).toNat)
    case atStart => exact ⟨0, by omega, rfl, 0, by omega, by simp, by simp⟩
    case round =>
      obtain ⟨k, hk, rfl, m, hm, hme, rfl⟩ := hrel
      have HM := Lib.hid hme
      clear hme
      by_cases hlt : k < xs.length
      · obtain ⟨b, off, rfl, A1, c1, hc1, hs1⟩ := hs.at_ hlt
        simp only [Nat.mul_one] at hc1
        have H1 := Lib.hid hs1
        clear hs1
        have HS := Lib.hid hs
        clear hs
        by_cases hx : left - xs.length - m < (((bulkL List.length) xs[k] : Nat) : Int)
        · have e1 := szR_neg hx
          go_wp2_with (go_at_call 54; refine (szInt64SS_c D _ _ _ _ _ H1.out (by omega) (by omega)).mono ?_; rintro e w' ⟨rfl, rfl⟩; rw [show szR _ _ = -1 from e1])
          go_ret
          refine ⟨ret_i ?_, rfl⟩
          rw [szR_neg]
          have := sum_take_le (bulkL List.length) xs (k + 1)
          rw [sum_take_succ (bulkL List.length) xs k hlt, ← HM.out] at this
          have hB := bulkL_def (bulkL List.length) xs
          omega
        · have e1 := szR_ok (Int.not_lt.1 hx)
          go_wp2_with (go_at_call 54; refine (szInt64SS_c D _ _ _ _ _ H1.out (by omega) (by omega)).mono ?_; rintro e w' ⟨rfl, rfl⟩; rw [show szR _ _ = left - xs.length - m - ((bulkL List.length) xs[k] : Nat) from e1])
          go_round
          case rel => exact ⟨k + 1, by omega, by go_num, m + (bulkL List.length) xs[k], by omega, by rw [sum_take_succ (bulkL List.length) xs k hlt, ← HM.out], by go_num⟩
          case measure => simp [intOf]; omega
      · go_wp2_with fail
        go_ret
        refine ⟨ret_i ?_, rfl⟩
        have hm2 := HM.out
        rw [List.take_of_length_le (by omega)] at hm2
        have hB := bulkL_def (bulkL List.length) xs
        rw [szR_ok] <;> omega

def Chk.bulk (d : Chk) : Nat := d.acc.length + bulkL List.length d.call + bulkL (bulkL List.length) d.ret + bulkL List.length d.inn
theorem Chk.bulk_def (d : Chk) : d.bulk = d.acc.length + bulkL List.length d.call + bulkL (bulkL List.length) d.ret + bulkL List.length d.inn := rfl
set_option maxHeartbeats 400000 in
theorem szChecker_c (D : Dom) (A0 : Option Addr) (c0 : Nat) (A1 : Option Addr) (c1 : Nat) (A2 : Option Addr) (c2 : Nat) (A3 : Option Addr) (c3 : Nat) (d : Chk) (left : Int) (w : World) (hs : ChkAt D w A0 c0 A1 c1 A2 c2 A3 c3 d) (h0 : 0 ≤ left) (h1 : left ≤ 1048576) :
    Calls Tryz.prog 11 #[.agg #[.int .i64 d.stack, .int .i64 d.start, .slice A0 d.acc.length c0, .slice A1 d.call.length c1, .slice A2 d.ret.length c2, .slice A3 d.inn.length c3], .int .i64 left] w
      fun e w' => e = .returned (.int .i64 (szR d.bulk left)) ∧ Below w.heap.size w w' := by
  have HB := Lib.hid d.bulk_def
  have H := Lib.hid hs
  clear hs
  generalize hn1 : bulkL List.length d.call = n1 at *
  generalize hn2 : bulkL (bulkL List.length) d.ret = n2 at *
  generalize hn3 : bulkL List.length d.inn = n3 at *
  have N1 := Lib.hid hn1
  have N2 := Lib.hid hn2
  have N3 := Lib.hid hn3
  clear hn1 hn2 hn3
  rcases (show left < (d.acc.length : Int) ∨ ((d.acc.length : Int) ≤ left ∧ left - (d.acc.length : Int) < (n1 : Int)) ∨ ((d.acc.length : Int) ≤ left ∧ (n1 : Int) ≤ left - (d.acc.length : Int) ∧ left - (d.acc.length : Int) - n1 < (n2 : Int)) ∨
    ((d.acc.length : Int) ≤ left ∧ (n1 : Int) ≤ left - (d.acc.length : Int) ∧ (n2 : Int) ≤ left - (d.acc.length : Int) - n1 ∧ left - (d.acc.length : Int) - n1 - n2 < (n3 : Int)) ∨
    ((d.acc.length : Int) ≤ left ∧ (n1 : Int) ≤ left - (d.acc.length : Int) ∧ (n2 : Int) ≤ left - (d.acc.length : Int) - n1 ∧ (n3 : Int) ≤ left - (d.acc.length : Int) - n1 - n2) by omega) with r0 | ⟨r0, r1⟩ | ⟨r0, r1, r2⟩ | ⟨r0, r1, r2, r3⟩ | ⟨r0, r1, r2, r3⟩
  all_goals
    go_enter Tryz.func11, Tryz.ntmps11
    go_wp2_with (first | (go_at_call 51; refine (szBoolS_c _ _ _ _ _ (H.out.acc.le) (by omega) (by omega)).mono ?_; rintro e w' ⟨rfl, rfl⟩; (first | rw [szR_neg r0] | rw [szR_ok r0])) | (go_at_call 52; refine (szPushSS_c D _ _ _ _ _ (H.out.call.below elPushs_good (bel1 _ _)) (by omega) (by omega)).mono ?_; rintro e w' ⟨rfl, rfl⟩; rw [N1.out]; (first | rw [szR_neg r1] | rw [szR_ok r1])) | (go_at_call 53; refine (szInt64SSS_c D _ _ _ _ _ (H.out.ret.below elIntss_good (bel1 _ _)) (by omega) (by omega)).mono ?_; rintro e w' ⟨rfl, rfl⟩; rw [N2.out]; (first | rw [szR_neg r2] | rw [szR_ok r2])) | (go_at_call 54; refine (szInt64SS_c D _ _ _ _ _ (H.out.inn.below elInts_good (bel1 _ _)) (by omega) (by omega)).mono ?_; rintro e w' ⟨rfl, rfl⟩; rw [N3.out]; (first | rw [szR_neg r3] | rw [szR_ok r3])))
    go_ret
    refine ⟨ret_i ?_, bel1 _ _⟩
    have hb := HB.out
    first | (rw [szR_neg (by omega)]; done) | (rw [szR_ok (by omega)]; omega)

set_option maxHeartbeats 400000 in
theorem szStringS_c (D : Dom) (A : Option Addr) (c : Nat) (xs : List ByteArray) (left : Int) (w : World) (hs : Sl 1 elStr D w A c xs) (h0 : 0 ≤ left) (h1 : left ≤ 1048576) :
    Calls Tryz.prog 96 #[.slice A xs.length c, .int .i64 left] w fun e w' => e = .returned (.int .i64 (szR (bulkL ByteArray.size xs) left)) ∧ w = w' := by
  have hl := hs.le
  have hB := Lib.hid (bulkL_def ByteArray.size xs)
  by_cases h : left < (xs.length : Int)
  · go_enter Tryz.func96, Tryz.ntmps96
    go_wp2_with fail
    go_ret
    exact ⟨ret_i (by have hB := hB.out; rw [szR_neg]; omega), rfl⟩
  · go_enter Tryz.func96, Tryz.ntmps96
    go_wp2_with fail
    go_loop [1, 5] (fun l i => ∃ k : Nat, k ≤ xs.length ∧ i = .int .i64 k ∧ ∃ m : Nat, (m : Int) ≤ left - xs.length ∧ m = ((xs.take k).map ByteArray.size).sum ∧ l = .int .i64 (left - xs.length - m)) (fun _ i => xs.length - (intOf i).toNat)
    case atStart => exact ⟨0, by omega, rfl, 0, by omega, by simp, by simp⟩
    case round =>
      obtain ⟨k, hk, rfl, m, hm, hme, rfl⟩ := hrel
      have HM := Lib.hid hme
      clear hme
      by_cases hlt : k < xs.length
      · obtain ⟨b, off, rfl, hc1, hx1⟩ := hs.at_ hlt
        simp only [Nat.mul_one] at hc1
        unfold maxLen at hx1
        have HS := Lib.hid hs
        clear hs
        by_cases hx : left - xs.length - m < ((xs[k].size : Nat) : Int)
        · go_wp2_with fail
          go_ret
          refine ⟨ret_i ?_, rfl⟩
          rw [szR_neg]
          have := sum_take_le ByteArray.size xs (k + 1)
          rw [sum_take_succ ByteArray.size xs k hlt, ← HM.out] at this
          have hB := hB.out
          omega
        · go_wp2_with fail
          go_round
          case rel => exact ⟨k + 1, by omega, by go_num, m + xs[k].size, by omega, by rw [sum_take_succ ByteArray.size xs k hlt, ← HM.out], by go_num⟩
          case measure => simp [intOf]; omega
      · go_wp2_with fail
        go_ret
        refine ⟨ret_i ?_, rfl⟩
        have hm2 := HM.out
        rw [List.take_of_length_le (by omega)] at hm2
        have hB := hB.out
        rw [szR_ok] <;> omega

def sumB (p : List ByteArray) : Nat := bulkL ByteArray.size p
set_option maxHeartbeats 400000 in
theorem szStream_c (D : Dom) (A0 : Option Addr) (c0 : Nat) (A1 : Option Addr) (c1 : Nat) (A2 : Option Addr) (c2 : Nat) (A3 : Option Addr) (c3 : Nat) (d : Chk) (A4 : Option Addr) (c4 : Nat) (p : List ByteArray) (left : Int) (w : World) (hs : ChkAt D w A0 c0 A1 c1 A2 c2 A3 c3 d) (hp : Sl 1 elStr D w A4 c4 p) (h0 : 0 ≤ left) (h1 : left ≤ 1048576) :
    Calls Tryz.prog 21 #[.agg #[.int .i64 d.stack, .int .i64 d.start, .slice A0 d.acc.length c0, .slice A1 d.call.length c1, .slice A2 d.ret.length c2, .slice A3 d.inn.length c3, .slice A4 p.length c4], .int .i64 left] w
      fun e w' => e = .returned (.int .i64 (szR (d.bulk + bulkL ByteArray.size p) left)) ∧ Below w.heap.size w w' := by
  have H := Lib.hid hs
  have HP := Lib.hid hp
  clear hs hp
  generalize hn1 : d.bulk = n1 at *
  generalize hn2 : bulkL ByteArray.size p = n2 at *
  have N1 := Lib.hid hn1
  have N2 := Lib.hid hn2
  clear hn1 hn2
  rcases (show left < (n1 : Int) ∨ ((n1 : Int) ≤ left ∧ left - n1 < (n2 : Int)) ∨ ((n1 : Int) ≤ left ∧ (n2 : Int) ≤ left - n1) by omega) with r0 | ⟨r0, r1⟩ | ⟨r0, r1⟩
  all_goals
    go_enter Tryz.func21, Tryz.ntmps21
    go_wp2_with fail
    refine (szChecker_c D _ _ _ _ _ _ _ _ d left _ (H.out.below (bel1 _ _)) (by omega) (by omega)).mono ?_
    rintro e w1 ⟨rfl, hb⟩
    rw [N1.out]
    have hb1 := Lib.hid ((bel1 _ _).trans (hb.mono (by simp)))
    have hc := hb.cell (p := ⟨w.heap.size, 6, none⟩) (by simp)
    clear hb
    first | rw [szR_neg r0] | rw [szR_ok r0]
    go_wp2_with (go_at_call 96; refine (szStringS_c D _ _ _ _ _ (HP.out.below elStr_good hb1.out) (by omega) (by omega)).mono ?_; rintro e w' ⟨rfl, rfl⟩; rw [N2.out]; (first | rw [szR_neg r1] | rw [szR_ok r1]))
    go_ret
    refine ⟨ret_i ?_, hb1.out⟩
    first | (rw [szR_neg (by omega)]; done) | (rw [szR_ok (by omega)]; omega)
end Go.Proofs.YtcagdmaiemmfgaaGreat
