/- The reference's functions that tell whether words, checkers and streams are valid answer what the plain functions answer; for all of them. -/
import Derived.Test.YtcagdmaiemmfgaaGreatProg
import Derived.Test.YtcagdmaiemmfgaaGreatM
import Derived.Test.YtcagdmaiemmfgaaGreatEq
import Derived.WalkKit
import Derived.WalkSpells
import Derived.WalkLawsBesides
import Derived.LoopTactic
import Derived.Deep.QuietTactic
import Derived.BigQuiet
namespace Go.Proofs.YtcagdmaiemmfgaaGreat
open Go.RowKit

set_option maxHeartbeats 400000 in
theorem l00In_c (n lo hi : Int) (w : World) : Calls Tryz.prog 126 #[.int .i64 n, .int .i64 lo, .int .i64 hi] w fun e w' => e = .returned (.bool (inB lo hi n)) ∧ w = w' := by
  by_cases h : lo ≤ n
  all_goals
    go_enter Tryz.func126, Tryz.ntmps126
    go_wp2
    go_ret
    exact ⟨ret_b (by simp [inB]; try omega), rfl⟩
set_option maxHeartbeats 400000 in
theorem l02List_c (D : Dom) (A : Option Addr) (c : Nat) (xs : List Int) (len n : Int) (w : World) (h : Sl 1 (elInt .i64) D w A c xs) (hn : 0 ≤ n) (hn2 : n ≤ 9223372036854775807) :
    Calls Tryz.prog 129 #[.slice A xs.length c, .int .i64 len, .int .i64 n] w fun e w' => e = .returned (.bool (okList xs len n)) ∧ w = w' := by
  have hm := h.le
  by_cases hl : (xs.length : Int) = len
  · go_enter Tryz.func129, Tryz.ntmps129
    go_wp2
    go_loop [7] (fun i => ∃ k : Nat, k ≤ xs.length ∧ i = .int .i64 k ∧ (xs.take k).all (fun x => inB 0 (n - 1) x) = true) (fun i => xs.length - (intOf i).toNat)
    case atStart => exact ⟨0, by omega, rfl, by simp⟩
    case round =>
      obtain ⟨k, hk, rfl, hall⟩ := hrel
      have HA := Lib.hid hall
      have HL := Lib.hid hl
      clear hall hl
      by_cases hlt : k < xs.length
      · obtain ⟨b, off, rfl, hcell⟩ := h.at_ hlt
        have HS := Lib.hid h
        unfold elInt at hcell
        simp only [Nat.mul_one] at hcell
        clear h
        cases hb : inB 0 (n - 1) xs[k]
        · go_wp2_with (go_at_call 126; refine (l00In_c _ _ _ _).mono ?_; rintro e w' ⟨rfl, rfl⟩)
          go_ret
          exact ⟨ret_b (by rw [okList, all_of_false _ xs k hlt hb, Bool.and_false]), rfl⟩
        · go_wp2_with (go_at_call 126; refine (l00In_c _ _ _ _).mono ?_; rintro e w' ⟨rfl, rfl⟩)
          go_round
          case rel => exact ⟨k + 1, by omega, by go_num, by rw [all_take_succ _ xs k hlt, HA.out, hb]; rfl⟩
          case measure => simp [intOf]; omega
      · have hl2 := HL.out
        go_wp2_with fail
        go_ret
        exact ⟨ret_b (by rw [okList, all_of_take _ xs k (by omega) HA.out]; simp [HL.out]), rfl⟩
  · go_enter Tryz.func129, Tryz.ntmps129
    go_wp2
    go_ret
    exact ⟨ret_b (by simp [okList, hl]), rfl⟩

theorem sym_cases (b : UInt8) : b = 40 ∨ b = 91 ∨ b = 41 ∨ b = 93 ∨ b = 97 ∨ b = 98 ∨ (b ≠ 40 ∧ b ≠ 91 ∧ b ≠ 41 ∧ b ≠ 93 ∧ b ≠ 97 ∧ b ≠ 98) := by
  by_cases h0 : b = 40 <;> by_cases h1 : b = 91 <;> by_cases h2 : b = 41 <;> by_cases h3 : b = 93 <;> by_cases h4 : b = 97 <;> by_cases h5 : b = 98 <;> simp [h0, h1, h2, h3, h4, h5]
theorem toNat_ne {b : UInt8} (n : Nat) (h : b ≠ UInt8.ofNat n) : b.toNat ≠ n := fun e => h (by rw [← e]; simp)
set_option maxHeartbeats 400000 in
theorem l01Symbol_c (b : UInt8) (w : World) : Calls Tryz.prog 189 #[.int .u8 (b.toNat : Int)] w fun e w' => e = .returned (.int .i64 (symI b)) ∧ w = w' := by
  rcases sym_cases b with rfl | rfl | rfl | rfl | rfl | rfl | ⟨h0, h1, h2, h3, h4, h5⟩
  · have q0 : ∀ h, ((({ data := #[40, 91, 41, 93, 97, 98] } : ByteArray)[0]'h).toNat : Int) = 40 := fun _ => rfl
    have q1 : ∀ h, ((({ data := #[40, 91, 41, 93, 97, 98] } : ByteArray)[1]'h).toNat : Int) = 91 := fun _ => rfl
    have q2 : ∀ h, ((({ data := #[40, 91, 41, 93, 97, 98] } : ByteArray)[2]'h).toNat : Int) = 41 := fun _ => rfl
    have q3 : ∀ h, ((({ data := #[40, 91, 41, 93, 97, 98] } : ByteArray)[3]'h).toNat : Int) = 93 := fun _ => rfl
    have q4 : ∀ h, ((({ data := #[40, 91, 41, 93, 97, 98] } : ByteArray)[4]'h).toNat : Int) = 97 := fun _ => rfl
    have q5 : ∀ h, ((({ data := #[40, 91, 41, 93, 97, 98] } : ByteArray)[5]'h).toNat : Int) = 98 := fun _ => rfl
    go_enter Tryz.func189, Tryz.ntmps189
    go_wp2
    go_loop [3] (fun i => ∃ k : Nat, k ≤ 0 ∧ i = .int .i64 k) (fun i => 10 - (intOf i).toNat)
    case atStart => exact ⟨0, by omega, rfl⟩
    case round =>
      obtain ⟨k, hk, rfl⟩ := hrel
      rcases (show k = 0 by omega) with rfl
      · go_wp2
        go_ret
        exact ⟨rfl, rfl⟩
  · have q0 : ∀ h, ((({ data := #[40, 91, 41, 93, 97, 98] } : ByteArray)[0]'h).toNat : Int) = 40 := fun _ => rfl
    have q1 : ∀ h, ((({ data := #[40, 91, 41, 93, 97, 98] } : ByteArray)[1]'h).toNat : Int) = 91 := fun _ => rfl
    have q2 : ∀ h, ((({ data := #[40, 91, 41, 93, 97, 98] } : ByteArray)[2]'h).toNat : Int) = 41 := fun _ => rfl
    have q3 : ∀ h, ((({ data := #[40, 91, 41, 93, 97, 98] } : ByteArray)[3]'h).toNat : Int) = 93 := fun _ => rfl
    have q4 : ∀ h, ((({ data := #[40, 91, 41, 93, 97, 98] } : ByteArray)[4]'h).toNat : Int) = 97 := fun _ => rfl
    have q5 : ∀ h, ((({ data := #[40, 91, 41, 93, 97, 98] } : ByteArray)[5]'h).toNat : Int) = 98 := fun _ => rfl
    go_enter Tryz.func189, Tryz.ntmps189
    go_wp2
    go_loop [3] (fun i => ∃ k : Nat, k ≤ 1 ∧ i = .int .i64 k) (fun i => 10 - (intOf i).toNat)
    case atStart => exact ⟨0, by omega, rfl⟩
    case round =>
      obtain ⟨k, hk, rfl⟩ := hrel
      rcases (show k = 0 ∨ k = 1 by omega) with rfl | rfl
      · go_wp2
        go_round
        case rel => exact ⟨1, by omega, rfl⟩
        case measure => simp [intOf]
      · go_wp2
        go_ret
        exact ⟨rfl, rfl⟩
  · have q0 : ∀ h, ((({ data := #[40, 91, 41, 93, 97, 98] } : ByteArray)[0]'h).toNat : Int) = 40 := fun _ => rfl
    have q1 : ∀ h, ((({ data := #[40, 91, 41, 93, 97, 98] } : ByteArray)[1]'h).toNat : Int) = 91 := fun _ => rfl
    have q2 : ∀ h, ((({ data := #[40, 91, 41, 93, 97, 98] } : ByteArray)[2]'h).toNat : Int) = 41 := fun _ => rfl
    have q3 : ∀ h, ((({ data := #[40, 91, 41, 93, 97, 98] } : ByteArray)[3]'h).toNat : Int) = 93 := fun _ => rfl
    have q4 : ∀ h, ((({ data := #[40, 91, 41, 93, 97, 98] } : ByteArray)[4]'h).toNat : Int) = 97 := fun _ => rfl
    have q5 : ∀ h, ((({ data := #[40, 91, 41, 93, 97, 98] } : ByteArray)[5]'h).toNat : Int) = 98 := fun _ => rfl
    go_enter Tryz.func189, Tryz.ntmps189
    go_wp2
    go_loop [3] (fun i => ∃ k : Nat, k ≤ 2 ∧ i = .int .i64 k) (fun i => 10 - (intOf i).toNat)
    case atStart => exact ⟨0, by omega, rfl⟩
    case round =>
      obtain ⟨k, hk, rfl⟩ := hrel
      rcases (show k = 0 ∨ k = 1 ∨ k = 2 by omega) with rfl | rfl | rfl
      · go_wp2
        go_round
        case rel => exact ⟨1, by omega, rfl⟩
        case measure => simp [intOf]
      · go_wp2
        go_round
        case rel => exact ⟨2, by omega, rfl⟩
        case measure => simp [intOf]
      · go_wp2
        go_ret
        exact ⟨rfl, rfl⟩
  · have q0 : ∀ h, ((({ data := #[40, 91, 41, 93, 97, 98] } : ByteArray)[0]'h).toNat : Int) = 40 := fun _ => rfl
    have q1 : ∀ h, ((({ data := #[40, 91, 41, 93, 97, 98] } : ByteArray)[1]'h).toNat : Int) = 91 := fun _ => rfl
    have q2 : ∀ h, ((({ data := #[40, 91, 41, 93, 97, 98] } : ByteArray)[2]'h).toNat : Int) = 41 := fun _ => rfl
    have q3 : ∀ h, ((({ data := #[40, 91, 41, 93, 97, 98] } : ByteArray)[3]'h).toNat : Int) = 93 := fun _ => rfl
    have q4 : ∀ h, ((({ data := #[40, 91, 41, 93, 97, 98] } : ByteArray)[4]'h).toNat : Int) = 97 := fun _ => rfl
    have q5 : ∀ h, ((({ data := #[40, 91, 41, 93, 97, 98] } : ByteArray)[5]'h).toNat : Int) = 98 := fun _ => rfl
    go_enter Tryz.func189, Tryz.ntmps189
    go_wp2
    go_loop [3] (fun i => ∃ k : Nat, k ≤ 3 ∧ i = .int .i64 k) (fun i => 10 - (intOf i).toNat)
    case atStart => exact ⟨0, by omega, rfl⟩
    case round =>
      obtain ⟨k, hk, rfl⟩ := hrel
      rcases (show k = 0 ∨ k = 1 ∨ k = 2 ∨ k = 3 by omega) with rfl | rfl | rfl | rfl
      · go_wp2
        go_round
        case rel => exact ⟨1, by omega, rfl⟩
        case measure => simp [intOf]
      · go_wp2
        go_round
        case rel => exact ⟨2, by omega, rfl⟩
        case measure => simp [intOf]
      · go_wp2
        go_round
        case rel => exact ⟨3, by omega, rfl⟩
        case measure => simp [intOf]
      · go_wp2
        go_ret
        exact ⟨rfl, rfl⟩
  · have q0 : ∀ h, ((({ data := #[40, 91, 41, 93, 97, 98] } : ByteArray)[0]'h).toNat : Int) = 40 := fun _ => rfl
    have q1 : ∀ h, ((({ data := #[40, 91, 41, 93, 97, 98] } : ByteArray)[1]'h).toNat : Int) = 91 := fun _ => rfl
    have q2 : ∀ h, ((({ data := #[40, 91, 41, 93, 97, 98] } : ByteArray)[2]'h).toNat : Int) = 41 := fun _ => rfl
    have q3 : ∀ h, ((({ data := #[40, 91, 41, 93, 97, 98] } : ByteArray)[3]'h).toNat : Int) = 93 := fun _ => rfl
    have q4 : ∀ h, ((({ data := #[40, 91, 41, 93, 97, 98] } : ByteArray)[4]'h).toNat : Int) = 97 := fun _ => rfl
    have q5 : ∀ h, ((({ data := #[40, 91, 41, 93, 97, 98] } : ByteArray)[5]'h).toNat : Int) = 98 := fun _ => rfl
    go_enter Tryz.func189, Tryz.ntmps189
    go_wp2
    go_loop [3] (fun i => ∃ k : Nat, k ≤ 4 ∧ i = .int .i64 k) (fun i => 10 - (intOf i).toNat)
    case atStart => exact ⟨0, by omega, rfl⟩
    case round =>
      obtain ⟨k, hk, rfl⟩ := hrel
      rcases (show k = 0 ∨ k = 1 ∨ k = 2 ∨ k = 3 ∨ k = 4 by omega) with rfl | rfl | rfl | rfl | rfl
      · go_wp2
        go_round
        case rel => exact ⟨1, by omega, rfl⟩
        case measure => simp [intOf]
      · go_wp2
        go_round
        case rel => exact ⟨2, by omega, rfl⟩
        case measure => simp [intOf]
      · go_wp2
        go_round
        case rel => exact ⟨3, by omega, rfl⟩
        case measure => simp [intOf]
      · go_wp2
        go_round
        case rel => exact ⟨4, by omega, rfl⟩
        case measure => simp [intOf]
      · go_wp2
        go_ret
        exact ⟨rfl, rfl⟩
  · have q0 : ∀ h, ((({ data := #[40, 91, 41, 93, 97, 98] } : ByteArray)[0]'h).toNat : Int) = 40 := fun _ => rfl
    have q1 : ∀ h, ((({ data := #[40, 91, 41, 93, 97, 98] } : ByteArray)[1]'h).toNat : Int) = 91 := fun _ => rfl
    have q2 : ∀ h, ((({ data := #[40, 91, 41, 93, 97, 98] } : ByteArray)[2]'h).toNat : Int) = 41 := fun _ => rfl
    have q3 : ∀ h, ((({ data := #[40, 91, 41, 93, 97, 98] } : ByteArray)[3]'h).toNat : Int) = 93 := fun _ => rfl
    have q4 : ∀ h, ((({ data := #[40, 91, 41, 93, 97, 98] } : ByteArray)[4]'h).toNat : Int) = 97 := fun _ => rfl
    have q5 : ∀ h, ((({ data := #[40, 91, 41, 93, 97, 98] } : ByteArray)[5]'h).toNat : Int) = 98 := fun _ => rfl
    go_enter Tryz.func189, Tryz.ntmps189
    go_wp2
    go_loop [3] (fun i => ∃ k : Nat, k ≤ 5 ∧ i = .int .i64 k) (fun i => 10 - (intOf i).toNat)
    case atStart => exact ⟨0, by omega, rfl⟩
    case round =>
      obtain ⟨k, hk, rfl⟩ := hrel
      rcases (show k = 0 ∨ k = 1 ∨ k = 2 ∨ k = 3 ∨ k = 4 ∨ k = 5 by omega) with rfl | rfl | rfl | rfl | rfl | rfl
      · go_wp2
        go_round
        case rel => exact ⟨1, by omega, rfl⟩
        case measure => simp [intOf]
      · go_wp2
        go_round
        case rel => exact ⟨2, by omega, rfl⟩
        case measure => simp [intOf]
      · go_wp2
        go_round
        case rel => exact ⟨3, by omega, rfl⟩
        case measure => simp [intOf]
      · go_wp2
        go_round
        case rel => exact ⟨4, by omega, rfl⟩
        case measure => simp [intOf]
      · go_wp2
        go_round
        case rel => exact ⟨5, by omega, rfl⟩
        case measure => simp [intOf]
      · go_wp2
        go_ret
        exact ⟨rfl, rfl⟩
  · have e0 := toNat_ne 40 h0
    have e1 := toNat_ne 91 h1
    have e2 := toNat_ne 41 h2
    have e3 := toNat_ne 93 h3
    have e4 := toNat_ne 97 h4
    have e5 := toNat_ne 98 h5
    have hs : symI b = -1 := by unfold symI; simp [h0, h1, h2, h3, h4, h5]
    rw [hs]
    generalize b.toNat = m at *
    clear hs h0 h1 h2 h3 h4 h5
    have d0 : ((40 : Int) == m) = false := by simp; omega
    have d1 : ((91 : Int) == m) = false := by simp; omega
    have d2 : ((41 : Int) == m) = false := by simp; omega
    have d3 : ((93 : Int) == m) = false := by simp; omega
    have d4 : ((97 : Int) == m) = false := by simp; omega
    have d5 : ((98 : Int) == m) = false := by simp; omega
    have q0 : ∀ h, ((({ data := #[40, 91, 41, 93, 97, 98] } : ByteArray)[0]'h).toNat : Int) = 40 := fun _ => rfl
    have q1 : ∀ h, ((({ data := #[40, 91, 41, 93, 97, 98] } : ByteArray)[1]'h).toNat : Int) = 91 := fun _ => rfl
    have q2 : ∀ h, ((({ data := #[40, 91, 41, 93, 97, 98] } : ByteArray)[2]'h).toNat : Int) = 41 := fun _ => rfl
    have q3 : ∀ h, ((({ data := #[40, 91, 41, 93, 97, 98] } : ByteArray)[3]'h).toNat : Int) = 93 := fun _ => rfl
    have q4 : ∀ h, ((({ data := #[40, 91, 41, 93, 97, 98] } : ByteArray)[4]'h).toNat : Int) = 97 := fun _ => rfl
    have q5 : ∀ h, ((({ data := #[40, 91, 41, 93, 97, 98] } : ByteArray)[5]'h).toNat : Int) = 98 := fun _ => rfl
    go_enter Tryz.func189, Tryz.ntmps189
    go_wp2
    go_loop [3] (fun i => ∃ k : Nat, k ≤ 6 ∧ i = .int .i64 k) (fun i => 10 - (intOf i).toNat)
    case atStart => exact ⟨0, by omega, rfl⟩
    case round =>
      obtain ⟨k, hk, rfl⟩ := hrel
      rcases (show k = 0 ∨ k = 1 ∨ k = 2 ∨ k = 3 ∨ k = 4 ∨ k = 5 ∨ k = 6 by omega) with rfl | rfl | rfl | rfl | rfl | rfl | rfl
      · go_wp2
        go_round
        case rel => exact ⟨1, by omega, rfl⟩
        case measure => simp [intOf]
      · go_wp2
        go_round
        case rel => exact ⟨2, by omega, rfl⟩
        case measure => simp [intOf]
      · go_wp2
        go_round
        case rel => exact ⟨3, by omega, rfl⟩
        case measure => simp [intOf]
      · go_wp2
        go_round
        case rel => exact ⟨4, by omega, rfl⟩
        case measure => simp [intOf]
      · go_wp2
        go_round
        case rel => exact ⟨5, by omega, rfl⟩
        case measure => simp [intOf]
      · go_wp2
        go_round
        case rel => exact ⟨6, by omega, rfl⟩
        case measure => simp [intOf]
      · go_wp2
        go_ret
        exact ⟨rfl, rfl⟩

theorem bytes_take_succ (s : ByteArray) (k : Nat) (h : k < s.size) : (s.data.toList.take (k + 1)).all isSym = ((s.data.toList.take k).all isSym && isSym s[k]) :=
  all_take_succ isSym s.data.toList k (by simpa using h)
theorem bytes_of_false (s : ByteArray) (k : Nat) (h : k < s.size) (hp : isSym s[k] = false) : s.data.toList.all isSym = false :=
  all_of_false isSym s.data.toList k (by simpa using h) hp
theorem bytes_of_take (s : ByteArray) (k : Nat) (h : s.size ≤ k) (hp : (s.data.toList.take k).all isSym = true) : s.data.toList.all isSym = true :=
  all_of_take isSym s.data.toList k (by simpa using h) hp
set_option maxHeartbeats 400000 in
theorem l01Ok_c (s : ByteArray) (w : World) (hs : s.size ≤ 9223372036854775807) : Calls Tryz.prog 187 #[.string s] w fun e w' => e = .returned (.bool (okWord s)) ∧ w = w' := by
  go_enter Tryz.func187, Tryz.ntmps187
  go_wp2
  go_loop [3] (fun i => ∃ k : Nat, k ≤ s.size ∧ i = .int .i64 k ∧ (s.data.toList.take k).all isSym = true) (fun i => s.size - (intOf i).toNat)
  case atStart => exact ⟨0, by omega, rfl, by simp⟩
  case round =>
    obtain ⟨k, hk, rfl, hall⟩ := hrel
    have HA := Lib.hid hall
    clear hall
    by_cases hlt : k < s.size
    · by_cases hsym : 0 ≤ symI s[k]
      · go_wp2_with (go_at_call 189; refine (l01Symbol_c s[k] _).mono ?_; rintro e w' ⟨rfl, rfl⟩)
        go_round
        case rel => exact ⟨k + 1, by omega, by go_num, by rw [bytes_take_succ s k hlt, HA.out]; simpa [isSym] using hsym⟩
        case measure => simp [intOf]; omega
      · go_wp2_with (go_at_call 189; refine (l01Symbol_c s[k] _).mono ?_; rintro e w' ⟨rfl, rfl⟩)
        go_ret
        exact ⟨ret_b (by rw [okWord, bytes_of_false s k hlt (by simp [isSym]; omega)]; rfl), rfl⟩
    · have hl : s.data.toList.all isSym = true := bytes_of_take s k (by omega) HA.out
      have HL := Lib.hid hl
      clear hl
      go_wp2
      go_ret
      exact ⟨ret_b (by rw [okWord, HL.out]; simp; omega), rfl⟩

end Go.Proofs.YtcagdmaiemmfgaaGreat
