/- The program's tests of words, streams and deeds answer what the plain tests answer; for all inputs. -/
import Derived.Test.YtcagdmaiemmfgaaGreatIb
import Derived.Test.YtcagdmaiemmfgaaGreatLib
import Derived.Test.YtcagdmaiemmfgaaGreatV
import Derived.Lib.Bytealg
namespace Go.Proofs.YtcagdmaiemmfgaaGreat
open Go.RowKit

theorem indexSym (b : UInt8) : Lib.indexByte [40, 91, 41, 93, 97, 98] b = symI b := by
  by_cases h0 : b = 40
  · subst h0; decide
  by_cases h1 : b = 91
  · subst h1; decide
  by_cases h2 : b = 41
  · subst h2; decide
  by_cases h3 : b = 93
  · subst h3; decide
  by_cases h4 : b = 97
  · subst h4; decide
  by_cases h5 : b = 98
  · subst h5; decide
  have e : ∀ c : UInt8, b ≠ c → (c == b) = false := fun c h => beq_eq_false_iff_ne.2 (Ne.symm h)
  unfold symI
  rw [if_neg h0, if_neg h1, if_neg h2, if_neg h3, if_neg h4, if_neg h5]
  simp only [Lib.indexByte, e _ h0, e _ h1, e _ h2, e _ h3, e _ h4, e _ h5]
  rfl
set_option maxHeartbeats 1000000 in
set_option maxRecDepth 100000 in
theorem liteIndex_c (s : ByteArray) (b : UInt8) (w : World) : Calls Tryz.prog 231 #[.string s, .int .u8 (b.toNat : Int)] w fun e w' => e = .returned (.int .i64 (Lib.indexByte s.data.toList b)) ∧ w = w' := by
  go_enter Tryz.func231, Tryz.ntmps231
  go_wp2
  rw [run_callFunc_extern Tryz.func246 (by kernel_rfl) (by kernel_rfl) (by kernel_rfl) (e := Extern.BytealgIndexByte.indexByte) (by kernel_rfl), Lib.run_indexByteString]
  simp only [Result.andThen]
  rw [Oper.upon_value]
  go_wp2
  go_ret
  exact ⟨ret_i (by simp), rfl⟩
set_option maxHeartbeats 400000 in
theorem indexByte_c (s : ByteArray) (b : UInt8) (w : World) : Calls Tryz.prog 217 #[.string s, .int .u8 (b.toNat : Int)] w fun e w' => e = .returned (.int .i64 (Lib.indexByte s.data.toList b)) ∧ w = w' := by
  go_enter Tryz.func217, Tryz.ntmps217
  go_wp2_with (go_at_call 231; refine (liteIndex_c s b _).mono ?_; rintro e w' ⟨rfl, rfl⟩)
  go_ret
  exact ⟨rfl, rfl⟩
theorem indexSym_c (b : UInt8) (w : World) : Calls Tryz.prog 217 #[.string ⟨#[40, 91, 41, 93, 97, 98]⟩, .int .u8 (b.toNat : Int)] w fun e w' => e = .returned (.int .i64 (symI b)) ∧ w = w' :=
  (indexByte_c _ b w).mono fun e w' ⟨he, hw⟩ => ⟨by rw [he, ← indexSym b], hw⟩
set_option maxHeartbeats 400000 in
theorem validWord_c (s : ByteArray) (w : World) (hs : s.size ≤ 9223372036854775807) : Calls Tryz.prog 193 #[.string s] w fun e w' => e = .returned (.bool (okWord s)) ∧ w = w' := by
  go_enter Tryz.func193, Tryz.ntmps193
  go_wp2_with fail
  go_loopg [6] s.size (fun z i wr => ∃ k : Nat, k ≤ s.size ∧ z = s.size - k ∧ i = .int .i64 k ∧ (s.data.toList.take k).all isSym = true ∧ wr = w)
  case atStart => exact ⟨0, by omega, by omega, rfl, by simp, rfl⟩
  case round =>
    obtain ⟨k, hk, hz, rfl, hall, rfl⟩ := hrel
    have HZ := Lib.hid hz
    have HA := Lib.hid hall
    clear hz hall
    by_cases hlt : k < s.size
    · by_cases hsym : 0 ≤ symI s[k]
      · have hs2 : ¬ symI s[k] < 0 := by omega
        go_wp2_with (go_at_call 217; refine (indexSym_c s[k] _).mono ?_; rintro e w' ⟨rfl, rfl⟩)
        go_roundg (s.size - (k + 1))
        case measure => have := HZ.out; omega
        case rel => exact ⟨k + 1, by omega, rfl, by go_num, by rw [bytes_take_succ s k hlt, HA.out]; simpa [isSym] using hsym, rfl⟩
      · have hs2 : symI s[k] < 0 := by omega
        go_wp2_with (go_at_call 217; refine (indexSym_c s[k] _).mono ?_; rintro e w' ⟨rfl, rfl⟩)
        go_ret
        exact ⟨ret_b (by rw [okWord, bytes_of_false s k hlt (by simp [isSym]; omega)]; rfl), rfl⟩
    · have hl : s.data.toList.all isSym = true := bytes_of_take s k (by omega) HA.out
      have HL := Lib.hid hl
      clear hl
      go_wp2_with fail
      go_ret
      exact ⟨ret_b (by rw [okWord, HL.out]; simp; omega), rfl⟩
set_option maxHeartbeats 400000 in
theorem notWord_c (s : ByteArray) (w : World) (hs : s.size ≤ 9223372036854775807) : Calls Tryz.prog 205 #[.string s] w fun e w' => e = .returned (.bool (!okWord s)) ∧ Below w.heap.size w w' := by
  go_enter Tryz.func205, Tryz.ntmps205
  go_wp2_with (go_at_call 193; refine (validWord_c s _ hs).mono ?_; rintro e w' ⟨rfl, rfl⟩)
  go_ret
  exact ⟨rfl, Below.refl _ _⟩
theorem enters_notWord : Enters Tryz.prog 205 := fun args w => by kernel_rfl
/-- All pieces, joined by nothing. -/
theorem join_whole (p : List ByteArray) : Lib.join (p.map (·.data.toList)) [] = wholeL p := by
  unfold wholeL
  cases p with
  | nil => rfl
  | cons x r =>
    rw [List.map_cons, Lib.join_cons]
    simp only [Lib.joinTail, List.nil_append, List.map_map, List.flatMap_def]
    rfl
end Go.Proofs.YtcagdmaiemmfgaaGreat
