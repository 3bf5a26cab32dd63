/- The reference's code of a stream with its deeds, and its helpers with rising numbers; for all inputs. -/
import Derived.Test.YtcagdmaiemmfgaaGreatSe
namespace Go.Proofs.YtcagdmaiemmfgaaGreat
open Go.RowKit

set_option maxHeartbeats 400000 in
theorem l08Asked_c (D : Dom) (b o : Nat) (d : Chk) (p : List ByteArray) (A : Option Addr) (c : Nat) (xs : List Deed) (w : World) (hp : StrPtr D w b o d p) (hs : Sl 3 elDeed D w A c xs) :
    Calls Tryz.prog 97 #[.pointer (some ⟨b, o, none⟩), .slice A xs.length c] w fun e w' => e = .returned (.int .i64 (askedC d p xs)) ∧ Below w.heap.size w w' := by
  have lx := hs.le
  have HP := Lib.hid hp
  have HS := Lib.hid hs
  clear hp hs
  cases hk : okStream d p
  · go_enter Tryz.func97, Tryz.ntmps97
    go_wp2_with (go_at_call 164; refine (l08Ok_c D b o d p _ HP.out).mono ?_; rintro e w1 ⟨rfl, hb⟩; have HB := Lib.hid hb; clear hb)
    go_ret
    exact ⟨ret_i (by rw [askedC, if_neg (by rw [hk]; simp)]), HB.out⟩
  go_enter Tryz.func97, Tryz.ntmps97
  go_wp2_with (go_at_call 164; refine (l08Ok_c D b o d p _ HP.out).mono ?_; rintro e w1 ⟨rfl, hb⟩; have HB := Lib.hid hb; have HS1 := Lib.hid (HS.out.below elDeed_good hb); clear hb)
  have HK := Lib.hid hk
  clear hk HP HS
  go_loopg [5] xs.length (fun q v wr => ∃ k : Nat, k ≤ xs.length ∧ q = xs.length - k ∧ v = .int .i64 k ∧ (xs.take k).all okDeed = true ∧ Below w1.heap.size w1 wr)
  case atStart => exact ⟨0, by omega, by omega, rfl, rfl, Below.refl _ _⟩
  case round =>
    obtain ⟨k, hk, hq, rfl, hall, hb⟩ := hrel
    have HQ := Lib.hid hq
    have HA := Lib.hid hall
    have HB1 := Lib.hid hb
    have HB2 := Lib.hid (HB.out.trans (hb.mono HB.out.size))
    have HS2 := HS1.out.below elDeed_good hb
    clear hq hall hb
    by_cases hlt : k < xs.length
    · obtain ⟨b4, o4, rfl, h1, h2, h3⟩ := HS2.at_ hlt
      have HT := Lib.hid (all_take_succ okDeed xs k hlt)
      have HF : Hid (okDeed xs[k] = false → xs.all okDeed = false) := Lib.hid fun h => all_of_false okDeed xs k hlt h
      clear HS2
      generalize xs[k] = x at *
      cases ho : okDeed x
      · have HO := Lib.hid (HF.out ho)
        go_wp2_with (go_at_call 165; refine (l08Deed_c x _).mono ?_; rintro e w2 ⟨rfl, hb2⟩; have HB3 := Lib.hid (HB2.out.trans (hb2.mono HB2.out.size)); clear hb2; rw [ho])
        go_ret
        exact ⟨ret_i (by rw [askedC, if_neg (by rw [HO.out]; simp)]), HB3.out⟩
      · go_wp2_with (go_at_call 165; refine (l08Deed_c x _).mono ?_; rintro e w2 ⟨rfl, hb2⟩; have HB3 := Lib.hid (HB1.out.trans (hb2.mono HB1.out.size)); clear hb2; rw [ho])
        go_roundg (xs.length - (k + 1))
        case measure => have := HQ.out; omega
        case rel => exact ⟨k + 1, by omega, rfl, by go_num, by rw [HT.out, HA.out, ho]; rfl, HB3.out⟩
    · have HL := Lib.hid (all_of_take okDeed xs k (by omega) HA.out)
      clear HS2
      by_cases hm : xs.length ≤ 300
      · have hm1 : (xs.length : Int) ≤ 300 := by omega
        go_wp2_with fail
        go_ret
        exact ⟨ret_i (by rw [askedC, if_pos ⟨HK.out, HL.out⟩, if_pos hm]), HB2.out⟩
      · have hm1 : (300 : Int) < (xs.length : Int) := by omega
        go_wp2_with fail
        go_ret
        exact ⟨ret_i (by rw [askedC, if_pos ⟨HK.out, HL.out⟩, if_neg hm]), HB2.out⟩
/-! Numbers among numbers -/
set_option maxHeartbeats 400000 in
theorem l00Has_c (D : Dom) (A : Option Addr) (c : Nat) (xs : List Int) (n : Int) (w : World) (hs : Sl 1 (elInt .i64) D w A c xs) :
    Calls Tryz.prog 176 #[.slice A xs.length c, .int .i64 n] w fun e w' => e = .returned (.bool (xs.contains n)) ∧ w = w' := by
  have lx := hs.le
  obtain ⟨r, hr⟩ : ∃ r, r = xs.contains n := ⟨_, rfl⟩
  rw [← hr]
  have HR := Lib.hid hr
  clear hr
  have HS := Lib.hid hs
  clear hs
  go_enter Tryz.func176, Tryz.ntmps176
  go_wp2_with fail
  go_loopg [5] xs.length (fun q v wr => ∃ k : Nat, k ≤ xs.length ∧ q = xs.length - k ∧ v = .int .i64 k ∧ (∀ j (h : j < xs.length), j < k → xs[j] ≠ n) ∧ wr = w)
  case atStart => exact ⟨0, by omega, by omega, rfl, fun j _ hj => by omega, rfl⟩
  case round =>
    obtain ⟨k, hk, hq, rfl, hall, rfl⟩ := hrel
    have HQ := Lib.hid hq
    have HA := Lib.hid hall
    clear hq hall
    by_cases hlt : k < xs.length
    · obtain ⟨b4, o4, rfl, h1⟩ := HS.out.at_ hlt
      simp only [elInt, Nat.mul_one] at h1
      have HX : Hid (∃ x, xs[k]? = some x ∧ x = xs[k]) := Lib.hid ⟨_, List.getElem?_eq_getElem hlt, rfl⟩
      have HM : Hid (xs[k] = n → xs.contains n = true) := Lib.hid fun h => by rw [← h]; simp
      have HN : Hid (xs[k] ≠ n → ∀ j (h : j < xs.length), j < k + 1 → xs[j] ≠ n) := Lib.hid fun h j hj hk => by
        rcases Nat.lt_or_ge j k with h0 | h0
        · exact HA.out j hj h0
        · obtain rfl : j = k := by omega
          exact h
      generalize xs[k] = x at *
      by_cases he : x = n
      · have HE := Lib.hid (HM.out he)
        subst he
        go_wp2_with fail
        go_ret
        exact ⟨ret_b (by rw [HR.out, HE.out]), rfl⟩
      · have HE := Lib.hid (HN.out he)
        have he2 : (x == n) = false := beq_eq_false_iff_ne.2 he
        go_wp2_with fail
        go_roundg (xs.length - (k + 1))
        case measure => have := HQ.out; omega
        case rel => exact ⟨k + 1, by omega, rfl, by go_num, HE.out, rfl⟩
    · have hf : xs.contains n = false := by
        rw [List.contains_eq_mem, decide_eq_false_iff_not]
        intro hm
        obtain ⟨j, hj, e⟩ := List.getElem_of_mem hm
        exact HA.out j hj (by omega) e
      have HF := Lib.hid hf
      clear hf
      go_wp2_with fail
      go_ret
      exact ⟨ret_b (by rw [HR.out, HF.out]), rfl⟩
end Go.Proofs.YtcagdmaiemmfgaaGreat
