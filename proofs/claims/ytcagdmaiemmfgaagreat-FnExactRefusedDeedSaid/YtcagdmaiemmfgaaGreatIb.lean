/- The program's tests of deeds answer what the plain test answers; for all deeds. -/
import Derived.Test.YtcagdmaiemmfgaaGreatIa
namespace Go.Proofs.YtcagdmaiemmfgaaGreat
open Go.RowKit

/-- The word of a kind of deeds, and how many numbers it tells. -/
def dword (k : Int) : ByteArray × Int := if k = 1 then (⟨#[115, 101, 110, 100]⟩, 2) else if k = 2 then (⟨#[100, 101, 108, 105, 118, 101, 114]⟩, 1) else if k = 3 then (⟨#[99, 111, 112, 121]⟩, 1) else if k = 4 then (⟨#[100, 114, 111, 112]⟩, 1) else if k = 5 then (⟨#[115, 97, 118, 101]⟩, 0) else if k = 6 then (⟨#[99, 114, 97, 115, 104]⟩, 0) else (⟨#[]⟩, 0)
set_option maxHeartbeats 1000000 in
theorem deedWord_c (k : Int) (w : World) : Calls Tryz.prog 208 #[.int .i64 k] w fun e w' => e = .returned (.tuple #[.string (dword k).1, .int .i64 (dword k).2]) ∧ w = w' := by
  by_cases h : k = 1 ∨ k = 2 ∨ k = 3 ∨ k = 4 ∨ k = 5 ∨ k = 6
  · rcases h with rfl | rfl | rfl | rfl | rfl | rfl
    all_goals
      go_enter Tryz.func208, Tryz.ntmps208
      go_wp2
      go_ret2
      exact ⟨rfl, rfl⟩
  · have h1 : (k == 1) = false := beq_eq_false_iff_ne.2 (by omega)
    have h2 : (k == 2) = false := beq_eq_false_iff_ne.2 (by omega)
    have h3 : (k == 3) = false := beq_eq_false_iff_ne.2 (by omega)
    have h4 : (k == 4) = false := beq_eq_false_iff_ne.2 (by omega)
    have h5 : (k == 5) = false := beq_eq_false_iff_ne.2 (by omega)
    have h6 : (k == 6) = false := beq_eq_false_iff_ne.2 (by omega)
    have hd : Hid (dword k = (⟨#[]⟩, 0)) := Lib.hid (by unfold dword; rw [if_neg (by omega), if_neg (by omega), if_neg (by omega), if_neg (by omega), if_neg (by omega), if_neg (by omega)])
    clear h
    go_enter Tryz.func208, Tryz.ntmps208
    go_wp2
    go_ret2
    exact ⟨by rw [hd.out]; rfl, rfl⟩
theorem told_lit : told 1 = 2 ∧ told 2 = 1 ∧ told 3 = 1 ∧ told 4 = 1 ∧ told 5 = 0 ∧ told 6 = 0 := ⟨rfl, rfl, rfl, rfl, rfl, rfl⟩
set_option maxHeartbeats 4000000 in
set_option maxRecDepth 100000 in
theorem validDeed_c (x : Deed) (w : World) : Calls Tryz.prog 171 #[.agg #[.int .i64 x.kind, .int .i64 x.a, .int .i64 x.b]] w fun e w' => e = .returned (.bool (okDeed x)) ∧ Below w.heap.size w w' := by
  obtain ⟨k, a, b⟩ := x
  simp only
  obtain ⟨r, hr⟩ : ∃ r, r = okDeed ⟨k, a, b⟩ := ⟨_, rfl⟩
  rw [← hr]
  have HR := Lib.hid hr
  clear hr
  by_cases h : k = 1 ∨ k = 2 ∨ k = 3 ∨ k = 4 ∨ k = 5 ∨ k = 6
  · obtain ⟨t, ht⟩ : ∃ t, t = (dword k).2 := ⟨_, rfl⟩
    obtain ⟨s, hs⟩ : ∃ s, s = (dword k).1 := ⟨_, rfl⟩
    have hok : okDeed ⟨k, a, b⟩ = (inB 0 999 a && (inB 0 999 b && ((decide (0 < t) || decide (a = 0)) && (decide (1 < t) || decide (b = 0))))) ∧ (t = 0 ∨ t = 1 ∨ t = 2) ∧ s.toList.isEmpty = false := by
      obtain ⟨t1, t2, t3, t4, t5, t6⟩ := told_lit
      rcases h with rfl | rfl | rfl | rfl | rfl | rfl <;> (subst ht hs; refine ⟨?_, by decide, by kernel_rfl⟩; unfold okDeed; simp only [t1, t2, t3, t4, t5, t6]; rfl)
    obtain ⟨hok, ht3, hse⟩ := hok
    have HOK : Hid (r = (inB 0 999 a && (inB 0 999 b && ((decide (0 < t) || decide (a = 0)) && (decide (1 < t) || decide (b = 0)))))) := Lib.hid (HR.out.trans hok)
    have HT := Lib.hid ht
    have HS := Lib.hid hs
    clear hok ht hs h HR
    cases h1 : inB 0 999 a
    · go_enter Tryz.func171, Tryz.ntmps171
      go_wp2_with (first | (go_at_call 208; refine (deedWord_c _ _).mono ?_; rintro e w' ⟨rfl, rfl⟩; rw [← HT.out, ← HS.out]) | (go_at_call 137; refine (within_c _ _ _ _).mono ?_; rintro e w' ⟨rfl, rfl⟩))
      go_ret
      exact ⟨ret_b (by rw [HOK.out, h1]; rfl), bel1 _ _⟩
    cases h2 : inB 0 999 b
    · go_enter Tryz.func171, Tryz.ntmps171
      go_wp2_with (first | (go_at_call 208; refine (deedWord_c _ _).mono ?_; rintro e w' ⟨rfl, rfl⟩; rw [← HT.out, ← HS.out]) | (go_at_call 137; refine (within_c _ _ _ _).mono ?_; rintro e w' ⟨rfl, rfl⟩))
      go_ret
      exact ⟨ret_b (by rw [HOK.out, h1, h2]; rfl), bel1 _ _⟩
    have HOK2 : Hid (r = ((decide (0 < t) || decide (a = 0)) && (decide (1 < t) || decide (b = 0)))) := Lib.hid (by rw [HOK.out, h1, h2]; rfl)
    clear HOK
    rcases ht3 with rfl | rfl | rfl
    all_goals
      by_cases ha : a = 0
    all_goals
      by_cases hb : b = 0
    all_goals
      have HAB := Lib.hid (And.intro ha hb)
    all_goals
      first | subst ha | (have ha2 : (a == 0) = false := beq_eq_false_iff_ne.2 ha)
    all_goals
      first | subst hb | (have hb2 : (b == 0) = false := beq_eq_false_iff_ne.2 hb)
    all_goals
      go_enter Tryz.func171, Tryz.ntmps171
      go_wp2_with (first | (go_at_call 208; refine (deedWord_c _ _).mono ?_; rintro e w' ⟨rfl, rfl⟩; rw [← HT.out, ← HS.out]) | (go_at_call 137; refine (within_c _ _ _ _).mono ?_; rintro e w' ⟨rfl, rfl⟩))
      go_ret
      exact ⟨ret_b (by rw [HOK2.out]; have := HAB.out; simp [this]), bel1 _ _⟩
  · have hd : Hid (dword k = (⟨#[]⟩, 0)) := Lib.hid (by unfold dword; rw [if_neg (by omega), if_neg (by omega), if_neg (by omega), if_neg (by omega), if_neg (by omega), if_neg (by omega)])
    have hk : inB 1 6 k = false := by
      cases hb : inB 1 6 k
      · rfl
      · have := inB_iff.1 hb
        omega
    have HRF : Hid (r = false) := Lib.hid (by rw [HR.out, okDeed]; simp only [hk]; rfl)
    clear h hk HR
    go_enter Tryz.func171, Tryz.ntmps171
    go_wp2_with (go_at_call 208; refine (deedWord_c _ _).mono ?_; rintro e w' ⟨rfl, rfl⟩; rw [hd.out])
    go_ret
    exact ⟨ret_b HRF.out.symm, bel1 _ _⟩
set_option maxHeartbeats 400000 in
theorem notDeed_c (x : Deed) (w : World) : Calls Tryz.prog 170 #[.agg #[.int .i64 x.kind, .int .i64 x.a, .int .i64 x.b]] w fun e w' => e = .returned (.bool (!okDeed x)) ∧ Below w.heap.size w w' := by
  go_enter Tryz.func170, Tryz.ntmps170
  go_wp2_with (go_at_call 171; refine (validDeed_c x _).mono ?_; rintro e w1 ⟨rfl, hb1⟩; have HB1 := Lib.hid hb1; clear hb1)
  go_ret
  exact ⟨rfl, (bel1 w _).trans (HB1.out.mono (bel1 w _).size)⟩
theorem enters_notDeed : Enters Tryz.prog 170 := fun args w => by kernel_rfl
end Go.Proofs.YtcagdmaiemmfgaaGreat
