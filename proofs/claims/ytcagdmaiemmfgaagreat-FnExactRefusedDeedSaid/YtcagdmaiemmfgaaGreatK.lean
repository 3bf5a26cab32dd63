/- The reference's function that tells whether a checker is valid answers what the plain function answers; for all checkers. -/
import Derived.Test.YtcagdmaiemmfgaaGreatProg
import Derived.Test.YtcagdmaiemmfgaaGreatV
import Derived.WalkKit
import Derived.WalkSpells
import Derived.WalkLawsBesides
import Derived.LoopTactic
import Derived.Deep.LoopGhost
import Derived.Deep.QuietTactic
import Derived.BigQuiet
namespace Go.Proofs.YtcagdmaiemmfgaaGreat
open Go.RowKit


/-- A checker behind a pointer. -/
def ChkPtr (D : Dom) (w : World) (b o : Nat) (d : Chk) : Prop :=
  w.cell? ⟨b, o, none⟩ = some (.int .i64 d.stack) ∧ w.cell? ⟨b, o + 1, none⟩ = some (.int .i64 d.start) ∧
  ∃ A0 c0 A1 c1 A2 c2 A3 c3, w.cell? ⟨b, o + 2, none⟩ = some (.slice A0 d.acc.length c0) ∧ w.cell? ⟨b, o + 3, none⟩ = some (.slice A1 d.call.length c1) ∧ w.cell? ⟨b, o + 4, none⟩ = some (.slice A2 d.ret.length c2) ∧ w.cell? ⟨b, o + 5, none⟩ = some (.slice A3 d.inn.length c3) ∧
    ChkAt D w A0 c0 A1 c1 A2 c2 A3 c3 d
theorem getD_at {α : Type} (xs : List α) (d : α) {i : Nat} (h : i < xs.length) : xs.getD i d = xs[i] := by simp [h]
theorem below_succ {p : Nat → Prop} {k : Nat} (h : ∀ j, j < k → p j) (hk : p k) : ∀ j, j < k + 1 → p j := fun j hj => by
  rcases Nat.lt_or_eq_of_le (Nat.le_of_lt_succ hj) with h1 | h1
  · exact h j h1
  · exact h1 ▸ hk
theorem quiet_eq {P : Program} {f : FuncId} {args : Array Value} {w : World} {n : Nat} {v : Value}
    (h : Calls P f args (w.drewN n) fun e w' => e = .returned v ∧ w.drewN n = w') : Calls P f args (w.drewN n) fun e w'' => e = .returned v ∧ ∃ m, w'' = w.drewN m :=
  h.mono fun _ _ ⟨he, hm⟩ => ⟨he, n, hm.symm⟩
theorem Sl.drewN {α : Type} {sz : Nat} {e : El α} {D : Dom} {w : World} {A : Option Addr} {c : Nat} {xs : List α} (g : El.Good sz e) (h : Sl sz e D w A c xs) (n : Nat) : Sl sz e D (w.drewN n) A c xs := h.keep g fun _ _ => rfl
theorem l00In_t {n lo hi : Int} (h : inB lo hi n = true) (w : World) : Calls Tryz.prog 126 #[.int .i64 n, .int .i64 lo, .int .i64 hi] w fun e w' => e = .returned (.bool true) ∧ w = w' := h ▸ l00In_c n lo hi w
theorem l00In_f {n lo hi : Int} (h : inB lo hi n = false) (w : World) : Calls Tryz.prog 126 #[.int .i64 n, .int .i64 lo, .int .i64 hi] w fun e w' => e = .returned (.bool false) ∧ w = w' := h ▸ l00In_c n lo hi w
set_option maxHeartbeats 1000000 in
set_option maxRecDepth 100000 in
theorem l02Ok_c (D : Dom) (b o : Nat) (d : Chk) (w : World) (hp : ChkPtr D w b o d) : Calls Tryz.prog 56 #[.pointer (some ⟨b, o, none⟩)] w fun e w' => e = .returned (.bool (okChk d)) ∧ Below w.heap.size w w' := by
  obtain ⟨p0, p1, A0, c0, A1, c1, A2, c2, A3, c3, p2, p3, p4, p5, hs⟩ := hp
  have l0 := hs.acc.le
  have l1 := hs.call.le
  have l2 := hs.ret.le
  have l3 := hs.inn.le
  have H := Lib.hid hs
  clear hs
  by_cases hT : okTop d = true
  case neg =>
    have hf : okChk d = false := by unfold okChk; simp only [Bool.not_eq_true] at hT; rw [hT, Bool.false_and]
    have HF := Lib.hid hf
    have hT2 : okTop d = false := by simpa using hT
    unfold okTop at hT2
    clear hT hf
    have key : inB 1 40 (d.acc.length : Int) = false ∨ (inB 1 40 (d.acc.length : Int) = true ∧ (inB 1 80 d.stack = false ∨ (inB 1 80 d.stack = true ∧ (inB 0 ((d.acc.length : Int) - 1) d.start = false ∨ (inB 0 ((d.acc.length : Int) - 1) d.start = true ∧
        (d.call.length ≠ d.acc.length ∨ ((d.call.length ≤ d.acc.length ∧ d.acc.length ≤ d.call.length) ∧ (d.ret.length ≠ d.acc.length ∨ ((d.ret.length ≤ d.acc.length ∧ d.acc.length ≤ d.ret.length) ∧ d.inn.length ≠ d.acc.length))))))))) := by
      cases t0 : inB 1 40 (d.acc.length : Int)
      · exact .inl rfl
      refine .inr ⟨rfl, ?_⟩
      cases t1 : inB 1 80 d.stack
      · exact .inl rfl
      refine .inr ⟨rfl, ?_⟩
      cases t2 : inB 0 ((d.acc.length : Int) - 1) d.start
      · exact .inl rfl
      refine .inr ⟨rfl, ?_⟩
      by_cases t3 : d.call.length = d.acc.length
      · refine .inr ⟨by omega, ?_⟩
        by_cases t4 : d.ret.length = d.acc.length
        · refine .inr ⟨by omega, ?_⟩
          intro t5
          rw [t0, t1, t2] at hT2
          simp [t3, t4, t5] at hT2
        · exact .inl t4
      · exact .inl t3
    clear hT2
    rcases key with t0 | ⟨t0, t1 | ⟨t1, t2 | ⟨t2, t3 | ⟨t3, t4 | ⟨t4, t5⟩⟩⟩⟩⟩
    all_goals
      go_enter Tryz.func56, Tryz.ntmps56
      go_wp2_with (go_at_call 126; refine (l00In_c _ _ _ _).mono ?_; rintro e w' ⟨rfl, rfl⟩)
      go_ret
      exact ⟨ret_b HF.out.symm, Below.refl _ _⟩
  have hT0 := hT
  simp only [okTop, Bool.and_eq_true, decide_eq_true_eq] at hT0
  obtain ⟨⟨⟨⟨⟨t0, t1⟩, t2⟩, t3⟩, t4⟩, t5⟩ := hT0
  have HT := Lib.hid hT
  have T3 := Lib.hid t3
  have T4 := Lib.hid t4
  have T5 := Lib.hid t5
  have n1 := (inB_iff.1 t0).1
  have n2 := (inB_iff.1 t0).2
  have m1 := (inB_iff.1 t1).1
  have m2 := (inB_iff.1 t1).2
  have s3 : d.call.length ≤ d.acc.length := by omega
  have s4 : d.ret.length ≤ d.acc.length := by omega
  have s5 : d.inn.length ≤ d.acc.length := by omega
  have r3 : d.acc.length ≤ d.call.length := by omega
  have r4 : d.acc.length ≤ d.ret.length := by omega
  have r5 : d.acc.length ≤ d.inn.length := by omega
  have y3 : ((d.call.length : Int) != (d.acc.length : Int)) = false := by simp [t3]
  have y4 : ((d.ret.length : Int) != (d.acc.length : Int)) = false := by simp [t4]
  have y5 : ((d.inn.length : Int) != (d.acc.length : Int)) = false := by simp [t5]
  clear hT t3 t4 t5
  go_enter Tryz.func56, Tryz.ntmps56
  go_wp2_with (go_at_call 126; refine (l00In_c _ _ _ _).mono ?_; rintro e w' ⟨rfl, rfl⟩)
  clear t0 t1 t2 y3 y4 y5
  go_loopg [4] d.acc.length (fun q i wr => ∃ s : Nat, s ≤ d.acc.length ∧ q = d.acc.length - s ∧ i = .int .i64 s ∧ (∀ j, j < s → okS d j = true) ∧ Below w.heap.size w wr)
  case atStart => exact ⟨0, by omega, by omega, rfl, fun j hj => by omega, Below.refl _ _⟩
  case round =>
    obtain ⟨s, hs, hq, rfl, hall, hbel⟩ := hrel
    have HQ := Lib.hid hq
    clear hq
    have HA := Lib.hid hall
    have HB := Lib.hid hbel
    have hp0 := (hbel.cell (p := ⟨b, o, none⟩) (lt_of_cell p0)).trans p0
    have hp2 := (hbel.cell (p := ⟨b, o + 2, none⟩) (lt_of_cell p0)).trans p2
    have hp3 := (hbel.cell (p := ⟨b, o + 3, none⟩) (lt_of_cell p0)).trans p3
    have hp4 := (hbel.cell (p := ⟨b, o + 4, none⟩) (lt_of_cell p0)).trans p4
    have hp5 := (hbel.cell (p := ⟨b, o + 5, none⟩) (lt_of_cell p0)).trans p5
    have HW := Lib.hid (H.out.below hbel)
    clear hall hbel H
    by_cases hlt : s < d.acc.length
    case neg =>
      go_wp2_with fail
      go_ret
      refine ⟨ret_b ?_, HB.out⟩
      rw [okChk, HT.out, all_range_true (fun k hk => HA.out k (by omega))]
      rfl
    obtain ⟨b1, o1, rfl, X1, y1, h1, g1⟩ := HW.out.call.at_ (i := s) (by omega)
    obtain ⟨b2, o2, rfl, X2, y2, h2, g2⟩ := HW.out.ret.at_ (i := s) (by omega)
    obtain ⟨b3, o3, rfl, X3, y3, h3, g3⟩ := HW.out.inn.at_ (i := s) (by omega)
    simp only [Nat.mul_one] at h1 h2 h3
    have G1 := Lib.hid g1
    have G2 := Lib.hid g2
    have G3 := Lib.hid g3
    clear g1 g2 g3
    have q1 : d.call.getD s [] = d.call[s] := getD_at _ _ (by omega)
    have q2 : d.ret.getD s [] = d.ret[s] := getD_at _ _ (by omega)
    have q3 : d.inn.getD s [] = d.inn[s] := getD_at _ _ (by omega)
    have Q1 := Lib.hid q1
    have Q2 := Lib.hid q2
    have Q3 := Lib.hid q3
    clear q1 q2 q3
    by_cases f1 : d.call[s].length = 2
    case neg =>
      have hf : okS d s = false := by unfold okS; rw [Q1.out]; simp [f1]
      have HF := Lib.hid hf
      clear hf
      go_wp2_with fail
      go_ret
      exact ⟨ret_b (by rw [okChk, all_range_false hlt HF.out, Bool.and_false]), HB.out⟩
    by_cases f2 : d.ret[s].length = 2
    case neg =>
      have hf : okS d s = false := by unfold okS; rw [Q1.out, Q2.out]; simp [f2]
      have HF := Lib.hid hf
      clear hf
      go_wp2_with fail
      go_ret
      exact ⟨ret_b (by rw [okChk, all_range_false hlt HF.out, Bool.and_false]), HB.out⟩
    cases f3 : okList d.inn[s] 2 d.acc.length
    · have hf : okS d s = false := by unfold okS; rw [Q3.out, f3]; simp
      have HF := Lib.hid hf
      clear hf
      go_wp2_with (go_at_call 129; refine (l02List_c D _ _ _ _ _ _ G3.out (by omega) (by omega)).mono ?_; rintro e w' ⟨rfl, rfl⟩)
      go_ret
      exact ⟨ret_b (by rw [okChk, all_range_false hlt HF.out, Bool.and_false]), HB.out⟩
    go_wp2_with (go_at_call 129; refine (l02List_c D _ _ _ _ _ _ G3.out (by omega) (by omega)).mono ?_; rintro e w' ⟨rfl, rfl⟩)
    have F3 := Lib.hid f3
    have F1 := Lib.hid f1
    have F2 := Lib.hid f2
    have u1 : d.call[s].length ≤ 2 := by omega
    have u2 : d.ret[s].length ≤ 2 := by omega
    have v1 : 2 ≤ d.call[s].length := by omega
    have v2 : 2 ≤ d.ret[s].length := by omega
    clear f1 f2 f3
    obtain ⟨wo, rfl⟩ : ∃ wo : World, wo = wr := ⟨_, rfl⟩
    go_loopg [5] 2 (fun q i wr => ∃ k : Nat, k ≤ 2 ∧ q = 2 - k ∧ i = .int .i64 k ∧ (∀ j, j < k → okK d s j = true) ∧ Below wo.heap.size wo wr)
    case atStart => exact ⟨0, by omega, by omega, rfl, fun j hj => by omega, Below.refl _ _⟩
    case round =>
      obtain ⟨k, hk, hq2, rfl, hall2, hbel2⟩ := hrel
      have HQ2 := Lib.hid hq2
      clear hq2
      have HA2 := Lib.hid hall2
      have HB2 := Lib.hid (HB.out.trans (hbel2.mono HB.out.size))
      have HB3 := Lib.hid hbel2
      have jp0 := (hbel2.cell (p := ⟨b, o, none⟩) (lt_of_cell hp0)).trans hp0
      have jp3 := (hbel2.cell (p := ⟨b, o + 3, none⟩) (lt_of_cell hp0)).trans hp3
      have jp4 := (hbel2.cell (p := ⟨b, o + 4, none⟩) (lt_of_cell hp0)).trans hp4
      have j1 := (hbel2.cell (p := ⟨b1, o1 + s, none⟩) (lt_of_cell h1)).trans h1
      have j2 := (hbel2.cell (p := ⟨b2, o2 + s, none⟩) (lt_of_cell h2)).trans h2
      clear hall2 hbel2 hp0 hp2 hp3 hp4 hp5 h1 h2 h3
      by_cases hlt2 : k < 2
      case neg =>
        obtain rfl : k = 2 := by omega
        have hok : okS d s = true := by unfold okS; rw [Q1.out, Q2.out, Q3.out, F1.out, F2.out, F3.out, all_range_true HA2.out]; rfl
        have HOK := Lib.hid hok
        clear hok
        go_wp2_with fail
        go_roundg (d.acc.length - (s + 1))
        case measure => have := HQ.out; omega
        case rel => exact ⟨s + 1, by omega, rfl, by go_num, below_succ HA.out HOK.out, HB2.out⟩
      have l1k : k < d.call[s].length := by omega
      have l2k : k < d.ret[s].length := by omega
      obtain ⟨b4, o4, rfl, h4, h5⟩ := (G1.out.below elPush_good HB3.out).at_ l1k
      obtain ⟨b5, o5, rfl, X6, y6, h6, g6⟩ := (G2.out.below elInts_good HB3.out).at_ l2k
      simp only [Nat.mul_one] at h6
      have G6 := Lib.hid g6
      clear g6
      have e1 : (d.call.getD s []).getD k ⟨0, 0⟩ = d.call[s][k] := by rw [Q1.out]; exact getD_at _ _ l1k
      have e2 : (d.ret.getD s []).getD k [] = d.ret[s][k] := by rw [Q2.out]; exact getD_at _ _ l2k
      have E1 := Lib.hid e1
      have E2 := Lib.hid e2
      clear e1 e2
      have ek0 : (0 : Int) ≤ k := by omega
      have ek2 : (k : Int) < d.call[s].length := by omega
      have ek3 : (k : Int) < d.ret[s].length := by omega
      have es0 : (0 : Int) ≤ s := by omega
      have es1 : (s : Int) < d.call.length := by omega
      have es2 : (s : Int) < d.ret.length := by omega
      cases z1 : inB 0 ((d.acc.length : Int) - 1) d.call[s][k].to
      · have hf : okK d s k = false := by unfold okK; rw [E1.out, z1]; simp
        have hf2 : okS d s = false := by unfold okS; rw [all_range_false hlt2 hf, Bool.and_false]
        have HF := Lib.hid hf2
        clear hf hf2
        go_wp2_with fail
        go_quiet (first | (go_at_call 126; exact quiet_eq (l00In_c _ _ _ _)) | (go_at_call 129; exact quiet_eq (l02List_c D _ _ _ _ _ _ (G6.out.drewN ints_good _) (by omega) (by omega))))
        go_wp2_with fail
        go_ret
        exact ⟨ret_b (by rw [okChk, all_range_false hlt HF.out, Bool.and_false]), below_drewN HB2.out _⟩
      cases z2 : inB 0 (d.stack - 1) d.call[s][k].put
      · have hf : okK d s k = false := by unfold okK; rw [E1.out, z2]; simp
        have hf2 : okS d s = false := by unfold okS; rw [all_range_false hlt2 hf, Bool.and_false]
        have HF := Lib.hid hf2
        clear hf hf2
        go_wp2_with fail
        go_quiet (first | (go_at_call 126; exact quiet_eq (l00In_c _ _ _ _)) | (go_at_call 129; exact quiet_eq (l02List_c D _ _ _ _ _ _ (G6.out.drewN ints_good _) (by omega) (by omega))))
        go_wp2_with fail
        go_ret
        exact ⟨ret_b (by rw [okChk, all_range_false hlt HF.out, Bool.and_false]), below_drewN HB2.out _⟩
      cases z3 : okList d.ret[s][k] (d.stack + 1) d.acc.length
      · have hf : okK d s k = false := by unfold okK; rw [E2.out, z3]; simp
        have hf2 : okS d s = false := by unfold okS; rw [all_range_false hlt2 hf, Bool.and_false]
        have HF := Lib.hid hf2
        clear hf hf2
        go_wp2_with fail
        go_quiet (first | (go_at_call 126; exact quiet_eq (l00In_c _ _ _ _)) | (go_at_call 129; exact quiet_eq (l02List_c D _ _ _ _ _ _ (G6.out.drewN ints_good _) (by omega) (by omega))))
        go_wp2_with fail
        go_ret
        exact ⟨ret_b (by rw [okChk, all_range_false hlt HF.out, Bool.and_false]), below_drewN HB2.out _⟩
      have hok : okK d s k = true := by unfold okK; rw [E1.out, E2.out, z1, z2, z3]; rfl
      have HOK := Lib.hid hok
      clear hok
      go_wp2_with fail
      go_quiet (first | (go_at_call 126; exact quiet_eq (l00In_c _ _ _ _)) | (go_at_call 129; exact quiet_eq (l02List_c D _ _ _ _ _ _ (G6.out.drewN ints_good _) (by omega) (by omega))))
      go_wp2_with fail
      go_roundg (2 - (k + 1))
      case measure => have := HQ2.out; omega
      case rel => exact ⟨k + 1, by omega, rfl, by go_num, below_succ HA2.out HOK.out, below_drewN HB3.out _⟩
end Go.Proofs.YtcagdmaiemmfgaaGreat
