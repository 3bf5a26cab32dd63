/- The program's function that tells whether a checker is valid answers what the plain function answers; for all checkers. -/
import Derived.Test.YtcagdmaiemmfgaaGreatProg
import Derived.Test.YtcagdmaiemmfgaaGreatC
import Derived.Test.YtcagdmaiemmfgaaGreatQ
import Derived.WalkKit
import Derived.WalkSpells
import Derived.WalkLawsBesides
import Derived.LoopTactic
import Derived.Deep.LoopGhost
import Derived.Deep.QuietTactic
import Derived.BigQuiet
import Derived.Deep.RegionHeld3
namespace Go.Proofs.YtcagdmaiemmfgaaGreat
open Go.RowKit



theorem enters_149 : Enters Tryz.prog 149 := fun args w => by kernel_rfl
set_option maxHeartbeats 16000000 in
set_option maxRecDepth 100000 in
theorem validChecker_c (D : Dom) (A0 : Option Addr) (c0 : Nat) (A1 : Option Addr) (c1 : Nat) (A2 : Option Addr) (c2 : Nat) (A3 : Option Addr) (c3 : Nat) (d : Chk) (w : World) (hs : ChkAt D w A0 c0 A1 c1 A2 c2 A3 c3 d) :
    Calls Tryz.prog 68 #[.agg #[.int .i64 d.stack, .int .i64 d.start, .slice A0 d.acc.length c0, .slice A1 d.call.length c1, .slice A2 d.ret.length c2, .slice A3 d.inn.length c3]] w
      fun e w' => e = .returned (.bool (okChk d)) ∧ Below w.heap.size w w' := by
  have l0 := hs.acc.le
  have l1 := hs.call.le
  have l2 := hs.ret.le
  have l3 := hs.inn.le
  have H := Lib.hid hs
  clear hs
  by_cases hT : okTop d = true
  case neg =>
    have hf : okChk d = false := by unfold okChk; simp only [Bool.not_eq_true] at hT; rw [hT, Bool.false_and]
    have HF := Lib.hid hf
    have hT2 : okTop d = false := by simpa using hT
    unfold okTop at hT2
    clear hT hf
    have key : inB 1 40 (d.acc.length : Int) = false ∨ (inB 1 40 (d.acc.length : Int) = true ∧ (inB 1 80 d.stack = false ∨ (inB 1 80 d.stack = true ∧ (inB 0 ((d.acc.length : Int) - 1) d.start = false ∨ (inB 0 ((d.acc.length : Int) - 1) d.start = true ∧
        (d.call.length ≠ d.acc.length ∨ ((d.call.length ≤ d.acc.length ∧ d.acc.length ≤ d.call.length) ∧ (d.ret.length ≠ d.acc.length ∨ ((d.ret.length ≤ d.acc.length ∧ d.acc.length ≤ d.ret.length) ∧ d.inn.length ≠ d.acc.length))))))))) := by
      cases t0 : inB 1 40 (d.acc.length : Int)
      · exact .inl rfl
      refine .inr ⟨rfl, ?_⟩
      cases t1 : inB 1 80 d.stack
      · exact .inl rfl
      refine .inr ⟨rfl, ?_⟩
      cases t2 : inB 0 ((d.acc.length : Int) - 1) d.start
      · exact .inl rfl
      refine .inr ⟨rfl, ?_⟩
      by_cases t3 : d.call.length = d.acc.length
      · refine .inr ⟨by omega, ?_⟩
        by_cases t4 : d.ret.length = d.acc.length
        · refine .inr ⟨by omega, ?_⟩
          intro t5
          rw [t0, t1, t2] at hT2
          simp [t3, t4, t5] at hT2
        · exact .inl t4
      · exact .inl t3
    clear hT2
    rcases key with t0 | ⟨t0, t1 | ⟨t1, t2 | ⟨t2, t3 | ⟨t3, t4 | ⟨t4, t5⟩⟩⟩⟩⟩
    all_goals
      go_enter Tryz.func68, Tryz.ntmps68
      go_wp2_with (first | (go_at_call 137; refine (within_c _ _ _ _).mono ?_; rintro e w' ⟨rfl, rfl⟩) | (go_at_call 145; refine (isState_c _ _ _ _ _ _ _ _ _ _ _ _ _ _ _ _ (by omega)).mono ?_; rintro e w1 ⟨rfl, hb1⟩; obtain ⟨k1, f1⟩ := bcell hb1 (n := w.heap.size + 1) (by simp); have HB1 := Lib.hid ((bel1 _ _).trans (hb1.mono (by simp))); clear hb1) | (go_at_call 66; refine (sizeB_c _ _ _ _).mono ?_; rintro e w' ⟨rfl, rfl⟩) | (go_at_call 146; refine (sizeP_c _ _ _ _).mono ?_; rintro e w' ⟨rfl, rfl⟩) | (go_at_call 147; refine (sizeII_c _ _ _ _).mono ?_; rintro e w' ⟨rfl, rfl⟩) | (go_at_call 148; refine (sizeI_c _ _ _ _).mono ?_; rintro e w' ⟨rfl, rfl⟩))
      go_ret
      first | exact ⟨ret_b HF.out.symm, HB1.out⟩ | exact ⟨ret_b HF.out.symm, bel1 _ _⟩
  have hT0 := hT
  simp only [okTop, Bool.and_eq_true, decide_eq_true_eq] at hT0
  obtain ⟨⟨⟨⟨⟨t0, t1⟩, t2⟩, t3⟩, t4⟩, t5⟩ := hT0
  have HT := Lib.hid hT
  have n1 := (inB_iff.1 t0).1
  have n2 := (inB_iff.1 t0).2
  have m1 := (inB_iff.1 t1).1
  have m2 := (inB_iff.1 t1).2
  have s3 : d.call.length ≤ d.acc.length := by omega
  have s4 : d.ret.length ≤ d.acc.length := by omega
  have s5 : d.inn.length ≤ d.acc.length := by omega
  have r3 : d.acc.length ≤ d.call.length := by omega
  have r4 : d.acc.length ≤ d.ret.length := by omega
  have r5 : d.acc.length ≤ d.inn.length := by omega
  have y3 : ((d.call.length : Int) != (d.acc.length : Int)) = false := by simp [t3]
  have y4 : ((d.ret.length : Int) != (d.acc.length : Int)) = false := by simp [t4]
  have y5 : ((d.inn.length : Int) != (d.acc.length : Int)) = false := by simp [t5]
  clear hT t3 t4 t5
  go_enter Tryz.func68, Tryz.ntmps68
  go_wp2_with (first | (go_at_call 137; refine (within_c _ _ _ _).mono ?_; rintro e w' ⟨rfl, rfl⟩) | (go_at_call 145; refine (isState_c _ _ _ _ _ _ _ _ _ _ _ _ _ _ _ _ (by omega)).mono ?_; rintro e w1 ⟨rfl, hb1⟩; obtain ⟨k1, f1⟩ := bcell hb1 (n := w.heap.size + 1) (by simp); have HB1 := Lib.hid ((bel1 _ _).trans (hb1.mono (by simp))); clear hb1) | (go_at_call 66; refine (sizeB_c _ _ _ _).mono ?_; rintro e w' ⟨rfl, rfl⟩) | (go_at_call 146; refine (sizeP_c _ _ _ _).mono ?_; rintro e w' ⟨rfl, rfl⟩) | (go_at_call 147; refine (sizeII_c _ _ _ _).mono ?_; rintro e w' ⟨rfl, rfl⟩) | (go_at_call 148; refine (sizeI_c _ _ _ _).mono ?_; rintro e w' ⟨rfl, rfl⟩))
  clear t0 t1 t2 y3 y4 y5
  have hbox : ChkBox w1 w.heap.size d.stack d.start A0 d.acc.length c0 A1 d.call.length c1 A2 d.ret.length c2 A3 d.inn.length c3 := by
    refine ⟨?_, ?_, ?_, ?_, ?_, ?_⟩ <;> simp [k1]
  have HX0 := Lib.hid hbox
  clear k1 f1 hbox
  go_loopg [50] d.acc.length (fun q i wr => ∃ s : Nat, s ≤ d.acc.length ∧ q = d.acc.length - s ∧ i = .int .i64 s ∧ (∀ j, j < s → okS d j = true) ∧ Below w.heap.size w wr ∧ ChkBox wr w.heap.size d.stack d.start A0 d.acc.length c0 A1 d.call.length c1 A2 d.ret.length c2 A3 d.inn.length c3)
  case atStart => exact ⟨0, by omega, by omega, rfl, fun j hj => by omega, HB1.out, HX0.out⟩
  case round =>
    obtain ⟨s, hs, hq, rfl, hall, hbel, hbox⟩ := hrel
    have HQ := Lib.hid hq
    have HA := Lib.hid hall
    have HB := Lib.hid hbel
    have HC := Lib.hid hbox
    have HW := Lib.hid (H.out.below hbel)
    obtain ⟨p0, p1, p2, p3, p4, p5⟩ := hbox
    clear hq hall hbel H HX0 HB1
    by_cases hlt : s < d.acc.length
    case neg =>
      go_wp2_with fail
      go_ret
      refine ⟨ret_b ?_, HB.out⟩
      rw [okChk, HT.out, all_range_true (fun k hk => HA.out k (by omega))]
      rfl
    obtain ⟨b1, o1, rfl, X1, y1, h1, g1⟩ := HW.out.call.at_ (i := s) (by omega)
    obtain ⟨b2, o2, rfl, X2, y2, h2, g2⟩ := HW.out.ret.at_ (i := s) (by omega)
    obtain ⟨b3, o3, rfl, X3, y3, h3, g3⟩ := HW.out.inn.at_ (i := s) (by omega)
    simp only [Nat.mul_one] at h1 h2 h3
    have G1 := Lib.hid g1
    have G2 := Lib.hid g2
    have G3 := Lib.hid g3
    clear g1 g2 g3
    have q1 : d.call.getD s [] = d.call[s] := getD_at _ _ (by omega)
    have q2 : d.ret.getD s [] = d.ret[s] := getD_at _ _ (by omega)
    have q3 : d.inn.getD s [] = d.inn[s] := getD_at _ _ (by omega)
    have Q1 := Lib.hid q1
    have Q2 := Lib.hid q2
    have Q3 := Lib.hid q3
    clear q1 q2 q3
    by_cases f1 : d.call[s].length = 2
    case neg =>
      have hf : okS d s = false := by unfold okS; rw [Q1.out]; simp [f1]
      have HF := Lib.hid hf
      clear hf
      go_wp2_with fail
      go_ret
      exact ⟨ret_b (by rw [okChk, all_range_false hlt HF.out, Bool.and_false]), HB.out⟩
    by_cases f2 : d.ret[s].length = 2
    case neg =>
      have hf : okS d s = false := by unfold okS; rw [Q1.out, Q2.out]; simp [f2]
      have HF := Lib.hid hf
      clear hf
      go_wp2_with fail
      go_ret
      exact ⟨ret_b (by rw [okChk, all_range_false hlt HF.out, Bool.and_false]), HB.out⟩
    cases f3 : okList d.inn[s] 2 d.acc.length
    · have hf : okS d s = false := by unfold okS; rw [Q3.out, f3]; simp
      have HF := Lib.hid hf
      clear hf
      go_wp2_with fail
      refine (areStates_c D _ _ _ _ _ _ _ _ _ _ _ _ _ _ _ _ _ _ _ _ (by omega) HC.out G3.out).mono ?_
      rintro e w2 ⟨rfl, hb2⟩
      have HB2 := Lib.hid (HB.out.trans (hb2.mono HB.out.size))
      clear hb2
      go_wp2_with fail
      go_ret
      exact ⟨ret_b (by rw [okChk, all_range_false hlt HF.out, Bool.and_false]), HB2.out⟩
    go_wp2_with fail
    refine (areStates_c D _ _ _ _ _ _ _ _ _ _ _ _ _ _ _ _ _ _ _ _ (by omega) HC.out G3.out).mono ?_
    rintro e w2 ⟨rfl, hb2⟩
    have HB2 := Lib.hid (HB.out.trans (hb2.mono HB.out.size))
    have HC2 := Lib.hid (HC.out.below hb2)
    have HL2 := Lib.hid hb2
    have k1 := (hb2.cell (p := ⟨b1, o1 + s, none⟩) (lt_of_cell h1)).trans h1
    have k2 := (hb2.cell (p := ⟨b2, o2 + s, none⟩) (lt_of_cell h2)).trans h2
    clear hb2 p0 p1 p2 p3 p4 p5 h1 h2 h3
    go_wp2_with fail
    have F3 := Lib.hid f3
    have F1 := Lib.hid f1
    have F2 := Lib.hid f2
    have u1 : d.call[s].length ≤ 2 := by omega
    have u2 : d.ret[s].length ≤ 2 := by omega
    have v1 : 2 ≤ d.call[s].length := by omega
    have v2 : 2 ≤ d.ret[s].length := by omega
    clear f1 f2 f3
    go_loopg [79] 2 (fun q i wr => ∃ k : Nat, k ≤ 2 ∧ q = 2 - k ∧ i = .int .i64 k ∧ (∀ j, j < k → okK d s j = true) ∧ Below w2.heap.size w2 wr)
    case atStart => exact ⟨0, by omega, by omega, rfl, fun j hj => by omega, Below.refl _ _⟩
    case round =>
      obtain ⟨k, hk, hq2, rfl, hall2, hbel2⟩ := hrel
      have HQ2 := Lib.hid hq2
      have HA2 := Lib.hid hall2
      have HB3 := Lib.hid (HB2.out.trans (hbel2.mono HB2.out.size))
      have HB4 := Lib.hid hbel2
      have HC3 := HC2.out.below hbel2
      have HC4 := Lib.hid HC3
      obtain ⟨p0, p1, p2, p3, p4, p5⟩ := HC3
      have j1 := (hbel2.cell (p := ⟨b1, o1 + s, none⟩) (lt_of_cell k1)).trans k1
      have j2 := (hbel2.cell (p := ⟨b2, o2 + s, none⟩) (lt_of_cell k2)).trans k2
      clear hq2 hall2 hbel2 k1 k2
      by_cases hlt2 : k < 2
      case neg =>
        obtain rfl : k = 2 := by omega
        have hok : okS d s = true := by unfold okS; rw [Q1.out, Q2.out, Q3.out, F1.out, F2.out, F3.out, all_range_true HA2.out]; rfl
        have HOK := Lib.hid hok
        clear hok
        go_wp2_with fail
        go_roundg (d.acc.length - (s + 1))
        case measure => have := HQ.out; omega
        case rel => exact ⟨s + 1, by omega, rfl, by go_num, below_succ HA.out HOK.out, HB3.out, HC4.out⟩
      have l1k : k < d.call[s].length := by omega
      have l2k : k < d.ret[s].length := by omega
      obtain ⟨b4, o4, rfl, h4, h5⟩ := (G1.out.below elPush_good (HL2.out.trans (HB4.out.mono HL2.out.size))).at_ l1k
      obtain ⟨b5, o5, rfl, X6, y6, h6, g6⟩ := (G2.out.below elInts_good (HL2.out.trans (HB4.out.mono HL2.out.size))).at_ l2k
      simp only [Nat.mul_one] at h6
      have G6 := Lib.hid g6
      clear g6
      have e1 : (d.call.getD s []).getD k ⟨0, 0⟩ = d.call[s][k] := by rw [Q1.out]; exact getD_at _ _ l1k
      have e2 : (d.ret.getD s []).getD k [] = d.ret[s][k] := by rw [Q2.out]; exact getD_at _ _ l2k
      have E1 := Lib.hid e1
      have E2 := Lib.hid e2
      clear e1 e2
      have hst1 : IntKind.i64.wrap (d.stack + 1) = d.stack + 1 := by rw [IntKind.wrap_i64]; omega
      have ek0 : (0 : Int) ≤ k := by omega
      have ek2 : (k : Int) < d.call[s].length := by omega
      have ek3 : (k : Int) < d.ret[s].length := by omega
      have es0 : (0 : Int) ≤ s := by omega
      have es1 : (s : Int) < d.call.length := by omega
      have es2 : (s : Int) < d.ret.length := by omega
      have lt2 : b2 < wr.heap.size := lt_of_cell j2
      have lt5 : b5 < wr.heap.size := lt_of_cell h6
      have ltb : w.heap.size < wr.heap.size := lt_of_cell p0
      generalize hpp : d.call[s][k] = pp at *
      generalize hrr : d.ret[s][k] = rr at *
      have PP := Lib.hid hpp
      have RR := Lib.hid hrr
      clear hpp hrr
      cases z1 : inB 0 ((d.acc.length : Int) - 1) pp.to
      case false =>
        have hf : okK d s k = false := by unfold okK; rw [E1.out, z1]; simp
        have hf2 : okS d s = false := by unfold okS; rw [all_range_false hlt2 hf, Bool.and_false]
        have HF := Lib.hid hf2
        clear hf hf2
        go_wp2_with fail
        obtain ⟨CC, gb, g0, gn, gc⟩ : ∃ CC : World → Prop, (∀ w1, CC w1 → Below (wr.alloc (.cells #[.int .i64 pp.to, .int .i64 pp.put] 106)).heap.size (wr.alloc (.cells #[.int .i64 pp.to, .int .i64 pp.put] 106)) w1) ∧ CC (wr.alloc (.cells #[.int .i64 pp.to, .int .i64 pp.put] 106)).drew ∧ (∀ w1 w2, CC w1 → Below w1.heap.size w1 w2 → CC w2) ∧ (∀ w1, CC w1 → ∀ b o, b < wr.heap.size + 1 → w1.cell? ⟨b, o, none⟩ = (wr.alloc (.cells #[.int .i64 pp.to, .int .i64 pp.put] 106)).cell? ⟨b, o, none⟩) :=
          ⟨fun w' => Below (wr.alloc (.cells #[.int .i64 pp.to, .int .i64 pp.put] 106)).heap.size (wr.alloc (.cells #[.int .i64 pp.to, .int .i64 pp.put] 106)) w', fun w1 h => h, ⟨rfl, rfl, rfl, Nat.le_refl _, fun _ _ => rfl⟩, fun w1 w2 h1 h2 => h1.trans (h2.mono h1.size), fun w1 h1 b o hb => h1.cell (p := ⟨b, o, none⟩) (by simpa using hb)⟩
        have xq : ∀ w1, CC w1 → ChkBox w1 w.heap.size d.stack d.start A0 d.acc.length c0 (some ⟨b1, o1, none⟩) d.call.length c1 (some ⟨b2, o2, none⟩) d.ret.length c2 (some ⟨b3, o3, none⟩) d.inn.length c3 ∧ w1.cell? ⟨wr.heap.size, 0, none⟩ = some (.int .i64 pp.to) ∧ w1.cell? ⟨wr.heap.size, 1, none⟩ = some (.int .i64 pp.put) ∧ w1.cell? ⟨b2, o2 + s, none⟩ = some (.slice (some ⟨b5, o5, none⟩) d.ret[s].length y2) ∧ w1.cell? ⟨b5, o5 + k, none⟩ = some (.slice X6 rr.length y6) := by
          intro w1 h
          refine ⟨⟨?_, ?_, ?_, ?_, ?_, ?_⟩, ?_, ?_, ?_, ?_⟩ <;> (rw [gc w1 h _ _ (by omega)]; first | (rw [cell_old (by omega)]; assumption) | (rw [cell_new]; rfl))
        have HG := Lib.hid gc
        clear gc
        refine q_region CC (by kernel_rfl) (by kernel_rfl) g0 ?_
        have hne : ∃ x, CC x := ⟨_, g0⟩
        repeat (with_reducible refine wpQuiet_step (fun K hK => ?_); go_simp; first | (refine hK _ ?_; clear hK K) | (apply Exists.intro; refine ⟨fun wq hwq => ?_, hK _ ?_⟩; (have yq := xq wq hwq; have yb := Lib.hid yq.1; unfold ChkBox at yq; (try go_simp); first | with_reducible exact Eq.refl _ | (go_at_call 145; refine (isState_c _ _ _ _ _ _ _ _ _ _ _ _ _ _ _ _ (by omega)).mono ?_; rintro e w1 ⟨rfl, hb⟩; exact ⟨rfl, gn _ _ hwq hb⟩) | (go_at_call 152; refine (isMark_c _ _ _ _ _ _ _ _ _ _ _ _ _ _ _ _ (by omega) (by omega)).mono ?_; rintro e w1 ⟨rfl, hb⟩; exact ⟨rfl, gn _ _ hwq hb⟩) | (go_at_call 149; refine (areStates_c D _ _ _ _ _ _ _ _ _ _ _ _ _ _ _ _ _ _ _ _ (by omega) yb.out (G6.out.below ints_good ((bel1 wr _).trans ((gb _ hwq).mono (by simp))))).mono ?_; rintro e w1 ⟨rfl, hb⟩; exact ⟨rfl, gn _ _ hwq hb⟩)); clear hK K))
        refine wpQuiet_nil ?_
        intro wn hwn
        have HBn : Hid (Below wr.heap.size wr wn) := Lib.hid ((bel1 wr _).trans ((gb _ hwn).mono (by simp)))
        clear xq g0 gn gb hne
        go_wp2_with fail
        go_ret
        exact ⟨ret_b (by rw [okChk, all_range_false hlt HF.out, Bool.and_false]), HB3.out.trans (HBn.out.mono HB3.out.size)⟩
      cases z2 : inB 0 (d.stack - 1) pp.put
      case false =>
        have hf : okK d s k = false := by unfold okK; rw [E1.out, z2]; simp
        have hf2 : okS d s = false := by unfold okS; rw [all_range_false hlt2 hf, Bool.and_false]
        have HF := Lib.hid hf2
        clear hf hf2
        go_wp2_with fail
        obtain ⟨CC, gb, g0, gn, gc⟩ : ∃ CC : World → Prop, (∀ w1, CC w1 → Below (wr.alloc (.cells #[.int .i64 pp.to, .int .i64 pp.put] 106)).heap.size (wr.alloc (.cells #[.int .i64 pp.to, .int .i64 pp.put] 106)) w1) ∧ CC (wr.alloc (.cells #[.int .i64 pp.to, .int .i64 pp.put] 106)).drew ∧ (∀ w1 w2, CC w1 → Below w1.heap.size w1 w2 → CC w2) ∧ (∀ w1, CC w1 → ∀ b o, b < wr.heap.size + 1 → w1.cell? ⟨b, o, none⟩ = (wr.alloc (.cells #[.int .i64 pp.to, .int .i64 pp.put] 106)).cell? ⟨b, o, none⟩) :=
          ⟨fun w' => Below (wr.alloc (.cells #[.int .i64 pp.to, .int .i64 pp.put] 106)).heap.size (wr.alloc (.cells #[.int .i64 pp.to, .int .i64 pp.put] 106)) w', fun w1 h => h, ⟨rfl, rfl, rfl, Nat.le_refl _, fun _ _ => rfl⟩, fun w1 w2 h1 h2 => h1.trans (h2.mono h1.size), fun w1 h1 b o hb => h1.cell (p := ⟨b, o, none⟩) (by simpa using hb)⟩
        have xq : ∀ w1, CC w1 → ChkBox w1 w.heap.size d.stack d.start A0 d.acc.length c0 (some ⟨b1, o1, none⟩) d.call.length c1 (some ⟨b2, o2, none⟩) d.ret.length c2 (some ⟨b3, o3, none⟩) d.inn.length c3 ∧ w1.cell? ⟨wr.heap.size, 0, none⟩ = some (.int .i64 pp.to) ∧ w1.cell? ⟨wr.heap.size, 1, none⟩ = some (.int .i64 pp.put) ∧ w1.cell? ⟨b2, o2 + s, none⟩ = some (.slice (some ⟨b5, o5, none⟩) d.ret[s].length y2) ∧ w1.cell? ⟨b5, o5 + k, none⟩ = some (.slice X6 rr.length y6) := by
          intro w1 h
          refine ⟨⟨?_, ?_, ?_, ?_, ?_, ?_⟩, ?_, ?_, ?_, ?_⟩ <;> (rw [gc w1 h _ _ (by omega)]; first | (rw [cell_old (by omega)]; assumption) | (rw [cell_new]; rfl))
        have HG := Lib.hid gc
        clear gc
        refine q_region CC (by kernel_rfl) (by kernel_rfl) g0 ?_
        have hne : ∃ x, CC x := ⟨_, g0⟩
        repeat (with_reducible refine wpQuiet_step (fun K hK => ?_); go_simp; first | (refine hK _ ?_; clear hK K) | (apply Exists.intro; refine ⟨fun wq hwq => ?_, hK _ ?_⟩; (have yq := xq wq hwq; have yb := Lib.hid yq.1; unfold ChkBox at yq; (try go_simp); first | with_reducible exact Eq.refl _ | (go_at_call 145; refine (isState_c _ _ _ _ _ _ _ _ _ _ _ _ _ _ _ _ (by omega)).mono ?_; rintro e w1 ⟨rfl, hb⟩; exact ⟨rfl, gn _ _ hwq hb⟩) | (go_at_call 152; refine (isMark_c _ _ _ _ _ _ _ _ _ _ _ _ _ _ _ _ (by omega) (by omega)).mono ?_; rintro e w1 ⟨rfl, hb⟩; exact ⟨rfl, gn _ _ hwq hb⟩) | (go_at_call 149; refine (areStates_c D _ _ _ _ _ _ _ _ _ _ _ _ _ _ _ _ _ _ _ _ (by omega) yb.out (G6.out.below ints_good ((bel1 wr _).trans ((gb _ hwq).mono (by simp))))).mono ?_; rintro e w1 ⟨rfl, hb⟩; exact ⟨rfl, gn _ _ hwq hb⟩)); clear hK K))
        refine wpQuiet_nil ?_
        intro wn hwn
        have HBn : Hid (Below wr.heap.size wr wn) := Lib.hid ((bel1 wr _).trans ((gb _ hwn).mono (by simp)))
        clear xq g0 gn gb hne
        go_wp2_with fail
        go_ret
        exact ⟨ret_b (by rw [okChk, all_range_false hlt HF.out, Bool.and_false]), HB3.out.trans (HBn.out.mono HB3.out.size)⟩
      cases z3 : okList rr (d.stack + 1) d.acc.length
      case false =>
        have hf : okK d s k = false := by unfold okK; rw [E2.out, z3]; simp
        have hf2 : okS d s = false := by unfold okS; rw [all_range_false hlt2 hf, Bool.and_false]
        have HF := Lib.hid hf2
        clear hf hf2
        go_wp2_with fail
        obtain ⟨CC, gb, g0, gn, gc⟩ : ∃ CC : World → Prop, (∀ w1, CC w1 → Below (wr.alloc (.cells #[.int .i64 pp.to, .int .i64 pp.put] 106)).heap.size (wr.alloc (.cells #[.int .i64 pp.to, .int .i64 pp.put] 106)) w1) ∧ CC (wr.alloc (.cells #[.int .i64 pp.to, .int .i64 pp.put] 106)).drew ∧ (∀ w1 w2, CC w1 → Below w1.heap.size w1 w2 → CC w2) ∧ (∀ w1, CC w1 → ∀ b o, b < wr.heap.size + 1 → w1.cell? ⟨b, o, none⟩ = (wr.alloc (.cells #[.int .i64 pp.to, .int .i64 pp.put] 106)).cell? ⟨b, o, none⟩) :=
          ⟨fun w' => Below (wr.alloc (.cells #[.int .i64 pp.to, .int .i64 pp.put] 106)).heap.size (wr.alloc (.cells #[.int .i64 pp.to, .int .i64 pp.put] 106)) w', fun w1 h => h, ⟨rfl, rfl, rfl, Nat.le_refl _, fun _ _ => rfl⟩, fun w1 w2 h1 h2 => h1.trans (h2.mono h1.size), fun w1 h1 b o hb => h1.cell (p := ⟨b, o, none⟩) (by simpa using hb)⟩
        have xq : ∀ w1, CC w1 → ChkBox w1 w.heap.size d.stack d.start A0 d.acc.length c0 (some ⟨b1, o1, none⟩) d.call.length c1 (some ⟨b2, o2, none⟩) d.ret.length c2 (some ⟨b3, o3, none⟩) d.inn.length c3 ∧ w1.cell? ⟨wr.heap.size, 0, none⟩ = some (.int .i64 pp.to) ∧ w1.cell? ⟨wr.heap.size, 1, none⟩ = some (.int .i64 pp.put) ∧ w1.cell? ⟨b2, o2 + s, none⟩ = some (.slice (some ⟨b5, o5, none⟩) d.ret[s].length y2) ∧ w1.cell? ⟨b5, o5 + k, none⟩ = some (.slice X6 rr.length y6) := by
          intro w1 h
          refine ⟨⟨?_, ?_, ?_, ?_, ?_, ?_⟩, ?_, ?_, ?_, ?_⟩ <;> (rw [gc w1 h _ _ (by omega)]; first | (rw [cell_old (by omega)]; assumption) | (rw [cell_new]; rfl))
        have HG := Lib.hid gc
        clear gc
        refine q_region CC (by kernel_rfl) (by kernel_rfl) g0 ?_
        have hne : ∃ x, CC x := ⟨_, g0⟩
        repeat (with_reducible refine wpQuiet_step (fun K hK => ?_); go_simp; first | (refine hK _ ?_; clear hK K) | (apply Exists.intro; refine ⟨fun wq hwq => ?_, hK _ ?_⟩; (have yq := xq wq hwq; have yb := Lib.hid yq.1; unfold ChkBox at yq; (try go_simp); first | with_reducible exact Eq.refl _ | (go_at_call 145; refine (isState_c _ _ _ _ _ _ _ _ _ _ _ _ _ _ _ _ (by omega)).mono ?_; rintro e w1 ⟨rfl, hb⟩; exact ⟨rfl, gn _ _ hwq hb⟩) | (go_at_call 152; refine (isMark_c _ _ _ _ _ _ _ _ _ _ _ _ _ _ _ _ (by omega) (by omega)).mono ?_; rintro e w1 ⟨rfl, hb⟩; exact ⟨rfl, gn _ _ hwq hb⟩) | (go_at_call 149; refine (areStates_c D _ _ _ _ _ _ _ _ _ _ _ _ _ _ _ _ _ _ _ _ (by omega) yb.out (G6.out.below ints_good ((bel1 wr _).trans ((gb _ hwq).mono (by simp))))).mono ?_; rintro e w1 ⟨rfl, hb⟩; exact ⟨rfl, gn _ _ hwq hb⟩)); clear hK K))
        refine wpQuiet_nil ?_
        intro wn hwn
        have HBn : Hid (Below wr.heap.size wr wn) := Lib.hid ((bel1 wr _).trans ((gb _ hwn).mono (by simp)))
        clear xq g0 gn gb hne
        go_wp2_with fail
        go_ret
        exact ⟨ret_b (by rw [okChk, all_range_false hlt HF.out, Bool.and_false]), HB3.out.trans (HBn.out.mono HB3.out.size)⟩
      have hok : okK d s k = true := by unfold okK; rw [E1.out, E2.out, z1, z2, z3]; rfl
      have HOK := Lib.hid hok
      clear hok
      go_wp2_with fail
      obtain ⟨CC, gb, g0, gn, gc⟩ : ∃ CC : World → Prop, (∀ w1, CC w1 → Below (wr.alloc (.cells #[.int .i64 pp.to, .int .i64 pp.put] 106)).heap.size (wr.alloc (.cells #[.int .i64 pp.to, .int .i64 pp.put] 106)) w1) ∧ CC (wr.alloc (.cells #[.int .i64 pp.to, .int .i64 pp.put] 106)).drew ∧ (∀ w1 w2, CC w1 → Below w1.heap.size w1 w2 → CC w2) ∧ (∀ w1, CC w1 → ∀ b o, b < wr.heap.size + 1 → w1.cell? ⟨b, o, none⟩ = (wr.alloc (.cells #[.int .i64 pp.to, .int .i64 pp.put] 106)).cell? ⟨b, o, none⟩) :=
        ⟨fun w' => Below (wr.alloc (.cells #[.int .i64 pp.to, .int .i64 pp.put] 106)).heap.size (wr.alloc (.cells #[.int .i64 pp.to, .int .i64 pp.put] 106)) w', fun w1 h => h, ⟨rfl, rfl, rfl, Nat.le_refl _, fun _ _ => rfl⟩, fun w1 w2 h1 h2 => h1.trans (h2.mono h1.size), fun w1 h1 b o hb => h1.cell (p := ⟨b, o, none⟩) (by simpa using hb)⟩
      have xq : ∀ w1, CC w1 → ChkBox w1 w.heap.size d.stack d.start A0 d.acc.length c0 (some ⟨b1, o1, none⟩) d.call.length c1 (some ⟨b2, o2, none⟩) d.ret.length c2 (some ⟨b3, o3, none⟩) d.inn.length c3 ∧ w1.cell? ⟨wr.heap.size, 0, none⟩ = some (.int .i64 pp.to) ∧ w1.cell? ⟨wr.heap.size, 1, none⟩ = some (.int .i64 pp.put) ∧ w1.cell? ⟨b2, o2 + s, none⟩ = some (.slice (some ⟨b5, o5, none⟩) d.ret[s].length y2) ∧ w1.cell? ⟨b5, o5 + k, none⟩ = some (.slice X6 rr.length y6) := by
        intro w1 h
        refine ⟨⟨?_, ?_, ?_, ?_, ?_, ?_⟩, ?_, ?_, ?_, ?_⟩ <;> (rw [gc w1 h _ _ (by omega)]; first | (rw [cell_old (by omega)]; assumption) | (rw [cell_new]; rfl))
      have HG := Lib.hid gc
      clear gc
      refine q_region CC (by kernel_rfl) (by kernel_rfl) g0 ?_
      have hne : ∃ x, CC x := ⟨_, g0⟩
      repeat (with_reducible refine wpQuiet_step (fun K hK => ?_); go_simp; first | (refine hK _ ?_; clear hK K) | (apply Exists.intro; refine ⟨fun wq hwq => ?_, hK _ ?_⟩; (have yq := xq wq hwq; have yb := Lib.hid yq.1; unfold ChkBox at yq; (try go_simp); first | with_reducible exact Eq.refl _ | (go_at_call 145; refine (isState_c _ _ _ _ _ _ _ _ _ _ _ _ _ _ _ _ (by omega)).mono ?_; rintro e w1 ⟨rfl, hb⟩; exact ⟨rfl, gn _ _ hwq hb⟩) | (go_at_call 152; refine (isMark_c _ _ _ _ _ _ _ _ _ _ _ _ _ _ _ _ (by omega) (by omega)).mono ?_; rintro e w1 ⟨rfl, hb⟩; exact ⟨rfl, gn _ _ hwq hb⟩) | (go_at_call 149; refine (areStates_c D _ _ _ _ _ _ _ _ _ _ _ _ _ _ _ _ _ _ _ _ (by omega) yb.out (G6.out.below ints_good ((bel1 wr _).trans ((gb _ hwq).mono (by simp))))).mono ?_; rintro e w1 ⟨rfl, hb⟩; exact ⟨rfl, gn _ _ hwq hb⟩)); clear hK K))
      refine wpQuiet_nil ?_
      intro wn hwn
      have HBn : Hid (Below wr.heap.size wr wn) := Lib.hid ((bel1 wr _).trans ((gb _ hwn).mono (by simp)))
      clear xq g0 gn gb hne
      go_wp2_with fail
      go_roundg (2 - (k + 1))
      case measure => have := HQ2.out; omega
      case rel => exact ⟨k + 1, by omega, rfl, by go_num, below_succ HA2.out HOK.out, HB4.out.trans (HBn.out.mono HB4.out.size)⟩
end Go.Proofs.YtcagdmaiemmfgaaGreat
