/- One step of a checker, in the program: it comes to where the plain step comes; for all valid checkers. -/
import Derived.Test.YtcagdmaiemmfgaaGreatIe
namespace Go.Proofs.YtcagdmaiemmfgaaGreat
open Go.RowKit

theorem kind_of {b : UInt8} {z : Nat} (hz : z < 2) (h : symI b = z ∨ symI b = (z : Int) + 2 ∨ symI b = (z : Int) + 4) : 0 ≤ symI b ∧ symI b ≤ 5 ∧ symI b % 2 = z := by omega
set_option maxHeartbeats 400000 in
theorem kindOf_c (b : UInt8) (z : Nat) (w : World) (hz : z < 2) (h : symI b = z ∨ symI b = (z : Int) + 2 ∨ symI b = (z : Int) + 4) : Calls Tryz.prog 220 #[.int .u8 (b.toNat : Int)] w fun e w' => e = .returned (.int .i64 z) ∧ w = w' := by
  obtain ⟨h0, h5, h2⟩ := kind_of hz h
  have H2 := Lib.hid h2
  clear h h2 hz
  go_enter Tryz.func220, Tryz.ntmps220
  go_wp2_with (go_at_call 217; refine (indexSym_c b _).mono ?_; rintro e w' ⟨rfl, rfl⟩)
  go_ret
  exact ⟨ret_i (by have := H2.out; omega), rfl⟩
theorem byte_ne {b c : UInt8} (h : b ≠ c) : ((b.toNat : Int) == (c.toNat : Int)) = false := by
  rw [beq_eq_false_iff_ne]
  intro e
  exact h (UInt8.toNat_inj.1 (by omega))
theorem sym_call {b : UInt8} : symI b = 0 ∨ symI b = 1 ↔ b = 40 ∨ b = 91 := by
  unfold symI
  constructor
  · intro h
    by_cases h0 : b = 40
    · exact .inl h0
    by_cases h1 : b = 91
    · exact .inr h1
    rw [if_neg h0, if_neg h1] at h
    exfalso
    revert h
    repeat' split
    all_goals omega
  · rintro (rfl | rfl) <;> decide
theorem sym_inner {b : UInt8} : symI b = 4 ∨ symI b = 5 ↔ b = 97 ∨ b = 98 := by
  constructor
  · intro h
    by_cases h4 : b = 97
    · exact .inl h4
    by_cases h5 : b = 98
    · exact .inr h5
    exfalso
    unfold symI at h
    rw [if_neg h4, if_neg h5] at h
    revert h
    repeat' split
    all_goals omega
  · rintro (rfl | rfl) <;> decide
def isCallB (b : UInt8) : Bool := decide (symI b = 0) || decide (symI b = 1)
def isInnerB (b : UInt8) : Bool := decide (symI b = 4) || decide (symI b = 5)
set_option maxHeartbeats 400000 in
theorem isCall_c (b : UInt8) (w : World) : Calls Tryz.prog 219 #[.int .u8 (b.toNat : Int)] w fun e w' => e = .returned (.bool (isCallB b)) ∧ w = w' := by
  by_cases h : b = 40 ∨ b = 91
  · have hb : isCallB b = true := by
      unfold isCallB
      rw [Bool.or_eq_true, decide_eq_true_eq, decide_eq_true_eq]
      exact sym_call.2 h
    have HB := Lib.hid hb
    clear hb
    rcases h with rfl | rfl
    all_goals
      go_enter Tryz.func219, Tryz.ntmps219
      go_wp2
      go_ret
      exact ⟨ret_b HB.out.symm, rfl⟩
  · have hb : isCallB b = false := by
      cases hc : isCallB b
      · rfl
      · unfold isCallB at hc
        rw [Bool.or_eq_true, decide_eq_true_eq, decide_eq_true_eq] at hc
        exact absurd (sym_call.1 hc) h
    have HB := Lib.hid hb
    clear hb
    have h1 : ((b.toNat : Int) == 40) = false := byte_ne (c := 40) fun e => h (.inl e)
    have h2 : ((b.toNat : Int) == 91) = false := byte_ne (c := 91) fun e => h (.inr e)
    clear h
    go_enter Tryz.func219, Tryz.ntmps219
    go_wp2
    go_ret
    exact ⟨ret_b HB.out.symm, rfl⟩
set_option maxHeartbeats 400000 in
theorem isInner_c (b : UInt8) (w : World) : Calls Tryz.prog 221 #[.int .u8 (b.toNat : Int)] w fun e w' => e = .returned (.bool (isInnerB b)) ∧ w = w' := by
  by_cases h : b = 97 ∨ b = 98
  · have hb : isInnerB b = true := by
      unfold isInnerB
      rw [Bool.or_eq_true, decide_eq_true_eq, decide_eq_true_eq]
      exact sym_inner.2 h
    have HB := Lib.hid hb
    clear hb
    rcases h with rfl | rfl
    all_goals
      go_enter Tryz.func221, Tryz.ntmps221
      go_wp2
      go_ret
      exact ⟨ret_b HB.out.symm, rfl⟩
  · have hb : isInnerB b = false := by
      cases hc : isInnerB b
      · rfl
      · unfold isInnerB at hc
        rw [Bool.or_eq_true, decide_eq_true_eq, decide_eq_true_eq] at hc
        exact absurd (sym_inner.1 hc) h
    have HB := Lib.hid hb
    clear hb
    have h1 : ((b.toNat : Int) == 97) = false := byte_ne (c := 97) fun e => h (.inl e)
    have h2 : ((b.toNat : Int) == 98) = false := byte_ne (c := 98) fun e => h (.inr e)
    clear h
    go_enter Tryz.func221, Tryz.ntmps221
    go_wp2
    go_ret
    exact ⟨ret_b HB.out.symm, rfl⟩
set_option maxHeartbeats 4000000 in
set_option maxRecDepth 100000 in
theorem step_in (D : Dom) (A0 : Option Addr) (c0 : Nat) (A1 : Option Addr) (c1 : Nat) (A2 : Option Addr) (c2 : Nat) (A3 : Option Addr) (c3 : Nat) (d : Chk) (s : Nat) (A : Option Addr) (c : Nat) (st : List Int) (b : UInt8) (z : Nat) (w : World) (hs0 : ChkAt D w A0 c0 A1 c1 A2 c2 A3 c3 d) (hst : Sl 1 (elInt .i64) D w A c st) (hm : Marks d st) (hn : st.length ≤ 1048576) (hd : Dim d) (hs : s < d.acc.length) (hz : z < 2) (hb : symI b = (z : Int) + 4) :
    Calls Tryz.prog 197 #[.agg #[.int .i64 d.stack, .int .i64 d.start, .slice A0 d.acc.length c0, .slice A1 d.call.length c1, .slice A2 d.ret.length c2, .slice A3 d.inn.length c3], .int .i64 s, .slice A st.length c, .int .u8 (b.toNat : Int)] w (RetStep D w (stepC d s st b)) := by
  obtain ⟨p, hpp⟩ : ∃ p, p = stepC d s st b := ⟨_, rfl⟩
  rw [← hpp]
  obtain ⟨W, hWe⟩ : ∃ W, W = w.alloc (.cells #[.int .i64 d.stack, .int .i64 d.start, .slice A0 d.acc.length c0, .slice A1 d.call.length c1, .slice A2 d.ret.length c2, .slice A3 d.inn.length c3] 37) := ⟨_, rfl⟩
  obtain ⟨bx, hbx⟩ : ∃ bx, bx = w.heap.size := ⟨_, rfl⟩
  have HBW : Hid (Below w.heap.size w W) := Lib.hid (hWe ▸ bel1 w _)
  have E0 : W.cell? ⟨bx, 0, none⟩ = some (.int .i64 d.stack) := by rw [hWe, hbx, cell_new]; rfl
  have E3 : W.cell? ⟨bx, 3, none⟩ = some (.slice A1 d.call.length c1) := by rw [hWe, hbx, cell_new]; rfl
  have E4 : W.cell? ⟨bx, 4, none⟩ = some (.slice A2 d.ret.length c2) := by rw [hWe, hbx, cell_new]; rfl
  have E5 : W.cell? ⟨bx, 5, none⟩ = some (.slice A3 d.inn.length c3) := by rw [hWe, hbx, cell_new]; rfl
  have hs0 := hs0.below HBW.out
  have HST := Lib.hid (hst.below ints_good HBW.out)
  have HWe := Lib.hid hWe
  have HBX := Lib.hid hbx
  clear hWe hbx hst
  have HK : Hid (symI b = z ∨ symI b = (z : Int) + 2 ∨ symI b = (z : Int) + 4) := Lib.hid (.inr (.inr hb))
  have HC : Hid (isCallB b = false) := Lib.hid (by unfold isCallB; rw [hb]; simp; omega)
  have HI : Hid (isInnerB b = true) := Lib.hid (by unfold isInnerB; rw [hb]; simp; omega)
  rw [stepC_in hb] at hpp
  have l3 := hs0.inn.le
  have v1 : d.inn.length ≤ d.acc.length := by rw [hd.inn]; exact Nat.le_refl _
  have v2 : d.acc.length ≤ d.inn.length := by rw [hd.inn]; exact Nat.le_refl _
  have v3 : s < d.inn.length := by omega
  obtain ⟨b3, o3, rfl, X3, y3, h3, g3⟩ := hs0.inn.at_ (i := s) v3
  have e2 := hd.innS s hs
  rw [getD_at _ _ v3] at e2
  have e4 := getD_at d.inn [] v3
  generalize d.inn[s] = rr at *
  obtain ⟨b4, o4, rfl, h4⟩ := g3.at_ (i := z) (by omega)
  rw [e4, getD_at rr _ (show z < rr.length by omega)] at hpp
  have u1 : rr.length ≤ 2 := by omega
  have u2 : 2 ≤ rr.length := by omega
  generalize rr[z]'(by omega) = xx at *
  have i0 : (0 : Int) ≤ s := by omega
  have i1 : (s : Int) < d.inn.length := by omega
  have i2 : (0 : Int) ≤ z := by omega
  have i3 : (z : Int) < rr.length := by omega
  have HP := Lib.hid hpp
  have HSR := Lib.hid (HST.out.mono ints_good (D' := fun b => D b ∨ w.heap.size ≤ b) fun _ h _ => .inl h)
  simp only [Nat.mul_one] at h3
  simp only [elInt, Nat.mul_one] at h4
  clear hpp e4 hb e2 hs0 g3 hd hm E0 E3 E4
  go_enter Tryz.func197, Tryz.ntmps197
  go_wp2_with (first | (go_at_call 220; rw [← HWe.out, ← HBX.out]; refine (kindOf_c b z _ hz HK.out).mono ?_; rintro e w' ⟨rfl, rfl⟩) | (go_at_call 219; refine (isCall_c b _).mono ?_; rintro e w' ⟨rfl, rfl⟩; rw [HC.out]) | (go_at_call 221; refine (isInner_c b _).mono ?_; rintro e w' ⟨rfl, rfl⟩; rw [HI.out]))
  go_ret2
  have hq := HP.out
  subst hq
  exact ⟨A, c, rfl, HSR.out, HBW.out⟩
set_option maxHeartbeats 4000000 in
set_option maxRecDepth 100000 in
theorem step_ret (D : Dom) (A0 : Option Addr) (c0 : Nat) (A1 : Option Addr) (c1 : Nat) (A2 : Option Addr) (c2 : Nat) (A3 : Option Addr) (c3 : Nat) (d : Chk) (s : Nat) (A : Option Addr) (c : Nat) (st : List Int) (b : UInt8) (z : Nat) (w : World) (hs0 : ChkAt D w A0 c0 A1 c1 A2 c2 A3 c3 d) (hst : Sl 1 (elInt .i64) D w A c st) (hm : Marks d st) (hn : st.length ≤ 1048576) (hd : Dim d) (hs : s < d.acc.length) (hz : z < 2) (hb : symI b = (z : Int) + 2) :
    Calls Tryz.prog 197 #[.agg #[.int .i64 d.stack, .int .i64 d.start, .slice A0 d.acc.length c0, .slice A1 d.call.length c1, .slice A2 d.ret.length c2, .slice A3 d.inn.length c3], .int .i64 s, .slice A st.length c, .int .u8 (b.toNat : Int)] w (RetStep D w (stepC d s st b)) := by
  obtain ⟨p, hpp⟩ : ∃ p, p = stepC d s st b := ⟨_, rfl⟩
  rw [← hpp]
  obtain ⟨W, hWe⟩ : ∃ W, W = w.alloc (.cells #[.int .i64 d.stack, .int .i64 d.start, .slice A0 d.acc.length c0, .slice A1 d.call.length c1, .slice A2 d.ret.length c2, .slice A3 d.inn.length c3] 37) := ⟨_, rfl⟩
  obtain ⟨bx, hbx⟩ : ∃ bx, bx = w.heap.size := ⟨_, rfl⟩
  have HBW : Hid (Below w.heap.size w W) := Lib.hid (hWe ▸ bel1 w _)
  have E0 : W.cell? ⟨bx, 0, none⟩ = some (.int .i64 d.stack) := by rw [hWe, hbx, cell_new]; rfl
  have E3 : W.cell? ⟨bx, 3, none⟩ = some (.slice A1 d.call.length c1) := by rw [hWe, hbx, cell_new]; rfl
  have E4 : W.cell? ⟨bx, 4, none⟩ = some (.slice A2 d.ret.length c2) := by rw [hWe, hbx, cell_new]; rfl
  have E5 : W.cell? ⟨bx, 5, none⟩ = some (.slice A3 d.inn.length c3) := by rw [hWe, hbx, cell_new]; rfl
  have hs0 := hs0.below HBW.out
  have HST := Lib.hid (hst.below ints_good HBW.out)
  have HWe := Lib.hid hWe
  have HBX := Lib.hid hbx
  clear hWe hbx hst
  have HK : Hid (symI b = z ∨ symI b = (z : Int) + 2 ∨ symI b = (z : Int) + 4) := Lib.hid (.inr (.inl hb))
  have HC : Hid (isCallB b = false) := Lib.hid (by unfold isCallB; rw [hb]; simp; omega)
  have HI : Hid (isInnerB b = false) := Lib.hid (by unfold isInnerB; rw [hb]; simp; omega)
  have l3 := hs0.ret.le
  have v1 : d.ret.length ≤ d.acc.length := by rw [hd.ret]; exact Nat.le_refl _
  have v2 : d.acc.length ≤ d.ret.length := by rw [hd.ret]; exact Nat.le_refl _
  have v3 : s < d.ret.length := by omega
  obtain ⟨b3, o3, rfl, X3, y3, h3, g3⟩ := hs0.ret.at_ (i := s) v3
  have e2 := hd.retS s hs
  have e5 := hd.retK s z hs hz
  have m1 := hd.m1
  have m2 := hd.m2
  rw [getD_at _ _ v3] at e2 e5
  have e4 := getD_at d.ret [] v3
  generalize d.ret[s] = rr at *
  have e6 := getD_at rr [] (show z < rr.length by omega)
  obtain ⟨b4, o4, rfl, X4, y4, h4, g4⟩ := g3.at_ (i := z) (by omega)
  rw [e6] at e5
  have u1 : rr.length ≤ 2 := by omega
  have u2 : 2 ≤ rr.length := by omega
  generalize rr[z]'(by omega) = xx at *
  have i0 : (0 : Int) ≤ s := by omega
  have i1 : (s : Int) < d.ret.length := by omega
  have i2 : (0 : Int) ≤ z := by omega
  have i3 : (z : Int) < rr.length := by omega
  simp only [Nat.mul_one] at h3 h4
  rcases Nat.eq_zero_or_pos st.length with hn0 | hn0
  · have hst0 : st = [] := List.eq_nil_of_length_eq_zero hn0
    subst hst0
    rw [stepC_ret0 hb hz, e4, e6, getD_at xx _ (show d.stack.toNat < xx.length by omega)] at hpp
    obtain ⟨b5, o5, rfl, h5⟩ := g4.at_ (i := d.stack.toNat) (by omega)
    generalize xx[d.stack.toNat]'(by omega) = yy at *
    have HP := Lib.hid hpp
    simp only [elInt, Nat.mul_one] at h5
    have k1 : (d.stack.toNat : Int) = d.stack := by omega
    have k2 : 0 ≤ d.stack := by omega
    have k3 : d.stack < xx.length := by omega
    have HSR := Lib.hid (HST.out.mono ints_good (D' := fun b => D b ∨ w.heap.size ≤ b) fun _ h _ => .inl h)
    clear hpp e4 hb e2 e5 e6 hs0 g3 g4 hd E3 E5 hm
    go_enter Tryz.func197, Tryz.ntmps197
    go_wp2_with (first | (go_at_call 220; rw [← HWe.out, ← HBX.out]; refine (kindOf_c b z _ hz HK.out).mono ?_; rintro e w' ⟨rfl, rfl⟩) | (go_at_call 219; refine (isCall_c b _).mono ?_; rintro e w' ⟨rfl, rfl⟩; rw [HC.out]) | (go_at_call 221; refine (isInner_c b _).mono ?_; rintro e w' ⟨rfl, rfl⟩; rw [HI.out]))
    go_ret2
    have hq := HP.out
    subst hq
    exact ⟨A, c, rfl, HSR.out, HBW.out⟩
  · rw [stepC_ret hb hz hn0, e4, e6] at hpp
    have hlt : st.length - 1 < st.length := by omega
    have m5 := hm _ (List.getElem_mem hlt)
    obtain ⟨b6, o6, rfl, h6⟩ := HST.out.at_ (i := st.length - 1) hlt
    have HTL : Hid ((st.take (st.length - 1)).length = st.length - 1) := Lib.hid (by simp)
    have HTK : Hid (Sl 1 (elInt .i64) D W (some ⟨b6, o6, none⟩) c (st.take (st.length - 1))) := Lib.hid (HST.out.take _)
    generalize st[st.length - 1]'hlt = mm at *
    obtain ⟨m0, m3⟩ := m5
    rw [getD_at xx _ (show mm.toNat < xx.length by omega)] at hpp
    obtain ⟨b5, o5, rfl, h5⟩ := g4.at_ (i := mm.toNat) (by omega)
    generalize xx[mm.toNat]'(by omega) = yy at *
    have HP := Lib.hid hpp
    simp only [elInt, Nat.mul_one] at h5 h6
    have k1 : (mm.toNat : Int) = mm := by omega
    have k3 : mm < xx.length := by omega
    have k4 : (0 : Int) < st.length := by omega
    have k10 := HST.out.1
    have k11 := HST.out.2.1
    have k12 : (st.length : Int) - 1 ≤ c := by omega
    have k13 : (1 : Int) ≤ st.length := by omega
    have k14 : 1 ≤ st.length := hn0
    have k5 : (0 : Int) ≤ (st.length : Int) - 1 := by omega
    have k6 : (st.length : Int) - 1 < st.length := by omega
    have k7 : ((st.length : Int) - 1).toNat = st.length - 1 := by omega
    have k8 : IntKind.i64.wrap ((st.length : Int) - 1) = (st.length : Int) - 1 := by rw [IntKind.wrap_i64]; omega
    clear hpp e4 hb e2 e5 e6 hs0 g3 g4 hd hm E3 E5
    go_enter Tryz.func197, Tryz.ntmps197
    go_wp2_with (first | (go_at_call 220; rw [← HWe.out, ← HBX.out]; refine (kindOf_c b z _ hz HK.out).mono ?_; rintro e w' ⟨rfl, rfl⟩) | (go_at_call 219; refine (isCall_c b _).mono ?_; rintro e w' ⟨rfl, rfl⟩; rw [HC.out]) | (go_at_call 221; refine (isInner_c b _).mono ?_; rintro e w' ⟨rfl, rfl⟩; rw [HI.out]))
    go_quiet (fail)
    go_wp2_with fail
    go_ret2
    have hq := HP.out
    subst hq
    exact ⟨some ⟨b6, o6, none⟩, c, by rw [HTL.out]; rfl, ((HTK.out.below ints_good (drewN_below W _)).mono ints_good fun _ h _ => .inl h), HBW.out.trans ((drewN_below W _).mono HBW.out.size)⟩
set_option maxHeartbeats 4000000 in
set_option maxRecDepth 100000 in
theorem step_call (D : Dom) (A0 : Option Addr) (c0 : Nat) (A1 : Option Addr) (c1 : Nat) (A2 : Option Addr) (c2 : Nat) (A3 : Option Addr) (c3 : Nat) (d : Chk) (s : Nat) (A : Option Addr) (c : Nat) (st : List Int) (b : UInt8) (z : Nat) (w : World) (hs0 : ChkAt D w A0 c0 A1 c1 A2 c2 A3 c3 d) (hst : Sl 1 (elInt .i64) D w A c st) (hm : Marks d st) (hn : st.length ≤ 1048576) (hd : Dim d) (hs : s < d.acc.length) (hz : z < 2) (hb : symI b = (z : Int)) :
    Calls Tryz.prog 197 #[.agg #[.int .i64 d.stack, .int .i64 d.start, .slice A0 d.acc.length c0, .slice A1 d.call.length c1, .slice A2 d.ret.length c2, .slice A3 d.inn.length c3], .int .i64 s, .slice A st.length c, .int .u8 (b.toNat : Int)] w (RetStep D w (stepC d s st b)) := by
  obtain ⟨p, hpp⟩ : ∃ p, p = stepC d s st b := ⟨_, rfl⟩
  rw [← hpp]
  obtain ⟨W, hWe⟩ : ∃ W, W = w.alloc (.cells #[.int .i64 d.stack, .int .i64 d.start, .slice A0 d.acc.length c0, .slice A1 d.call.length c1, .slice A2 d.ret.length c2, .slice A3 d.inn.length c3] 37) := ⟨_, rfl⟩
  obtain ⟨bx, hbx⟩ : ∃ bx, bx = w.heap.size := ⟨_, rfl⟩
  have HBW : Hid (Below w.heap.size w W) := Lib.hid (hWe ▸ bel1 w _)
  have E0 : W.cell? ⟨bx, 0, none⟩ = some (.int .i64 d.stack) := by rw [hWe, hbx, cell_new]; rfl
  have E3 : W.cell? ⟨bx, 3, none⟩ = some (.slice A1 d.call.length c1) := by rw [hWe, hbx, cell_new]; rfl
  have E4 : W.cell? ⟨bx, 4, none⟩ = some (.slice A2 d.ret.length c2) := by rw [hWe, hbx, cell_new]; rfl
  have E5 : W.cell? ⟨bx, 5, none⟩ = some (.slice A3 d.inn.length c3) := by rw [hWe, hbx, cell_new]; rfl
  have hs0 := hs0.below HBW.out
  have HST := Lib.hid (hst.below ints_good HBW.out)
  have HWe := Lib.hid hWe
  have HBX := Lib.hid hbx
  clear hWe hbx hst
  have HK : Hid (symI b = z ∨ symI b = (z : Int) + 2 ∨ symI b = (z : Int) + 4) := Lib.hid (.inl hb)
  have HC : Hid (isCallB b = true) := Lib.hid (by unfold isCallB; rw [hb]; simp; omega)
  rw [stepC_call hb hz] at hpp
  have l3 := hs0.call.le
  have v1 : d.call.length ≤ d.acc.length := by rw [hd.call]; exact Nat.le_refl _
  have v2 : d.acc.length ≤ d.call.length := by rw [hd.call]; exact Nat.le_refl _
  have v3 : s < d.call.length := by omega
  obtain ⟨b3, o3, rfl, X3, y3, h3, g3⟩ := hs0.call.at_ (i := s) v3
  have e2 := hd.callS s hs
  rw [getD_at _ _ v3] at e2
  have e4 := getD_at d.call [] v3
  generalize d.call[s] = rr at *
  obtain ⟨b4, o4, rfl, h4, h5⟩ := g3.at_ (i := z) (by omega)
  rw [e4, getD_at rr _ (show z < rr.length by omega)] at hpp
  have u1 : rr.length ≤ 2 := by omega
  have u2 : 2 ≤ rr.length := by omega
  generalize rr[z]'(by omega) = pp at *
  have i0 : (0 : Int) ≤ s := by omega
  have i1 : (s : Int) < d.call.length := by omega
  have i2 : (0 : Int) ≤ z := by omega
  have i3 : (z : Int) < rr.length := by omega
  have HP := Lib.hid hpp
  simp only [Nat.mul_one] at h3
  obtain ⟨W2, hW2⟩ : ∃ W2, W2 = W.alloc (.cells #[.int .i64 pp.to, .int .i64 pp.put] 106) := ⟨_, rfl⟩
  have HB2 : Hid (Below W.heap.size W W2) := Lib.hid (hW2 ▸ bel1 W _)
  have n0 : W2.cell? ⟨W.heap.size, 0, none⟩ = some (.int .i64 pp.to) := by rw [hW2, cell_new]; rfl
  have n1 : W2.cell? ⟨W.heap.size, 1, none⟩ = some (.int .i64 pp.put) := by rw [hW2, cell_new]; rfl
  have HW2 := Lib.hid hW2
  have HS2 := Lib.hid (HST.out.below ints_good HB2.out)
  clear hpp e4 hb e2 hs0 g3 hd hm E0 E4 E5 hW2
  have HSZ := Lib.hid HB2.out.size
  have hkW : ∀ w2, Below W2.heap.size W2 w2 → w2.cell? ⟨W.heap.size, 0, none⟩ = some (.int .i64 pp.to) ∧ w2.cell? ⟨W.heap.size, 1, none⟩ = some (.int .i64 pp.put) ∧ Below W2.heap.size W2 w2 := fun w2 h => ⟨((bcell h (Nat.le_refl _)).1 _ _ (lt_of_cell n0)).trans n0, ((bcell h (Nat.le_refl _)).1 _ _ (lt_of_cell n1)).trans n1, h⟩
  have hlit : (W2.alloc (.cells #[.int .i64 pp.put] 2)).drew.cell? ⟨W2.heap.size, 0, none⟩ = some (.int .i64 pp.put) := lit_new
  have hl1 : W2.heap.size < (W2.alloc (.cells #[.int .i64 pp.put] 2)).drew.heap.size := by simp
  go_enter Tryz.func197, Tryz.ntmps197
  go_wp2_with (first | (go_at_call 220; rw [← HWe.out, ← HBX.out]; refine (kindOf_c b z _ hz HK.out).mono ?_; rintro e w' ⟨rfl, rfl⟩) | (go_at_call 219; refine (isCall_c b _).mono ?_; rintro e w' ⟨rfl, rfl⟩; rw [HC.out]))
  rw [← HW2.out]
  go_region_held3 (fun w' => w'.cell? ⟨W.heap.size, 0, none⟩ = some (.int .i64 pp.to) ∧ w'.cell? ⟨W.heap.size, 1, none⟩ = some (.int .i64 pp.put) ∧ Below W2.heap.size W2 w')
    (first | exact hkW _ (bel_drew (Below.refl _ _)) | exact hkW _ HB4.out | (rename_i hS _ _; first | exact hkW _ (hS.2.2.trans (HB1.out.mono hS.2.2.size)) | exact hkW _ (hS.2.2.trans ((bel1 _ _).mono hS.2.2.size))))
    (first | (go_at_call 182; rename_i hS _ _; refine (clone_c D A c st _ (HS2.out.below ints_good hS.2.2) (by omega)).mono ?_; rintro e w1 ⟨v, rfl, ho, hb1⟩; have HO := Lib.hid (ho.weaken hS.2.2.size); have HB1 := Lib.hid hb1; clear ho hb1) |
      (rename_i hS _ _; refine step_app _ rfl (.tmp 30) (.tmp 33) 70 2 rfl Tryz.underlying70 info_i64 W2.heap.size v st rfl (by first | exact HO.out | exact HO.out.below (bel1 _ _)) (fun _ => True) _ 1 [pp.put] rfl (lit1 (by first | exact lit_new | exact (HB1.out.cell (p := ⟨W2.heap.size, 0, none⟩) hl1).trans hlit)) (by simp; omega) hS.2.2.size ?_; intro v2 w2 ho2 hg2 _; have HB4 : Hid (Below W2.heap.size W2 w2) := Lib.hid (by first | exact HO.out.below_of hS.2.2 hS.2.2.size hg2 | exact (HO.out.below (bel1 _ _)).below_of hS.2.2 hS.2.2.size hg2); obtain ⟨A4, c4, rfl, hs4⟩ := ho2.sl; have HS4 := Lib.hid hs4; clear ho2 hg2 hs4))
  all_goals
    go_wp2_with fail
    go_ret2
    have hq := HP.out
    subst hq
    exact ⟨A4, c4, by simp only [List.length_append, List.length_singleton]; rfl, HS4.out.mono ints_good fun k h _ => .inr (Nat.le_trans HBW.out.size (Nat.le_trans HB2.out.size h)), HBW.out.trans ((HB2.out.trans (HB4.out.mono HB2.out.size)).mono HBW.out.size)⟩
theorem step_c (D : Dom) (A0 : Option Addr) (c0 : Nat) (A1 : Option Addr) (c1 : Nat) (A2 : Option Addr) (c2 : Nat) (A3 : Option Addr) (c3 : Nat) (d : Chk) (p : Int × List Int) (n : Nat) (A : Option Addr) (c : Nat) (b : UInt8) (w : World) (hs0 : ChkAt D w A0 c0 A1 c1 A2 c2 A3 c3 d) (hst : Sl 1 (elInt .i64) D w A c p.2) (hd : Dim d) (ha : At d p n) (hn : n ≤ 1048576) (hb : 0 ≤ symI b) :
    Calls Tryz.prog 197 #[.agg #[.int .i64 d.stack, .int .i64 d.start, .slice A0 d.acc.length c0, .slice A1 d.call.length c1, .slice A2 d.ret.length c2, .slice A3 d.inn.length c3], .int .i64 p.1, .slice A p.2.length c, .int .u8 (b.toNat : Int)] w (RetStep D w (stepC d p.1 p.2 b)) := by
  obtain ⟨s, st⟩ := p
  obtain ⟨h0, h1, h2, h3⟩ := ha
  simp only at h0 h1 h2 h3 hst
  obtain ⟨k, rfl⟩ : ∃ k : Nat, s = k := ⟨s.toNat, by omega⟩
  obtain ⟨z, hz, hb | hb | hb⟩ := symI_cases hb
  · exact step_call D A0 c0 A1 c1 A2 c2 A3 c3 d k A c st b z w hs0 hst h2 (by omega) hd (by omega) hz hb
  · exact step_ret D A0 c0 A1 c1 A2 c2 A3 c3 d k A c st b z w hs0 hst h2 (by omega) hd (by omega) hz hb
  · exact step_in D A0 c0 A1 c1 A2 c2 A3 c3 d k A c st b z w hs0 hst h2 (by omega) hd (by omega) hz hb
end Go.Proofs.YtcagdmaiemmfgaaGreat
