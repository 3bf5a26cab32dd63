/- One step of a checker, in the reference: it comes to where the plain step comes; for all valid checkers and symbols. -/
import Derived.Test.YtcagdmaiemmfgaaGreatS
import Derived.Test.YtcagdmaiemmfgaaGreatQ
namespace Go.Proofs.YtcagdmaiemmfgaaGreat
open Go.RowKit

/-- A call hands back a state and a stack; nothing old is written. -/
def RetStep (D : Dom) (w : World) (p : Int × List Int) (e : Ending) (w' : World) : Prop :=
  ∃ A c, e = .returned (.tuple #[.int .i64 p.1, .slice A p.2.length c]) ∧ Sl 1 (elInt .i64) (fun b => D b ∨ w.heap.size ≤ b) w' A c p.2 ∧ Below w.heap.size w w'
theorem bel_drew {B : Nat} {a b : World} (h : Below B a b) : Below B a b.drew := ⟨h.os, h.tape, h.output, h.size, h.block⟩
theorem wrap_nat {z : Nat} (h : (z : Int) < 9223372036854775808) : IntKind.i64.wrap (z : Int) = z := by rw [IntKind.wrap_i64]; omega
theorem Sl.take {α : Type} {sz : Nat} {e : El α} {D : Dom} {w : World} {A : Option Addr} {c : Nat} {xs : List α} (h : Sl sz e D w A c xs) (k : Nat) : Sl sz e D w A c (xs.take k) :=
  ⟨Nat.le_trans (by simp; omega) h.1, h.2.1, fun hk => by
    obtain ⟨b, off, ha, hb, hc⟩ := h.2.2 (by simp at hk; omega)
    refine ⟨b, off, ha, hb, fun i x hx => hc i x ?_⟩
    rw [List.getElem?_take] at hx
    split at hx
    · exact hx
    · cases hx⟩
theorem symI_cases {b : UInt8} (h : 0 ≤ symI b) : ∃ z : Nat, z < 2 ∧ (symI b = z ∨ symI b = (z : Int) + 2 ∨ symI b = (z : Int) + 4) := by
  have := (symI_range b).2
  rcases (show symI b < 2 ∨ (2 ≤ symI b ∧ symI b < 4) ∨ 4 ≤ symI b by omega) with h1 | h1 | h1
  · exact ⟨(symI b).toNat, by omega, .inl (by omega)⟩
  · exact ⟨(symI b - 2).toNat, by omega, .inr (.inl (by omega))⟩
  · exact ⟨(symI b - 4).toNat, by omega, .inr (.inr (by omega))⟩
theorem stepC_in {d : Chk} {s : Nat} {st : List Int} {b : UInt8} {z : Nat} (h : symI b = (z : Int) + 4) : stepC d s st b = ((d.inn.getD s []).getD z 0, st) := by
  unfold stepC
  rw [if_neg (by omega), if_neg (by omega), h]
  simp
theorem stepC_call {d : Chk} {s : Nat} {st : List Int} {b : UInt8} {z : Nat} (h : symI b = (z : Int)) (hz : z < 2) : stepC d s st b = ((((d.call.getD s []).getD z ⟨0, 0⟩).to), st ++ [((d.call.getD s []).getD z ⟨0, 0⟩).put]) := by
  unfold stepC
  rw [if_pos (by omega), h]
  simp
theorem stepC_ret0 {d : Chk} {s : Nat} {b : UInt8} {z : Nat} (h : symI b = (z : Int) + 2) (hz : z < 2) : stepC d s [] b = (((d.ret.getD s []).getD z []).getD d.stack.toNat 0, []) := by
  unfold stepC
  rw [if_neg (by omega), if_pos (by omega), h]
  simp
theorem stepC_ret {d : Chk} {s : Nat} {st : List Int} {b : UInt8} {z : Nat} (h : symI b = (z : Int) + 2) (hz : z < 2) (hn : 0 < st.length) : stepC d s st b = (((d.ret.getD s []).getD z []).getD (st[st.length - 1]).toNat 0, st.take (st.length - 1)) := by
  have hne : st ≠ [] := by intro h0; subst h0; simp at hn
  unfold stepC
  rw [if_neg (by omega), if_pos (by omega), h, List.getLast?_eq_some_getLast hne, ← List.dropLast_eq_take, List.getLast_eq_getElem hne]
  simp
set_option maxHeartbeats 1000000 in
theorem l02Step_in (D : Dom) (g o : Nat) (d : Chk) (s : Nat) (A : Option Addr) (c : Nat) (st : List Int) (b : UInt8) (z : Nat) (w : World) (hp : ChkPtr D w g o d) (hst : Sl 1 (elInt .i64) D w A c st) (hd : Dim d) (hs : s < d.acc.length) (hz : z < 2) (hb : symI b = (z : Int) + 4) :
    Calls Tryz.prog 131 #[.pointer (some ⟨g, o, none⟩), .int .i64 s, .slice A st.length c, .int .u8 (b.toNat : Int)] w (RetStep D w (stepC d s st b)) := by
  obtain ⟨p, hpp⟩ : ∃ p, p = stepC d s st b := ⟨_, rfl⟩
  rw [← hpp]
  rw [stepC_in hb] at hpp
  obtain ⟨p0, p1, A0, c0, A1, c1, A2, c2, A3, c3, p2, p3, p4, p5, hs0⟩ := hp
  have l3 := hs0.inn.le
  have v1 : d.inn.length ≤ d.acc.length := by rw [hd.inn]; exact Nat.le_refl _
  have v2 : d.acc.length ≤ d.inn.length := by rw [hd.inn]; exact Nat.le_refl _
  have v3 : s < d.inn.length := by omega
  obtain ⟨b3, o3, rfl, X3, y3, h3, g3⟩ := hs0.inn.at_ (i := s) v3
  have e2 := hd.innS s hs
  rw [getD_at _ _ v3] at e2
  have e4 := getD_at d.inn [] v3
  generalize d.inn[s] = rr at *
  obtain ⟨b4, o4, rfl, h4⟩ := g3.at_ (i := z) (by omega)
  rw [e4, getD_at rr _ (show z < rr.length by omega)] at hpp
  have u1 : rr.length ≤ 2 := by omega
  have u2 : 2 ≤ rr.length := by omega
  generalize rr[z]'(by omega) = xx at *
  have i0 : (0 : Int) ≤ s := by omega
  have i1 : (s : Int) < d.inn.length := by omega
  have i2 : (0 : Int) ≤ z := by omega
  have i3 : (z : Int) < rr.length := by omega
  have HP := Lib.hid hpp
  have HST := Lib.hid (hst.mono ints_good (D' := fun b => D b ∨ w.heap.size ≤ b) fun _ h _ => .inl h)
  have HBB := Lib.hid hb
  have j1 : ¬ ((z : Int) + 4 < 2) := by omega
  have j2 : ¬ ((z : Int) + 4 < 4) := by omega
  have j3 : (z : Int) + 4 - 4 = z := by omega
  have j5 : IntKind.i64.wrap (z : Int) = z := wrap_nat (by omega)
  have j4 : IntKind.i64.wrap ((z : Int) + 4 - 4) = z := by rw [j3]; exact wrap_nat (by omega)
  simp only [Nat.mul_one] at h3
  simp only [elInt, Nat.mul_one] at h4
  clear hpp e4 hst hb e2 hs0 g3 hd p0 p1 p2 p3 p4
  go_enter Tryz.func131, Tryz.ntmps131
  go_wp2_with (go_at_call 189; refine (l01Symbol_c b _).mono ?_; rintro e w' ⟨rfl, rfl⟩; rw [HBB.out])
  go_ret2
  have hq := HP.out
  subst hq
  exact ⟨A, c, rfl, HST.out, Below.refl _ _⟩
set_option maxHeartbeats 1000000 in
set_option maxRecDepth 100000 in
theorem l02Step_ret (D : Dom) (g o : Nat) (d : Chk) (s : Nat) (A : Option Addr) (c : Nat) (st : List Int) (b : UInt8) (z : Nat) (w : World) (hp : ChkPtr D w g o d) (hst : Sl 1 (elInt .i64) D w A c st) (hm : Marks d st) (hn : st.length ≤ 1048576) (hd : Dim d) (hs : s < d.acc.length) (hz : z < 2) (hb : symI b = (z : Int) + 2) :
    Calls Tryz.prog 131 #[.pointer (some ⟨g, o, none⟩), .int .i64 s, .slice A st.length c, .int .u8 (b.toNat : Int)] w (RetStep D w (stepC d s st b)) := by
  obtain ⟨p, hpp⟩ : ∃ p, p = stepC d s st b := ⟨_, rfl⟩
  rw [← hpp]
  obtain ⟨p0, p1, A0, c0, A1, c1, A2, c2, A3, c3, p2, p3, p4, p5, hs0⟩ := hp
  have l3 := hs0.ret.le
  have v1 : d.ret.length ≤ d.acc.length := by rw [hd.ret]; exact Nat.le_refl _
  have v2 : d.acc.length ≤ d.ret.length := by rw [hd.ret]; exact Nat.le_refl _
  have v3 : s < d.ret.length := by omega
  obtain ⟨b3, o3, rfl, X3, y3, h3, g3⟩ := hs0.ret.at_ (i := s) v3
  have e2 := hd.retS s hs
  have e5 := hd.retK s z hs hz
  have m1 := hd.m1
  have m2 := hd.m2
  rw [getD_at _ _ v3] at e2 e5
  have e4 := getD_at d.ret [] v3
  generalize d.ret[s] = rr at *
  have e6 := getD_at rr [] (show z < rr.length by omega)
  obtain ⟨b4, o4, rfl, X4, y4, h4, g4⟩ := g3.at_ (i := z) (by omega)
  rw [e6] at e5
  have u1 : rr.length ≤ 2 := by omega
  have u2 : 2 ≤ rr.length := by omega
  generalize rr[z]'(by omega) = xx at *
  have i0 : (0 : Int) ≤ s := by omega
  have i1 : (s : Int) < d.ret.length := by omega
  have i2 : (0 : Int) ≤ z := by omega
  have i3 : (z : Int) < rr.length := by omega
  have HBB := Lib.hid hb
  have j1 : ¬ ((z : Int) + 2 < 2) := by omega
  have j2 : (z : Int) + 2 < 4 := by omega
  have j3 : (z : Int) + 2 - 2 = z := by omega
  have j5 : IntKind.i64.wrap (z : Int) = z := wrap_nat (by omega)
  have j4 : IntKind.i64.wrap ((z : Int) + 2 - 2) = z := by rw [j3]; exact wrap_nat (by omega)
  simp only [Nat.mul_one] at h3 h4
  rcases Nat.eq_zero_or_pos st.length with hn0 | hn0
  · have hst0 : st = [] := List.eq_nil_of_length_eq_zero hn0
    subst hst0
    rw [stepC_ret0 hb hz, e4, e6, getD_at xx _ (show d.stack.toNat < xx.length by omega)] at hpp
    obtain ⟨b5, o5, rfl, h5⟩ := g4.at_ (i := d.stack.toNat) (by omega)
    generalize xx[d.stack.toNat]'(by omega) = yy at *
    have HP := Lib.hid hpp
    simp only [elInt, Nat.mul_one] at h5
    have k1 : (d.stack.toNat : Int) = d.stack := by omega
    have k2 : 0 ≤ d.stack := by omega
    have k3 : d.stack < xx.length := by omega
    clear hpp e4 hst hb e2 e5 e6 hs0 g3 g4 hd p1 p2 p3 p5
    go_enter Tryz.func131, Tryz.ntmps131
    go_wp2_with (go_at_call 189; refine (l01Symbol_c b _).mono ?_; rintro e w' ⟨rfl, rfl⟩; rw [HBB.out])
    go_region_held3 (fun w' => w'.cell? ⟨g, o, none⟩ = some (.int .i64 d.stack) ∧ w'.cell? ⟨g, o + 4, none⟩ = some (.slice (some ⟨b3, o3, none⟩) d.ret.length c2) ∧ w'.cell? ⟨b3, o3 + s, none⟩ = some (.slice (some ⟨b4, o4, none⟩) rr.length y3) ∧ w'.cell? ⟨b4, o4 + z, none⟩ = some (.slice (some ⟨b5, o5, none⟩) xx.length y4) ∧ w'.cell? ⟨b5, o5 + d.stack.toNat, none⟩ = some (.int .i64 yy)) (first | exact ⟨p0, p4, h3, h4, h5⟩ | exact ⟨(cell_old (lt_of_cell p0)).trans p0, (cell_old (lt_of_cell p0)).trans p4, (cell_old (lt_of_cell h3)).trans h3, (cell_old (lt_of_cell h4)).trans h4, (cell_old (lt_of_cell h5)).trans h5⟩) (fail)
    go_wp2_with fail
    go_ret2
    have hq := HP.out
    subst hq
    exact ⟨_, _, rfl, ⟨by simp, by unfold maxLen; omega, by simp⟩, bel_drew (bel1 _ _)⟩
  · rw [stepC_ret hb hz hn0, e4, e6] at hpp
    have hlt : st.length - 1 < st.length := by omega
    have m5 := hm _ (List.getElem_mem hlt)
    obtain ⟨b6, o6, rfl, h6⟩ := hst.at_ (i := st.length - 1) hlt
    have HTL : Hid ((st.take (st.length - 1)).length = st.length - 1) := Lib.hid (by simp)
    have HTK : Hid (Sl 1 (elInt .i64) D w.drew (some ⟨b6, o6, none⟩) c (st.take (st.length - 1))) := Lib.hid ((hst.take _).drew ints_good)
    have HST := Lib.hid (Sl.mono ints_good (D' := fun b => D b ∨ w.heap.size ≤ b) hst fun _ h _ => .inl h)
    generalize st[st.length - 1]'hlt = mm at *
    obtain ⟨m0, m3⟩ := m5
    rw [getD_at xx _ (show mm.toNat < xx.length by omega)] at hpp
    obtain ⟨b5, o5, rfl, h5⟩ := g4.at_ (i := mm.toNat) (by omega)
    generalize xx[mm.toNat]'(by omega) = yy at *
    have HP := Lib.hid hpp
    simp only [elInt, Nat.mul_one] at h5 h6
    have k1 : (mm.toNat : Int) = mm := by omega
    have k3 : mm < xx.length := by omega
    have k4 : ((st.length : Int) == 0) = false := beq_eq_false_iff_ne.2 (by omega)
    have k10 := HST.out.1
    have k11 := HST.out.2.1
    have k12 : (st.length : Int) - 1 ≤ c := by omega
    have k13 : (1 : Int) ≤ st.length := by omega
    have k14 : 1 ≤ st.length := hn0
    have k5 : (0 : Int) ≤ (st.length : Int) - 1 := by omega
    have k6 : (st.length : Int) - 1 < st.length := by omega
    have k7 : ((st.length : Int) - 1).toNat = st.length - 1 := by omega
    have k8 : IntKind.i64.wrap ((st.length : Int) - 1) = (st.length : Int) - 1 := by rw [IntKind.wrap_i64]; omega
    clear hpp e4 hst hb e2 e5 e6 hs0 g3 g4 hd p0 p1 p2 p3 p5
    go_enter Tryz.func131, Tryz.ntmps131
    go_wp2_with (go_at_call 189; refine (l01Symbol_c b _).mono ?_; rintro e w' ⟨rfl, rfl⟩; rw [HBB.out])
    go_region_held3 (fun w' => w'.cell? ⟨g, o + 4, none⟩ = some (.slice (some ⟨b3, o3, none⟩) d.ret.length c2) ∧ w'.cell? ⟨b3, o3 + s, none⟩ = some (.slice (some ⟨b4, o4, none⟩) rr.length y3) ∧ w'.cell? ⟨b4, o4 + z, none⟩ = some (.slice (some ⟨b5, o5, none⟩) xx.length y4) ∧ w'.cell? ⟨b5, o5 + mm.toNat, none⟩ = some (.int .i64 yy) ∧ w'.cell? ⟨b6, o6 + (st.length - 1), none⟩ = some (.int .i64 mm)) (first | exact ⟨p4, h3, h4, h5, h6⟩ | exact ⟨(q1 _ _ (lt_of_cell p4)).trans p4, (q1 _ _ (lt_of_cell h3)).trans h3, (q1 _ _ (lt_of_cell h4)).trans h4, (q1 _ _ (lt_of_cell h5)).trans h5, (q1 _ _ (lt_of_cell h6)).trans h6⟩) (first | (go_at_call 181; have hc := l00Own_c D (some ⟨b6, o6, none⟩) c (st.take (st.length - 1)) w.drew HTK.out (by simp; omega); rw [HTL.out] at hc; refine hc.mono ?_; rintro e w1 ⟨v, rfl, ho, hb1⟩; obtain ⟨A', c', rfl, hs1⟩ := ho.sl; have q1 := (bcell hb1 (n := w.heap.size) (Nat.le_refl _)).1; have HS1 := Lib.hid hs1; have HB1 : Hid (Below w.heap.size w w1) := Lib.hid (Below.trans (b := w.drew) ⟨rfl, rfl, rfl, Nat.le_refl _, fun _ _ => rfl⟩ hb1); clear ho hs1 hb1; rw [HTL.out]))
    go_wp2_with fail
    go_ret2
    have hq := HP.out
    subst hq
    exact ⟨A', c', by rw [HTL.out]; rfl, (HS1.out).mono ints_good fun _ h _ => .inr h, HB1.out⟩
end Go.Proofs.YtcagdmaiemmfgaaGreat
