/- One step of a checker at a call, in the reference: it comes to where the plain step comes; for all valid checkers. -/
import Derived.Test.YtcagdmaiemmfgaaGreatSa
namespace Go.Proofs.YtcagdmaiemmfgaaGreat
open Go.RowKit

theorem OwnI.weaken {B B' : Nat} {T : TypeId} {w : World} {v : Value} {xs : List Int} (h : OwnI B T w v xs) (hb : B' ≤ B) : OwnI B' T w v xs :=
  ⟨h.1, h.2.imp id fun ⟨g, cap, cur, e, h1, h2⟩ => ⟨g, cap, cur, e, Nat.le_trans hb h1, h2⟩⟩
theorem lit1 {w : World} {g : Nat} {x : Int} (h : w.cell? ⟨g, 0, none⟩ = some (.int .i64 x)) : Sl 1 (elInt .i64) (fun _ => True) w (some ⟨g, 0, none⟩) 1 [x] :=
  ⟨by simp, by unfold maxLen; omega, fun _ => ⟨g, 0, rfl, trivial, fun i y hy => by
    have hi : i = 0 := by
      have := (List.getElem?_eq_some_iff.1 hy).1
      simp at this
      exact this
    subst hi
    simp at hy
    subst hy
    exact h⟩⟩
theorem lit_new {w : World} {x : Int} {t : TypeId} : (w.alloc (.cells #[.int .i64 x] t)).cell? ⟨w.heap.size, 0, none⟩ = some (.int .i64 x) := by rw [cell_new]; rfl
set_option maxHeartbeats 1000000 in
set_option maxRecDepth 100000 in
theorem l02Step_call (D : Dom) (g o : Nat) (d : Chk) (s : Nat) (A : Option Addr) (c : Nat) (st : List Int) (b : UInt8) (z : Nat) (w : World) (hp : ChkPtr D w g o d) (hst : Sl 1 (elInt .i64) D w A c st) (hn : st.length ≤ 1048576) (hd : Dim d) (hs : s < d.acc.length) (hz : z < 2) (hb : symI b = (z : Int)) :
    Calls Tryz.prog 131 #[.pointer (some ⟨g, o, none⟩), .int .i64 s, .slice A st.length c, .int .u8 (b.toNat : Int)] w (RetStep D w (stepC d s st b)) := by
  obtain ⟨p, hpp⟩ : ∃ p, p = stepC d s st b := ⟨_, rfl⟩
  rw [← hpp]
  rw [stepC_call hb hz] at hpp
  obtain ⟨p0, p1, A0, c0, A1, c1, A2, c2, A3, c3, p2, p3, p4, p5, hs0⟩ := hp
  have l3 := hs0.call.le
  have v1 : d.call.length ≤ d.acc.length := by rw [hd.call]; exact Nat.le_refl _
  have v2 : d.acc.length ≤ d.call.length := by rw [hd.call]; exact Nat.le_refl _
  have v3 : s < d.call.length := by omega
  obtain ⟨b3, o3, rfl, X3, y3, h3, g3⟩ := hs0.call.at_ (i := s) v3
  have e2 := hd.callS s hs
  rw [getD_at _ _ v3] at e2
  have e4 := getD_at d.call [] v3
  generalize d.call[s] = rr at *
  obtain ⟨b4, o4, rfl, h4, h5⟩ := g3.at_ (i := z) (by omega)
  rw [e4, getD_at rr _ (show z < rr.length by omega)] at hpp
  have u1 : rr.length ≤ 2 := by omega
  have u2 : 2 ≤ rr.length := by omega
  generalize rr[z]'(by omega) = pp at *
  have i0 : (0 : Int) ≤ s := by omega
  have i1 : (s : Int) < d.call.length := by omega
  have i2 : (0 : Int) ≤ z := by omega
  have i3 : (z : Int) < rr.length := by omega
  have HP := Lib.hid hpp
  have HST := Lib.hid hst
  have HBB := Lib.hid hb
  have j1 : (z : Int) < 2 := by omega
  simp only [Nat.mul_one] at h3
  clear hpp e4 hst hb e2 hs0 g3 hd p0 p1 p2 p4 p5
  go_enter Tryz.func131, Tryz.ntmps131
  go_wp2_with (go_at_call 189; refine (l01Symbol_c b _).mono ?_; rintro e w' ⟨rfl, rfl⟩; rw [HBB.out])
  obtain ⟨W, hW⟩ : ∃ W, W = w.alloc (.cells #[.int .i64 pp.to, .int .i64 pp.put] 106) := ⟨_, rfl⟩
  have hn1 : W.heap.size = w.heap.size + 1 := by rw [hW]; simp
  have hkW : ∀ w2, Below (w.heap.size + 1) W w2 → w2.cell? ⟨w.heap.size, 0, none⟩ = some (.int .i64 pp.to) ∧ w2.cell? ⟨w.heap.size, 1, none⟩ = some (.int .i64 pp.put) ∧ Below (w.heap.size + 1) W w2 := by
    intro w2 h
    refine ⟨(h.cell (p := ⟨_, _, none⟩) (by simp)).trans ?_, (h.cell (p := ⟨_, _, none⟩) (by simp)).trans ?_, h⟩ <;> (rw [hW, cell_new]; rfl)
  have hsl : ∀ w2, Below (w.heap.size + 1) W w2 → Sl 1 (elInt .i64) D w2 A c st := fun w2 h => HST.out.below ints_good (Below.trans (b := W) (hW ▸ bel1 w _) (h.mono (by omega)))
  have hsz : ∀ w2, Below (w.heap.size + 1) W w2 → w.heap.size + 1 ≤ w2.heap.size := fun w2 h => by have := h.size; omega
  have hbw : ∀ w2, Below (w.heap.size + 1) W w2 → Below w.heap.size w w2 := fun w2 h => Below.trans (b := W) (hW ▸ bel1 w _) (h.mono (by omega))
  rw [← hW]
  clear hW
  have hlit : (W.alloc (.cells #[.int .i64 pp.put] 2)).drew.cell? ⟨w.heap.size + 1, 0, none⟩ = some (.int .i64 pp.put) := by rw [← hn1]; exact lit_new
  have hl1 : w.heap.size + 1 < (W.alloc (.cells #[.int .i64 pp.put] 2)).drew.heap.size := by rw [← hn1]; simp
  go_region_held3 (fun w' => w'.cell? ⟨w.heap.size, 0, none⟩ = some (.int .i64 pp.to) ∧ w'.cell? ⟨w.heap.size, 1, none⟩ = some (.int .i64 pp.put) ∧ Below (w.heap.size + 1) W w')
    (first | exact hkW _ (bel_drew (Below.refl _ _)) | exact hkW _ HB2.out | (rename_i hS _ _; first | exact hkW _ (hS.2.2.trans (HB1.out.mono (hsz _ hS.2.2))) | exact hkW _ (hS.2.2.trans ((bel1 _ _).mono (hsz _ hS.2.2)))))
    (first | (go_at_call 181; rename_i hS _ _; refine (l00Own_c D A c st _ (hsl _ hS.2.2) (by omega)).mono ?_; rintro e w1 ⟨v, rfl, ho, hb1⟩; have HO := Lib.hid (ho.weaken (hsz _ hS.2.2)); have HB1 := Lib.hid hb1; clear ho hb1) |
      (rename_i hS _ _; refine step_app _ rfl (.tmp 30) (.tmp 33) 70 2 rfl Tryz.underlying70 info_i64 (w.heap.size + 1) v st rfl (by first | exact HO.out | exact HO.out.below (bel1 _ _)) (fun _ => True) _ 1 [pp.put] rfl (lit1 (by first | exact lit_new | exact (HB1.out.cell (p := ⟨w.heap.size + 1, 0, none⟩) hl1).trans hlit)) (by simp; omega) (hsz _ hS.2.2) ?_; intro v2 w2 ho2 hg2 _; have HB2 : Hid (Below (w.heap.size + 1) W w2) := Lib.hid (by first | exact HO.out.below_of hS.2.2 (hsz _ hS.2.2) hg2 | exact (HO.out.below (bel1 _ _)).below_of hS.2.2 (hsz _ hS.2.2) hg2); obtain ⟨A2, c2, rfl, hs2⟩ := ho2.sl; have HS2 := Lib.hid hs2; clear ho2 hg2 hs2))
  all_goals
    go_wp2_with fail
    go_ret2
    have hq := HP.out
    subst hq
    exact ⟨A2, c2, by simp only [List.length_append, List.length_singleton]; rfl, HS2.out.mono ints_good fun k h _ => .inr (Nat.le_of_succ_le h), hbw _ HB2.out⟩
end Go.Proofs.YtcagdmaiemmfgaaGreat
