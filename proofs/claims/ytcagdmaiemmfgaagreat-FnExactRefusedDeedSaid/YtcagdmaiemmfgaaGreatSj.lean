/- The reference's run: what a store into its block does; for all valid streams. -/
import Derived.Test.YtcagdmaiemmfgaaGreatSi
namespace Go.Proofs.YtcagdmaiemmfgaaGreat
open Go.RowKit

section
variable {X : Dom} {B : Nat} {w w' : World} {g vb vo : Nat} {n : PlantP} {A : Option Addr} {c : Nat}
theorem RunS.free (h : RunS X B w g vb vo n A c) (j : Nat) : w.frozen? ⟨g, j, none⟩ = false := by
  obtain ⟨cs, h1, _⟩ := h.blk
  simp [World.frozen?, h1]
theorem desk_turn {D : Dom} {o k sz : Nat} {x : DeskP} {cs : Array Value} {t : TypeId} (h : elDesk D w g k x) (hD : ¬ D g) (ht : Turned w w' g o sz) (hc : w.heap[g]? = some (.cells cs t (0, 0))) (hk : k + 4 ≤ o ∨ o + sz ≤ k) : elDesk D w' g k x := by
  have hs : Same D w w' := fun b hb => ht.1 b fun e => hD (e ▸ hb)
  obtain ⟨h0, h1, ⟨A, c, h2, h3⟩, A', c', h4, h5⟩ := h
  exact ⟨(ht.cell hc (by omega)).trans h0, (ht.cell hc (by omega)).trans h1, ⟨A, c, (ht.cell hc (by omega)).trans h2, h3.keep ints_good hs⟩, A', c', (ht.cell hc (by omega)).trans h4, h5.keep ints_good hs⟩
theorem RunD.eq (h : w'.heap.size = w.heap.size) : RunD X w' g A c = RunD X w g A c := by unfold RunD; rw [h]
theorem RunD.not_g : ¬ RunD X w g A c g := fun h => h.2.1 rfl
/-- A store into the run's block, at the cells from o on: what stands elsewhere stays. -/
theorem RunS.turn (h : RunS X B w g vb vo n A c) {o sz : Nat} (ht : Turned w w' g o sz) (ho : 1 ≤ o) (n' : PlantP) (A' : Option Addr) (c' : Nat)
    (hdesk : elDesk (RunD X w g A' c') w' g 1 n'.desk) (hsaved : elDesk (RunD X w g A' c') w' g 5 n'.saved) (hwire : w'.cell? ⟨g, 9, none⟩ = some (.slice A' n'.wire.length c')) (hown : OwnSl 2 elParcel (RunD X w g A' c') w' A' c' n'.wire) (hlo : ∀ b, ownB A' c' = some b → B ≤ b ∧ b ≠ g) (hx : ∀ k, X k → ownB A' c' ≠ some k) : RunS X B w' g vb vo n' A' c' := by
  obtain ⟨cs, h1, h2⟩ := h.blk
  obtain ⟨cs', k1, k2, _⟩ := ht.2.2 _ _ h1
  have he : RunD X w' g A' c' = RunD X w g A' c' := RunD.eq ht.2.1
  exact ⟨h.lo, ⟨cs', k1, k2.trans h2⟩, (ht.cell h1 (.inl (by omega))).trans h.ptr, he ▸ hdesk, he ▸ hsaved, hwire, he ▸ hown, hlo, fun k hk => ⟨(h.xr k hk).1, by rw [ht.2.1]; exact (h.xr k hk).2.1, (h.xr k hk).2.2.1, hx k hk⟩⟩
/-- The same where the wire stays. -/
theorem RunS.turn1 (h : RunS X B w g vb vo n A c) {o sz : Nat} (ht : Turned w w' g o sz) (ho : 1 ≤ o) (ho2 : o + sz ≤ 9) (k1 k2 : DeskP)
    (hdesk : elDesk (RunD X w g A c) w' g 1 k1) (hsaved : elDesk (RunD X w g A c) w' g 5 k2) : RunS X B w' g vb vo ⟨k1, k2, n.wire⟩ A c := by
  obtain ⟨cs, h1, h2⟩ := h.blk
  refine h.turn ht ho ⟨k1, k2, n.wire⟩ A c hdesk hsaved ((ht.cell h1 (.inr ho2)).trans h.wire) ?_ h.ownLo fun k hk => (h.xr k hk).2.2.2
  exact h.own.keep elParcel_good (fun b hb => ht.1 b hb.2.1) (Nat.le_of_eq ht.2.1.symm) fun b hb => ht.1 b (h.ownLo b hb).2
theorem RunS.cell9 (h : RunS X B w g vb vo n A c) {j : Nat} (hj : j < 10) : ∃ v, w.cell? ⟨g, j, none⟩ = some v := by
  obtain ⟨cs, h1, h2⟩ := h.blk
  exact ⟨cs[j], by simp [World.cell?, h1]⟩
theorem set_at {v : Value} {j : Nat} (h : ∃ u, w.cell? ⟨g, j, none⟩ = some u) : (w.setCell ⟨g, j, none⟩ v).cell? ⟨g, j, none⟩ = some v := by
  obtain ⟨u, hu⟩ := h
  exact cell_set hu
/-- One cell of the desk. -/
theorem RunS.setRead (h : RunS X B w g vb vo n A c) (r : Int) : RunS X B (w.setCell ⟨g, 1, none⟩ (.int .i64 r)) g vb vo ⟨⟨r, n.desk.state, n.desk.stack, n.desk.waiting⟩, n.saved, n.wire⟩ A c := by
  obtain ⟨cs, h1, h2⟩ := h.blk
  have ht := turned_set w g 1 (.int .i64 r)
  obtain ⟨q0, q1, ⟨A1, c1, q2, q3⟩, A2, c2, q4, q5⟩ := h.desk
  have hs : Same (RunD X w g A c) w (w.setCell ⟨g, 1, none⟩ (.int .i64 r)) := fun b hb => ht.1 b hb.2.1
  exact h.turn1 ht (by omega) (by omega) _ _ ⟨set_at ⟨_, q0⟩, (ht.cell h1 (by omega)).trans q1, ⟨A1, c1, (ht.cell h1 (by omega)).trans q2, q3.keep ints_good hs⟩, A2, c2, (ht.cell h1 (by omega)).trans q4, q5.keep ints_good hs⟩ (desk_turn h.saved RunD.not_g ht h1 (by omega))
theorem RunS.setState (h : RunS X B w g vb vo n A c) (r : Int) : RunS X B (w.setCell ⟨g, 2, none⟩ (.int .i64 r)) g vb vo ⟨⟨n.desk.read, r, n.desk.stack, n.desk.waiting⟩, n.saved, n.wire⟩ A c := by
  obtain ⟨cs, h1, h2⟩ := h.blk
  have ht := turned_set w g 2 (.int .i64 r)
  obtain ⟨q0, q1, ⟨A1, c1, q2, q3⟩, A2, c2, q4, q5⟩ := h.desk
  have hs : Same (RunD X w g A c) w (w.setCell ⟨g, 2, none⟩ (.int .i64 r)) := fun b hb => ht.1 b hb.2.1
  exact h.turn1 ht (by omega) (by omega) _ _ ⟨(ht.cell h1 (by omega)).trans q0, set_at ⟨_, q1⟩, ⟨A1, c1, (ht.cell h1 (by omega)).trans q2, q3.keep ints_good hs⟩, A2, c2, (ht.cell h1 (by omega)).trans q4, q5.keep ints_good hs⟩ (desk_turn h.saved RunD.not_g ht h1 (by omega))
theorem RunS.setStack (h : RunS X B w g vb vo n A c) {A3 : Option Addr} {c3 : Nat} {st : List Int} (h3 : Sl 1 (elInt .i64) (RunD X w g A c) w A3 c3 st) : RunS X B (w.setCell ⟨g, 3, none⟩ (.slice A3 st.length c3)) g vb vo ⟨⟨n.desk.read, n.desk.state, st, n.desk.waiting⟩, n.saved, n.wire⟩ A c := by
  obtain ⟨cs, h1, h2⟩ := h.blk
  have ht := turned_set w g 3 (.slice A3 st.length c3)
  obtain ⟨q0, q1, ⟨A1, c1, q2, q3⟩, A2, c2, q4, q5⟩ := h.desk
  have hs : Same (RunD X w g A c) w (w.setCell ⟨g, 3, none⟩ (.slice A3 st.length c3)) := fun b hb => ht.1 b hb.2.1
  exact h.turn1 ht (by omega) (by omega) _ _ ⟨(ht.cell h1 (by omega)).trans q0, (ht.cell h1 (by omega)).trans q1, ⟨A3, c3, set_at ⟨_, q2⟩, h3.keep ints_good hs⟩, A2, c2, (ht.cell h1 (by omega)).trans q4, q5.keep ints_good hs⟩ (desk_turn h.saved RunD.not_g ht h1 (by omega))
theorem RunS.setWaiting (h : RunS X B w g vb vo n A c) {A3 : Option Addr} {c3 : Nat} {ws : List Int} (h3 : Sl 1 (elInt .i64) (RunD X w g A c) w A3 c3 ws) : RunS X B (w.setCell ⟨g, 4, none⟩ (.slice A3 ws.length c3)) g vb vo ⟨⟨n.desk.read, n.desk.state, n.desk.stack, ws⟩, n.saved, n.wire⟩ A c := by
  obtain ⟨cs, h1, h2⟩ := h.blk
  have ht := turned_set w g 4 (.slice A3 ws.length c3)
  obtain ⟨q0, q1, ⟨A1, c1, q2, q3⟩, A2, c2, q4, q5⟩ := h.desk
  have hs : Same (RunD X w g A c) w (w.setCell ⟨g, 4, none⟩ (.slice A3 ws.length c3)) := fun b hb => ht.1 b hb.2.1
  exact h.turn1 ht (by omega) (by omega) _ _ ⟨(ht.cell h1 (by omega)).trans q0, (ht.cell h1 (by omega)).trans q1, ⟨A1, c1, (ht.cell h1 (by omega)).trans q2, q3.keep ints_good hs⟩, A3, c3, set_at ⟨_, q4⟩, h3.keep ints_good hs⟩ (desk_turn h.saved RunD.not_g ht h1 (by omega))
/-- A new stretch of memory lies in the blocks that the run does not write. -/
theorem RunS.new (h : RunS X B w g vb vo n A c) {w1 : World} {k : Nat} (hk : w.heap.size ≤ k) (hl : k < w1.heap.size) : RunD X w1 g A c k :=
  ⟨hl, by have := h.lt; omega, fun e => by have := (h.own.own e).1; omega, fun hx => by have := (h.xr k hx).2.1; omega⟩
end
end Go.Proofs.YtcagdmaiemmfgaaGreat
