/- The reference's run: new wires, desks that are kept, slices of slices; for all valid streams. -/
import Derived.Test.YtcagdmaiemmfgaaGreatSk
namespace Go.Proofs.YtcagdmaiemmfgaaGreat
open Go.RowKit

/-- Where a slice of a slice begins. -/
def from_ (A : Option Addr) (c l s : Nat) : Option Addr := if c = l then A else A.map (·.add (l * s))
theorem run_from {P : Program} (w : World) (t T : TypeId) (A : Option Addr) (n c l s : Nat) (li : Int) (hli : li = l) (ht : P.underlying t = some (.slice T)) (hs : (sizeOf T).run P w = .ok s w) (hl : l ≤ n) :
    (Instr.slice t (.slice A n c) (some (.int .i64 li)) none none).run P w = .ok (.slice (from_ A c l s) (n - l) (c - l)) w := by
  have he : P.elem t = T := by simp [Program.elem, ht]
  subst hli
  rw [run_slice_l w t _ _ _ (by rw [he]; exact ht) .i64 _ (by omega) (by omega), he, hs]
  simp [Result.andThen, sliced, from_]
theorem run_upto {P : Program} (w : World) (t T : TypeId) (b o n c l s : Nat) (ht : P.underlying t = some (.slice T)) (hs : (sizeOf T).run P w = .ok s w) (hl : l ≤ n) (hn : n ≤ c) :
    (Instr.slice t (.slice (some ⟨b, o, none⟩) n c) none (some (.int .i64 (l : Int))) none).run P w = .ok (.slice (some ⟨b, o, none⟩) l c) w := by
  have he : P.elem t = T := by simp [Program.elem, ht]
  rw [run_slice_h w t _ _ _ (by rw [he]; exact ht) .i64 _ (by omega) (by omega), he, hs]
  simp [Result.andThen, sliced, add_flat]
theorem run_part {P : Program} (w : World) (t T : TypeId) (A : Option Addr) (n c l h s : Nat) (li hi : Int) (hli : li = l) (hhi : hi = h) (ht : P.underlying t = some (.slice T)) (hs : (sizeOf T).run P w = .ok s w) (hl : l ≤ h) (hn : h ≤ c) :
    (Instr.slice t (.slice A n c) (some (.int .i64 li)) (some (.int .i64 hi)) none).run P w = .ok (.slice (from_ A c l s) (h - l) (c - l)) w := by
  have he : P.elem t = T := by simp [Program.elem, ht]
  subst hli hhi
  rw [run_slice_lh w t _ _ _ (by rw [he]; exact ht) .i64 .i64 _ _ (by omega) (by omega) (by omega), he, hs]
  simp [Result.andThen, sliced, from_]
section
variable {α : Type} {sz : Nat} {e : El α} {D : Dom} {w : World} {A : Option Addr} {c l h : Nat} {xs : List α}
theorem Sl.part (hs : Sl sz e D w A c xs) (hl : l ≤ h) (hh : h ≤ xs.length) : Sl sz e D w (from_ A c l sz) (c - l) ((xs.take h).drop l) := by
  have h1 := hs.1
  have h2 := hs.2.1
  refine ⟨by simp; omega, by omega, fun hn => ?_⟩
  have hn2 : l < h := by simp at hn; omega
  obtain ⟨b, o, rfl, hb, hc⟩ := hs.2.2 (by omega)
  refine ⟨b, o + l * sz, by rw [from_, if_neg (by omega), Option.map_some, add_flat], hb, fun i y hy => ?_⟩
  rw [List.getElem?_drop, List.getElem?_take] at hy
  split at hy
  · have := hc _ _ hy
    rwa [Nat.add_mul, ← Nat.add_assoc] at this
  · cases hy
theorem Lies.part (hs : Lies sz e D w A xs) (hl : l ≤ h) (hh : h ≤ xs.length) (hc : xs.length ≤ c) : Lies sz e D w (from_ A c l sz) ((xs.take h).drop l) := fun hn => by
  have hn2 : l < h := by simp at hn; omega
  obtain ⟨b, o, rfl, he⟩ := hs (by omega)
  refine ⟨b, o + l * sz, by rw [from_, if_neg (by omega), Option.map_some, add_flat], fun i y hy => ?_⟩
  rw [List.getElem?_drop, List.getElem?_take] at hy
  split at hy
  · have := he _ _ hy
    rwa [Nat.add_mul, ← Nat.add_assoc] at this
  · cases hy
theorem Lies.drop (hs : Lies sz e D w A xs) (hl : l ≤ xs.length) (hc : xs.length ≤ c) : Lies sz e D w (from_ A c l sz) (xs.drop l) := by
  have := hs.part (h := xs.length) hl (Nat.le_refl _) hc
  rwa [List.take_length] at this
theorem Lies.take (hs : Lies sz e D w A xs) (k : Nat) : Lies sz e D w A (xs.take k) := fun hn => by
  obtain ⟨b, o, ha, he⟩ := hs (by simp at hn; omega)
  refine ⟨b, o, ha, fun i y hy => he i y ?_⟩
  rw [List.getElem?_take] at hy
  split at hy
  · exact hy
  · cases hy
theorem Lies.mono (ge : El.Good sz e) {D' : Dom} (h : Lies sz e D w A xs) (hd : ∀ k, D k → k < w.heap.size → D' k) : Lies sz e D' w A xs := fun hn => by
  obtain ⟨b, o, ha, he⟩ := h hn
  exact ⟨b, o, ha, fun i y hy => ge.mono hd (he i y hy)⟩
theorem Lies.below (ge : El.Good sz e) {w' : World} (h : Lies sz e D w A xs) (hb : Below w.heap.size w w') (hD : ∀ k, D k → k < w.heap.size) : Lies sz e D w' A xs := fun hn => by
  obtain ⟨b, o, ha, he⟩ := h hn
  refine ⟨b, o, ha, fun i y hy => ?_⟩
  obtain ⟨v, hv⟩ := ge.cell (he i y hy) 0 ge.pos
  exact ge.copy (fun j hj => hb.cell (p := ⟨b, _, none⟩) (lt_of_cell hv)) (fun k hk => hb.block k (hD k hk)) (he i y hy)
end
section
variable {X : Dom} {B : Nat} {w w' : World} {g vb vo : Nat} {n : PlantP} {A : Option Addr} {c : Nat}
theorem elDesk_move {D D' : Dom} {b o : Nat} {k : DeskP} (h : elDesk D w b o k) (hc : ∀ j, j < 4 → w'.cell? ⟨b, o + j, none⟩ = w.cell? ⟨b, o + j, none⟩) (hs : Same D w w') (hd : ∀ k, D k → D' k) : elDesk D' w' b o k :=
  elDesk_good.mono (fun k hk _ => hd k hk) (elDesk_good.copy hc hs h)
/-- A new wire. -/
theorem RunS.putWire (h : RunS X B w g vb vo n A c) {A2 : Option Addr} {c2 : Nat} {ws : List ParcelP} (hk : ∀ k, k < w.heap.size → ownB A c ≠ some k → w'.heap[k]? = w.heap[k]?) (hsz : w.heap.size ≤ w'.heap.size)
    (hown : OwnSl 2 elParcel (RunD X w g A c) w' A2 c2 ws) (hor : ownB A2 c2 = ownB A c ∨ ∀ b, ownB A2 c2 = some b → w.heap.size ≤ b) :
    RunS X B (w'.setCell ⟨g, 9, none⟩ (.slice A2 ws.length c2)) g vb vo ⟨n.desk, n.saved, ws⟩ A2 c2 := by
  have hg := h.lt
  have hgo : ownB A c ≠ some g := fun e => (h.ownLo g e).2 rfl
  have hgb := hk g hg hgo
  obtain ⟨cs, h1, h2⟩ := h.blk
  have ht := turned_set w' g 9 (.slice A2 ws.length c2)
  have hcell : ∀ j, j < 9 → (w'.setCell ⟨g, 9, none⟩ (.slice A2 ws.length c2)).cell? ⟨g, j, none⟩ = w.cell? ⟨g, j, none⟩ := fun j hj => by
    rw [cell_set_ne (by omega)]
    exact World.cell?_of_block hgb
  have hS1 : Same (RunD X w g A c) w (w'.setCell ⟨g, 9, none⟩ (.slice A2 ws.length c2)) := fun k hk2 => (ht.1 k hk2.2.1).trans (hk k hk2.1 hk2.2.2.1)
  have hS2 : Same (RunD X w g A c) w' (w'.setCell ⟨g, 9, none⟩ (.slice A2 ws.length c2)) := fun k hk2 => ht.1 k hk2.2.1
  have hsz2 : (w'.setCell ⟨g, 9, none⟩ (.slice A2 ws.length c2)).heap.size = w'.heap.size := ht.2.1
  have hd : ∀ k, RunD X w g A c k → RunD X (w'.setCell ⟨g, 9, none⟩ (.slice A2 ws.length c2)) g A2 c2 k := fun k hk2 =>
    ⟨by rw [hsz2]; exact Nat.lt_of_lt_of_le hk2.1 hsz, hk2.2.1, fun e => by
      rcases hor with h0 | h0
      · exact hk2.2.2.1 (h0 ▸ e)
      · have := h0 k e; have := hk2.1; omega, hk2.2.2.2⟩
  have hlo : ∀ b, ownB A2 c2 = some b → B ≤ b ∧ b ≠ g := fun b hb => by
    rcases hor with h0 | h0
    · exact h.ownLo b (h0 ▸ hb)
    · have h3 := h0 b hb
      have := h.lo
      exact ⟨by omega, by omega⟩
  obtain ⟨cs', k1, k2, _⟩ := ht.2.2 cs _ (hgb.trans h1)
  refine ⟨h.lo, ⟨cs', k1, k2.trans h2⟩, (hcell 0 (by omega)).trans h.ptr, elDesk_move h.desk (fun j hj => hcell _ (by omega)) hS1 hd, elDesk_move h.saved (fun j hj => hcell _ (by omega)) hS1 hd, ?_, ?_, hlo, fun k hx => ⟨(h.xr k hx).1, by rw [hsz2]; exact Nat.lt_of_lt_of_le (h.xr k hx).2.1 hsz, (h.xr k hx).2.2.1, fun e => by
    rcases hor with h0 | h0
    · exact (h.xr k hx).2.2.2 (h0 ▸ e)
    · have := h0 k e; have := (h.xr k hx).2.1; omega⟩⟩
  · refine set_at ⟨cs[9], ?_⟩
    rw [World.cell?_of_block (a := ⟨g, 9, none⟩) hgb]
    simp [World.cell?, h1]
  · exact (hown.keep elParcel_good hS2 (Nat.le_of_eq hsz2.symm) fun b hb => ht.1 b (hlo b hb).2).mono elParcel_good (fun k hk2 _ => hd k hk2) fun b hb hd2 => hd2.2.2.1 hb
/-- A desk that is kept. -/
theorem RunS.putSaved (h : RunS X B w g vb vo n A c) (k : DeskP) {A3 : Option Addr} {c3 : Nat} {A4 : Option Addr} {c4 : Nat} (h3 : Sl 1 (elInt .i64) (RunD X w g A c) w A3 c3 k.stack) (h4 : Sl 1 (elInt .i64) (RunD X w g A c) w A4 c4 k.waiting) :
    RunS X B ((((w.setCell ⟨g, 5, none⟩ (.int .i64 k.read)).setCell ⟨g, 6, none⟩ (.int .i64 k.state)).setCell ⟨g, 7, none⟩ (.slice A3 k.stack.length c3)).setCell ⟨g, 8, none⟩ (.slice A4 k.waiting.length c4)) g vb vo ⟨n.desk, k, n.wire⟩ A c := by
  obtain ⟨cs, h1, h2⟩ := h.blk
  have ht := (((turned_set w g 5 (.int .i64 k.read)).more (turned_set _ g 6 (.int .i64 k.state))).more (turned_set _ g 7 (.slice A3 k.stack.length c3))).more (turned_set _ g 8 (.slice A4 k.waiting.length c4))
  have hs : Same (RunD X w g A c) w ((((w.setCell ⟨g, 5, none⟩ (.int .i64 k.read)).setCell ⟨g, 6, none⟩ (.int .i64 k.state)).setCell ⟨g, 7, none⟩ (.slice A3 k.stack.length c3)).setCell ⟨g, 8, none⟩ (.slice A4 k.waiting.length c4)) := fun b hb => ht.1 b hb.2.1
  have hc : ∀ j, j < 10 → ∃ v, w.cell? ⟨g, j, none⟩ = some v := fun j hj => h.cell9 hj
  have c6 : ∃ v, (w.setCell ⟨g, 5, none⟩ (.int .i64 k.read)).cell? ⟨g, 6, none⟩ = some v := by rw [cell_set_ne (by omega)]; exact hc 6 (by omega)
  have c7 : ∃ v, ((w.setCell ⟨g, 5, none⟩ (.int .i64 k.read)).setCell ⟨g, 6, none⟩ (.int .i64 k.state)).cell? ⟨g, 7, none⟩ = some v := by rw [cell_set_ne (by omega), cell_set_ne (by omega)]; exact hc 7 (by omega)
  have c8 : ∃ v, (((w.setCell ⟨g, 5, none⟩ (.int .i64 k.read)).setCell ⟨g, 6, none⟩ (.int .i64 k.state)).setCell ⟨g, 7, none⟩ (.slice A3 k.stack.length c3)).cell? ⟨g, 8, none⟩ = some v := by rw [cell_set_ne (by omega), cell_set_ne (by omega), cell_set_ne (by omega)]; exact hc 8 (by omega)
  refine h.turn1 ht (by omega) (by omega) n.desk k (desk_turn h.desk RunD.not_g ht h1 (by omega)) ⟨?_, ?_, ⟨A3, c3, ?_, h3.keep ints_good hs⟩, A4, c4, ?_, h4.keep ints_good hs⟩
  · rw [cell_set_ne (by omega), cell_set_ne (by omega), cell_set_ne (by omega)]
    exact set_at (hc 5 (by omega))
  · rw [cell_set_ne (by omega), cell_set_ne (by omega)]
    exact set_at c6
  · rw [cell_set_ne (by omega)]
    exact set_at c7
  · exact set_at c8
theorem RunS.putDesk (h : RunS X B w g vb vo n A c) (k : DeskP) {A3 : Option Addr} {c3 : Nat} {A4 : Option Addr} {c4 : Nat} (h3 : Sl 1 (elInt .i64) (RunD X w g A c) w A3 c3 k.stack) (h4 : Sl 1 (elInt .i64) (RunD X w g A c) w A4 c4 k.waiting) :
    RunS X B ((((w.setCell ⟨g, 1, none⟩ (.int .i64 k.read)).setCell ⟨g, 2, none⟩ (.int .i64 k.state)).setCell ⟨g, 3, none⟩ (.slice A3 k.stack.length c3)).setCell ⟨g, 4, none⟩ (.slice A4 k.waiting.length c4)) g vb vo ⟨k, n.saved, n.wire⟩ A c := by
  obtain ⟨cs, h1, h2⟩ := h.blk
  have ht := (((turned_set w g 1 (.int .i64 k.read)).more (turned_set _ g 2 (.int .i64 k.state))).more (turned_set _ g 3 (.slice A3 k.stack.length c3))).more (turned_set _ g 4 (.slice A4 k.waiting.length c4))
  have hs : Same (RunD X w g A c) w ((((w.setCell ⟨g, 1, none⟩ (.int .i64 k.read)).setCell ⟨g, 2, none⟩ (.int .i64 k.state)).setCell ⟨g, 3, none⟩ (.slice A3 k.stack.length c3)).setCell ⟨g, 4, none⟩ (.slice A4 k.waiting.length c4)) := fun b hb => ht.1 b hb.2.1
  have hc : ∀ j, j < 10 → ∃ v, w.cell? ⟨g, j, none⟩ = some v := fun j hj => h.cell9 hj
  have c6 : ∃ v, (w.setCell ⟨g, 1, none⟩ (.int .i64 k.read)).cell? ⟨g, 2, none⟩ = some v := by rw [cell_set_ne (by omega)]; exact hc 2 (by omega)
  have c7 : ∃ v, ((w.setCell ⟨g, 1, none⟩ (.int .i64 k.read)).setCell ⟨g, 2, none⟩ (.int .i64 k.state)).cell? ⟨g, 3, none⟩ = some v := by rw [cell_set_ne (by omega), cell_set_ne (by omega)]; exact hc 3 (by omega)
  have c8 : ∃ v, (((w.setCell ⟨g, 1, none⟩ (.int .i64 k.read)).setCell ⟨g, 2, none⟩ (.int .i64 k.state)).setCell ⟨g, 3, none⟩ (.slice A3 k.stack.length c3)).cell? ⟨g, 4, none⟩ = some v := by rw [cell_set_ne (by omega), cell_set_ne (by omega), cell_set_ne (by omega)]; exact hc 4 (by omega)
  refine h.turn1 ht (by omega) (by omega) k n.saved ⟨?_, ?_, ⟨A3, c3, ?_, h3.keep ints_good hs⟩, A4, c4, ?_, h4.keep ints_good hs⟩ (desk_turn h.saved RunD.not_g ht h1 (by omega))
  · rw [cell_set_ne (by omega), cell_set_ne (by omega), cell_set_ne (by omega)]
    exact set_at (hc 1 (by omega))
  · rw [cell_set_ne (by omega), cell_set_ne (by omega)]
    exact set_at c6
  · rw [cell_set_ne (by omega)]
    exact set_at c7
  · exact set_at c8
end
end Go.Proofs.YtcagdmaiemmfgaaGreat
