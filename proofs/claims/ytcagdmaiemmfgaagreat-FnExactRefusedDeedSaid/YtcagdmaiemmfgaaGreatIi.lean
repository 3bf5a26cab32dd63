/- The program's works behind their pointer: what stores do to them; for all valid streams. -/
import Derived.Test.YtcagdmaiemmfgaaGreatIh
import Derived.Test.YtcagdmaiemmfgaaGreatW
namespace Go.Proofs.YtcagdmaiemmfgaaGreat
open Go.RowKit

/-- The blocks that the works do not write. -/
def WorkD (w : World) (g : Nat) (A : Option Addr) (c : Nat) (A2 : Option Addr) (c2 : Nat) : Dom := fun k => k < w.heap.size ∧ k ≠ g ∧ ownB A c ≠ some k ∧ ownB A2 c2 ≠ some k
structure WorkS (B : Nat) (w : World) (g : Nat) (d : Chk) (p : List ByteArray) (n : PlantP) (A : Option Addr) (c : Nat) (A2 : Option Addr) (c2 : Nat) : Prop where
  lo : B ≤ g
  blk : ∃ cs : Array Value, w.heap[g]? = some (.cells cs 159 (0, 0)) ∧ cs.size = 16
  read : w.cell? ⟨g, 0, none⟩ = some (.int .i64 n.desk.read)
  state : w.cell? ⟨g, 1, none⟩ = some (.int .i64 n.desk.state)
  stack : ∃ A3 c3, w.cell? ⟨g, 2, none⟩ = some (.slice A3 n.desk.stack.length c3) ∧ Sl 1 (elInt .i64) (WorkD w g A c A2 c2) w A3 c3 n.desk.stack
  wait : w.cell? ⟨g, 3, none⟩ = some (.slice A2 n.desk.waiting.length c2)
  waitOwn : OwnSl 1 (elInt .i64) (WorkD w g A c A2 c2) w A2 c2 n.desk.waiting
  saved : elDesk (WorkD w g A c A2 c2) w g 4 n.saved
  wire : w.cell? ⟨g, 8, none⟩ = some (.slice A n.wire.length c)
  own : OwnSl 2 elParcel (WorkD w g A c A2 c2) w A c n.wire
  str : StrPtr (fun k => k < B) w g 9 d p
  ownLo : ∀ b, ownB A c = some b → B ≤ b ∧ b ≠ g
  ownLo2 : ∀ b, ownB A2 c2 = some b → B ≤ b ∧ b ≠ g ∧ ownB A c ≠ some b
section
variable {B : Nat} {w w' : World} {g : Nat} {d : Chk} {p : List ByteArray} {n : PlantP} {A : Option Addr} {c : Nat} {A2 : Option Addr} {c2 : Nat}
theorem WorkS.lt (h : WorkS B w g d p n A c A2 c2) : g < w.heap.size := lt_of_cell h.read
theorem WorkS.free (h : WorkS B w g d p n A c A2 c2) (j : Nat) : w.frozen? ⟨g, j, none⟩ = false := by
  obtain ⟨cs, h1, _⟩ := h.blk
  simp [World.frozen?, h1]
theorem WorkS.cell16 (h : WorkS B w g d p n A c A2 c2) {j : Nat} (hj : j < 16) : ∃ v, w.cell? ⟨g, j, none⟩ = some v := by
  obtain ⟨cs, h1, h2⟩ := h.blk
  exact ⟨cs[j], by simp [World.cell?, h1]⟩
/-- A new stretch of memory. -/
theorem WorkS.new (h : WorkS B w g d p n A c A2 c2) {w1 : World} {k : Nat} (hk : w.heap.size ≤ k) (hl : k < w1.heap.size) : WorkD w1 g A c A2 c2 k :=
  ⟨hl, by have := h.lt; omega, fun e => by have := (h.own.own e).1; omega, fun e => by have := (h.waitOwn.own e).1; omega⟩
/-- What a change of the works' own blocks leaves as it was. -/
theorem WorkS.core (h : WorkS B w g d p n A c A2 c2) {A' : Option Addr} {c' : Nat} {A2' : Option Addr} {c2' : Nat} (hsz : w.heap.size ≤ w'.heap.size) (hkeep : ∀ k, k < w.heap.size → k ≠ g → ownB A c ≠ some k → ownB A2 c2 ≠ some k → w'.heap[k]? = w.heap[k]?)
    (nA : ∀ b, ownB A' c' = some b → ownB A c = some b ∨ w.heap.size ≤ b) (nA2 : ∀ b, ownB A2' c2' = some b → ownB A2 c2 = some b ∨ w.heap.size ≤ b) (h9 : ∀ j, 9 ≤ j → w'.cell? ⟨g, j, none⟩ = w.cell? ⟨g, j, none⟩) :
    (∀ k, WorkD w g A c A2 c2 k → WorkD w' g A' c' A2' c2' k) ∧ Same (WorkD w g A c A2 c2) w w' ∧ StrPtr (fun k => k < B) w' g 9 d p := by
  refine ⟨fun k hk => ⟨Nat.lt_of_lt_of_le hk.1 hsz, hk.2.1, fun e => (nA k e).elim hk.2.2.1 fun e => by have := hk.1; omega, fun e => (nA2 k e).elim hk.2.2.2 fun e => by have := hk.1; omega⟩, fun k hk => hkeep k hk.1 hk.2.1 hk.2.2.1 hk.2.2.2, ?_⟩
  have hlo := h.lo
  have hlt := h.lt
  have hs : Same (fun k => k < B) w w' := fun k hk => hkeep k (by omega) (by omega) (fun e => by have := (h.ownLo k e).1; omega) fun e => by have := (h.ownLo2 k e).1; omega
  obtain ⟨⟨p0, p1, A0, c0, A1, c1, A3, c3, A4, c4, p2, p3, p4, p5, h5⟩, A5, c5, h6, h7⟩ := h.str
  exact ⟨⟨(h9 _ (by omega)).trans p0, (h9 _ (by omega)).trans p1, A0, c0, A1, c1, A3, c3, A4, c4, (h9 _ (by omega)).trans p2, (h9 _ (by omega)).trans p3, (h9 _ (by omega)).trans p4, (h9 _ (by omega)).trans p5, h5.keep hs⟩, A5, c5, (h9 _ (by omega)).trans h6, h7.keep elStr_good hs⟩
theorem WorkS.below (h : WorkS B w g d p n A c A2 c2) (hb : Below w.heap.size w w') : WorkS B w' g d p n A c A2 c2 := by
  have hg := hb.block g h.lt
  have hcell : ∀ j, w'.cell? ⟨g, j, none⟩ = w.cell? ⟨g, j, none⟩ := fun j => World.cell?_of_block (a := ⟨g, j, none⟩) hg
  obtain ⟨h1, h2, h3⟩ := h.core (w' := w') (A' := A) (c' := c) (A2' := A2) (c2' := c2) hb.size (fun k hk _ _ _ => hb.block k hk) (fun _ e => .inl e) (fun _ e => .inl e) (fun j _ => hcell j)
  obtain ⟨cs, b1, b2⟩ := h.blk
  obtain ⟨A3, c3, s1, s2⟩ := h.stack
  exact ⟨h.lo, ⟨cs, hg.trans b1, b2⟩, (hcell _).trans h.read, (hcell _).trans h.state, ⟨A3, c3, (hcell _).trans s1, (s2.keep ints_good h2).mono ints_good fun k hk _ => h1 k hk⟩, (hcell _).trans h.wait,
    (h.waitOwn.keep ints_good h2 hb.size fun b hb2 => hb.block b (h.waitOwn.own hb2).1).mono ints_good (fun k hk _ => h1 k hk) fun b hb2 hd => hd.2.2.2 hb2, elDesk_move h.saved (fun j _ => hcell _) h2 h1, (hcell _).trans h.wire,
    (h.own.keep elParcel_good h2 hb.size fun b hb2 => hb.block b (h.own.own hb2).1).mono elParcel_good (fun k hk _ => h1 k hk) fun b hb2 hd => hd.2.2.1 hb2, h3, h.ownLo, h.ownLo2⟩
/-- Other numbers wait, in an array of the works' own. -/
theorem WorkS.turnWait (h : WorkS B w g d p n A c A2 c2) {ws : List Int} (hl : ws.length = n.desk.waiting.length) (hk : ∀ k, k < w.heap.size → ownB A2 c2 ≠ some k → w'.heap[k]? = w.heap[k]?) (hsz : w.heap.size ≤ w'.heap.size)
    (hown : OwnSl 1 (elInt .i64) (WorkD w g A c A2 c2) w' A2 c2 ws) : WorkS B w' g d p ⟨⟨n.desk.read, n.desk.state, n.desk.stack, ws⟩, n.saved, n.wire⟩ A c A2 c2 := by
  have hg := hk g h.lt fun e => (h.ownLo2 g e).2.1 rfl
  have hcell : ∀ j, w'.cell? ⟨g, j, none⟩ = w.cell? ⟨g, j, none⟩ := fun j => World.cell?_of_block (a := ⟨g, j, none⟩) hg
  obtain ⟨h1, h2, h3⟩ := h.core (w' := w') (A' := A) (c' := c) (A2' := A2) (c2' := c2) hsz (fun k hk2 _ _ h4 => hk k hk2 h4) (fun _ e => .inl e) (fun _ e => .inl e) (fun j _ => hcell j)
  obtain ⟨cs, b1, b2⟩ := h.blk
  obtain ⟨A3, c3, s1, s2⟩ := h.stack
  exact ⟨h.lo, ⟨cs, hg.trans b1, b2⟩, (hcell _).trans h.read, (hcell _).trans h.state, ⟨A3, c3, (hcell _).trans s1, (s2.keep ints_good h2).mono ints_good fun k hk _ => h1 k hk⟩, by rw [hcell, h.wait, hl],
    hown.mono ints_good (fun k hk _ => h1 k hk) fun b hb2 hd => hd.2.2.2 hb2, elDesk_move h.saved (fun j _ => hcell _) h2 h1, (hcell _).trans h.wire,
    (h.own.keep elParcel_good h2 hsz fun b hb2 => hk b (h.own.own hb2).1 fun e => (h.ownLo2 b e).2.2 hb2).mono elParcel_good (fun k hk _ => h1 k hk) fun b hb2 hd => hd.2.2.1 hb2, h3, h.ownLo, h.ownLo2⟩
/-- The waiting numbers' slice is stored anew. -/
theorem WorkS.putWait (h : WorkS B w g d p n A c A2 c2) {A2' : Option Addr} {c2' : Nat} {ws : List Int} (hk : ∀ k, k < w.heap.size → ownB A2 c2 ≠ some k → w'.heap[k]? = w.heap[k]?) (hsz : w.heap.size ≤ w'.heap.size)
    (hown : OwnSl 1 (elInt .i64) (WorkD w g A c A2 c2) w' A2' c2' ws) (hor : ∀ b, ownB A2' c2' = some b → ownB A2 c2 = some b ∨ w.heap.size ≤ b) :
    WorkS B (w'.setCell ⟨g, 3, none⟩ (.slice A2' ws.length c2')) g d p ⟨⟨n.desk.read, n.desk.state, n.desk.stack, ws⟩, n.saved, n.wire⟩ A c A2' c2' := by
  have hg := hk g h.lt fun e => (h.ownLo2 g e).2.1 rfl
  have ht := turned_set w' g 3 (.slice A2' ws.length c2')
  have hcell : ∀ j, j ≠ 3 → (w'.setCell ⟨g, 3, none⟩ (.slice A2' ws.length c2')).cell? ⟨g, j, none⟩ = w.cell? ⟨g, j, none⟩ := fun j hj => by
    rw [cell_set_ne hj]
    exact World.cell?_of_block (a := ⟨g, j, none⟩) hg
  have hsz2 : w.heap.size ≤ (w'.setCell ⟨g, 3, none⟩ (.slice A2' ws.length c2')).heap.size := by rw [ht.2.1]; exact hsz
  obtain ⟨h1, h2, h3⟩ := h.core (w' := w'.setCell ⟨g, 3, none⟩ (.slice A2' ws.length c2')) (A' := A) (c' := c) (A2' := A2') (c2' := c2') hsz2 (fun k hk2 hne _ h4 => (ht.1 k hne).trans (hk k hk2 h4)) (fun _ e => .inl e) hor (fun j hj => hcell j (by omega))
  have hlo2 : ∀ b, ownB A2' c2' = some b → B ≤ b ∧ b ≠ g ∧ ownB A c ≠ some b := fun b hb => (hor b hb).elim (h.ownLo2 b) fun hb2 => by
    have := h.lo
    have := h.lt
    exact ⟨by omega, by omega, fun e => by have := (h.own.own e).1; omega⟩
  obtain ⟨cs, b1, b2⟩ := h.blk
  obtain ⟨cs', k1, k2, _⟩ := ht.2.2 cs _ (hg.trans b1)
  obtain ⟨A3, c3, s1, s2⟩ := h.stack
  refine ⟨h.lo, ⟨cs', k1, k2.trans b2⟩, (hcell _ (by omega)).trans h.read, (hcell _ (by omega)).trans h.state, ⟨A3, c3, (hcell _ (by omega)).trans s1, (s2.keep ints_good h2).mono ints_good fun k hk _ => h1 k hk⟩, ?_, ?_, elDesk_move h.saved (fun j _ => hcell _ (by omega)) h2 h1, (hcell _ (by omega)).trans h.wire, ?_, h3, h.ownLo, hlo2⟩
  · refine set_at ⟨cs[3], ?_⟩
    rw [World.cell?_of_block (a := ⟨g, 3, none⟩) hg]
    simp [World.cell?, b1]
  · exact (hown.keep ints_good (fun k hk2 => ht.1 k hk2.2.1) (Nat.le_of_eq ht.2.1.symm) fun b hb => ht.1 b (hlo2 b hb).2.1).mono ints_good (fun k hk2 _ => h1 k hk2) fun b hb hd2 => hd2.2.2.2 hb
  · exact (h.own.keep elParcel_good h2 hsz2 fun b hb => (ht.1 b (h.ownLo b hb).2).trans (hk b (h.own.own hb).1 fun e => (h.ownLo2 b e).2.2 hb)).mono elParcel_good (fun k hk _ => h1 k hk) fun b hb2 hd => hd.2.2.1 hb2
/-- The wire's slice is stored anew. -/
theorem WorkS.putWire (h : WorkS B w g d p n A c A2 c2) {A' : Option Addr} {c' : Nat} {ws : List ParcelP} (hk : ∀ k, k < w.heap.size → ownB A c ≠ some k → w'.heap[k]? = w.heap[k]?) (hsz : w.heap.size ≤ w'.heap.size)
    (hown : OwnSl 2 elParcel (WorkD w g A c A2 c2) w' A' c' ws) (hor : ∀ b, ownB A' c' = some b → ownB A c = some b ∨ w.heap.size ≤ b) :
    WorkS B (w'.setCell ⟨g, 8, none⟩ (.slice A' ws.length c')) g d p ⟨n.desk, n.saved, ws⟩ A' c' A2 c2 := by
  have hg := hk g h.lt fun e => (h.ownLo g e).2 rfl
  have ht := turned_set w' g 8 (.slice A' ws.length c')
  have hcell : ∀ j, j ≠ 8 → (w'.setCell ⟨g, 8, none⟩ (.slice A' ws.length c')).cell? ⟨g, j, none⟩ = w.cell? ⟨g, j, none⟩ := fun j hj => by
    rw [cell_set_ne hj]
    exact World.cell?_of_block (a := ⟨g, j, none⟩) hg
  have hsz2 : w.heap.size ≤ (w'.setCell ⟨g, 8, none⟩ (.slice A' ws.length c')).heap.size := by rw [ht.2.1]; exact hsz
  obtain ⟨h1, h2, h3⟩ := h.core (w' := w'.setCell ⟨g, 8, none⟩ (.slice A' ws.length c')) (A' := A') (c' := c') (A2' := A2) (c2' := c2) hsz2 (fun k hk2 hne h4 _ => (ht.1 k hne).trans (hk k hk2 h4)) hor (fun _ e => .inl e) (fun j hj => hcell j (by omega))
  have hlo : ∀ b, ownB A' c' = some b → B ≤ b ∧ b ≠ g := fun b hb => (hor b hb).elim (h.ownLo b) fun hb2 => by
    have := h.lo
    have := h.lt
    exact ⟨by omega, by omega⟩
  obtain ⟨cs, b1, b2⟩ := h.blk
  obtain ⟨cs', k1, k2, _⟩ := ht.2.2 cs _ (hg.trans b1)
  obtain ⟨A3, c3, s1, s2⟩ := h.stack
  refine ⟨h.lo, ⟨cs', k1, k2.trans b2⟩, (hcell _ (by omega)).trans h.read, (hcell _ (by omega)).trans h.state, ⟨A3, c3, (hcell _ (by omega)).trans s1, (s2.keep ints_good h2).mono ints_good fun k hk _ => h1 k hk⟩, (hcell _ (by omega)).trans h.wait, ?_, elDesk_move h.saved (fun j _ => hcell _ (by omega)) h2 h1, ?_, ?_, h3, hlo, fun b hb => ⟨(h.ownLo2 b hb).1, (h.ownLo2 b hb).2.1, fun e => (hor b e).elim (h.ownLo2 b hb).2.2 fun e => by have := (h.waitOwn.own hb).1; omega⟩⟩
  · exact (h.waitOwn.keep ints_good h2 hsz2 fun b hb => (ht.1 b (h.ownLo2 b hb).2.1).trans (hk b (h.waitOwn.own hb).1 fun e => (h.ownLo2 b hb).2.2 e)).mono ints_good (fun k hk _ => h1 k hk) fun b hb2 hd => hd.2.2.2 hb2
  · refine set_at ⟨cs[8], ?_⟩
    rw [World.cell?_of_block (a := ⟨g, 8, none⟩) hg]
    simp [World.cell?, b1]
  · exact (hown.keep elParcel_good (fun k hk2 => ht.1 k hk2.2.1) (Nat.le_of_eq ht.2.1.symm) fun b hb => ht.1 b (hlo b hb).2).mono elParcel_good (fun k hk2 _ => h1 k hk2) fun b hb hd2 => hd2.2.2.1 hb
/-- Stores into the works' block alone, below the wire: what stands elsewhere stays. -/
theorem WorkS.turn (h : WorkS B w g d p n A c A2 c2) {o sz : Nat} (ht : Turned w w' g o sz) (ho : o + sz ≤ 8) (k1 k2 : DeskP) {A2' : Option Addr} {c2' : Nat}
    (hr : w'.cell? ⟨g, 0, none⟩ = some (.int .i64 k1.read)) (hst : w'.cell? ⟨g, 1, none⟩ = some (.int .i64 k1.state)) (hsk : ∃ A3 c3, w'.cell? ⟨g, 2, none⟩ = some (.slice A3 k1.stack.length c3) ∧ Sl 1 (elInt .i64) (WorkD w g A c A2' c2') w A3 c3 k1.stack)
    (hwt : w'.cell? ⟨g, 3, none⟩ = some (.slice A2' k1.waiting.length c2')) (hown : OwnSl 1 (elInt .i64) (WorkD w g A c A2' c2') w A2' c2' k1.waiting) (hsv : elDesk (WorkD w g A c A2' c2') w' g 4 k2) (hW : OwnSl 2 elParcel (WorkD w g A c A2' c2') w A c n.wire) (hlo2 : ∀ b, ownB A2' c2' = some b → B ≤ b ∧ b ≠ g ∧ ownB A c ≠ some b) :
    WorkS B w' g d p ⟨k1, k2, n.wire⟩ A c A2' c2' := by
  obtain ⟨cs, b1, b2⟩ := h.blk
  obtain ⟨cs', q1, q2, _⟩ := ht.2.2 cs _ b1
  have hz : w'.heap.size = w.heap.size := ht.2.1
  have he : WorkD w' g A c A2' c2' = WorkD w g A c A2' c2' := by unfold WorkD; rw [hz]
  have hs : Same (WorkD w g A c A2' c2') w w' := fun k hk => ht.1 k hk.2.1
  have hcell : ∀ j, o + sz ≤ j → w'.cell? ⟨g, j, none⟩ = w.cell? ⟨g, j, none⟩ := fun j hj => ht.cell b1 (.inr hj)
  obtain ⟨_, _, h3⟩ := h.core (w' := w') (A' := A) (c' := c) (A2' := A2) (c2' := c2) (Nat.le_of_eq hz.symm) (fun k _ hne _ _ => ht.1 k hne) (fun _ e => .inl e) (fun _ e => .inl e) (fun j hj => hcell j (by omega))
  obtain ⟨A3, c3, s1, s2⟩ := hsk
  refine ⟨h.lo, ⟨cs', q1, q2.trans b2⟩, hr, hst, ⟨A3, c3, s1, he ▸ s2.keep ints_good hs⟩, hwt, ?_, he ▸ hsv, (hcell _ (by omega)).trans h.wire, ?_, h3, h.ownLo, hlo2⟩
  · exact he ▸ hown.keep ints_good hs (Nat.le_of_eq hz.symm) fun b hb => ht.1 b (hlo2 b hb).2.1
  · exact he ▸ hW.keep elParcel_good hs (Nat.le_of_eq hz.symm) fun b hb => ht.1 b (h.ownLo b hb).2
theorem wdesk_turn {D : Dom} {o k sz : Nat} {x : DeskP} {cs : Array Value} {t : TypeId} (h : elDesk D w g k x) (hD : ¬ D g) (ht : Turned w w' g o sz) (hc : w.heap[g]? = some (.cells cs t (0, 0))) (hk : k + 4 ≤ o ∨ o + sz ≤ k) : elDesk D w' g k x := desk_turn h hD ht hc hk
theorem WorkD.not_g : ¬ WorkD w g A c A2 c2 g := fun h => h.2.1 rfl
theorem WorkS.setRead (h : WorkS B w g d p n A c A2 c2) (r : Int) : WorkS B (w.setCell ⟨g, 0, none⟩ (.int .i64 r)) g d p ⟨⟨r, n.desk.state, n.desk.stack, n.desk.waiting⟩, n.saved, n.wire⟩ A c A2 c2 := by
  obtain ⟨cs, h1, h2⟩ := h.blk
  have ht := turned_set w g 0 (.int .i64 r)
  obtain ⟨A3, c3, s1, s2⟩ := h.stack
  exact h.turn ht (by omega) ⟨r, n.desk.state, n.desk.stack, n.desk.waiting⟩ n.saved (set_at ⟨_, h.read⟩) ((ht.cell h1 (by omega)).trans h.state) ⟨A3, c3, (ht.cell h1 (by omega)).trans s1, s2⟩ ((ht.cell h1 (by omega)).trans h.wait) h.waitOwn (desk_turn h.saved WorkD.not_g ht h1 (by omega)) h.own h.ownLo2
theorem WorkS.setBoth (h : WorkS B w g d p n A c A2 c2) (s : Int) {A3 : Option Addr} {c3 : Nat} {st : List Int} (h3 : Sl 1 (elInt .i64) (WorkD w g A c A2 c2) w A3 c3 st) :
    WorkS B ((w.setCell ⟨g, 1, none⟩ (.int .i64 s)).setCell ⟨g, 2, none⟩ (.slice A3 st.length c3)) g d p ⟨⟨n.desk.read, s, st, n.desk.waiting⟩, n.saved, n.wire⟩ A c A2 c2 := by
  obtain ⟨cs, h1, h2⟩ := h.blk
  have ht := (turned_set w g 1 (.int .i64 s)).more (turned_set _ g 2 (.slice A3 st.length c3))
  obtain ⟨A4, c4, s1, s2⟩ := h.stack
  refine h.turn ht (by omega) ⟨n.desk.read, s, st, n.desk.waiting⟩ n.saved ((ht.cell h1 (by omega)).trans h.read) ?_ ⟨A3, c3, ?_, h3⟩ ((ht.cell h1 (by omega)).trans h.wait) h.waitOwn (desk_turn h.saved WorkD.not_g ht h1 (by omega)) h.own h.ownLo2
  · rw [cell_set_ne (by omega)]
    exact set_at ⟨_, h.state⟩
  · exact set_at ⟨.slice A4 n.desk.stack.length c4, by rw [cell_set_ne (by omega)]; exact s1⟩
theorem WorkS.putSaved (h : WorkS B w g d p n A c A2 c2) (k : DeskP) {A3 : Option Addr} {c3 : Nat} {A4 : Option Addr} {c4 : Nat} (h3 : Sl 1 (elInt .i64) (WorkD w g A c A2 c2) w A3 c3 k.stack) (h4 : Sl 1 (elInt .i64) (WorkD w g A c A2 c2) w A4 c4 k.waiting) :
    WorkS B ((((w.setCell ⟨g, 4, none⟩ (.int .i64 k.read)).setCell ⟨g, 5, none⟩ (.int .i64 k.state)).setCell ⟨g, 6, none⟩ (.slice A3 k.stack.length c3)).setCell ⟨g, 7, none⟩ (.slice A4 k.waiting.length c4)) g d p ⟨n.desk, k, n.wire⟩ A c A2 c2 := by
  obtain ⟨cs, h1, h2⟩ := h.blk
  have ht := (((turned_set w g 4 (.int .i64 k.read)).more (turned_set _ g 5 (.int .i64 k.state))).more (turned_set _ g 6 (.slice A3 k.stack.length c3))).more (turned_set _ g 7 (.slice A4 k.waiting.length c4))
  have hs : Same (WorkD w g A c A2 c2) w ((((w.setCell ⟨g, 4, none⟩ (.int .i64 k.read)).setCell ⟨g, 5, none⟩ (.int .i64 k.state)).setCell ⟨g, 6, none⟩ (.slice A3 k.stack.length c3)).setCell ⟨g, 7, none⟩ (.slice A4 k.waiting.length c4)) := fun b hb => ht.1 b hb.2.1
  have c5 : ∃ v, (w.setCell ⟨g, 4, none⟩ (.int .i64 k.read)).cell? ⟨g, 5, none⟩ = some v := by rw [cell_set_ne (by omega)]; exact h.cell16 (by omega)
  have c6 : ∃ v, ((w.setCell ⟨g, 4, none⟩ (.int .i64 k.read)).setCell ⟨g, 5, none⟩ (.int .i64 k.state)).cell? ⟨g, 6, none⟩ = some v := by rw [cell_set_ne (by omega), cell_set_ne (by omega)]; exact h.cell16 (by omega)
  have c7 : ∃ v, (((w.setCell ⟨g, 4, none⟩ (.int .i64 k.read)).setCell ⟨g, 5, none⟩ (.int .i64 k.state)).setCell ⟨g, 6, none⟩ (.slice A3 k.stack.length c3)).cell? ⟨g, 7, none⟩ = some v := by rw [cell_set_ne (by omega), cell_set_ne (by omega), cell_set_ne (by omega)]; exact h.cell16 (by omega)
  obtain ⟨A5, c5', s1, s2⟩ := h.stack
  refine h.turn ht (by omega) n.desk k ((ht.cell h1 (by omega)).trans h.read) ((ht.cell h1 (by omega)).trans h.state) ⟨A5, c5', (ht.cell h1 (by omega)).trans s1, s2⟩ ((ht.cell h1 (by omega)).trans h.wait) h.waitOwn ⟨?_, ?_, ⟨A3, c3, ?_, h3.keep ints_good hs⟩, A4, c4, ?_, h4.keep ints_good hs⟩ h.own h.ownLo2
  · rw [cell_set_ne (by omega), cell_set_ne (by omega), cell_set_ne (by omega)]
    exact set_at (h.cell16 (by omega))
  · rw [cell_set_ne (by omega), cell_set_ne (by omega)]
    exact set_at c5
  · rw [cell_set_ne (by omega)]
    exact set_at c6
  · exact set_at c7
theorem OwnSl.own_mono {α : Type} {sz : Nat} {e : El α} {D D' : Dom} {xs : List α} (ge : El.Good sz e) (h : OwnSl sz e D w A c xs) (hd : ∀ k, D k → k < w.heap.size → D' k) (hb : ∀ b, ownB A c = some b → ¬ D' b) : OwnSl sz e D' w A c xs := h.mono ge hd hb
/-- Both desks anew: the waiting numbers lie in a new array. -/
theorem WorkS.putDesk (h : WorkS B w g d p n A c A2 c2) (k : DeskP) {A3 : Option Addr} {c3 : Nat} {A4 : Option Addr} {c4 : Nat} (h3 : Sl 1 (elInt .i64) (WorkD w g A c A4 c4) w A3 c3 k.stack) (h4 : OwnSl 1 (elInt .i64) (WorkD w g A c A4 c4) w A4 c4 k.waiting)
    (hsv : elDesk (WorkD w g A c A4 c4) w g 4 n.saved) (hW : OwnSl 2 elParcel (WorkD w g A c A4 c4) w A c n.wire) (hlo2 : ∀ b, ownB A4 c4 = some b → B ≤ b ∧ b ≠ g ∧ ownB A c ≠ some b) :
    WorkS B ((((w.setCell ⟨g, 0, none⟩ (.int .i64 k.read)).setCell ⟨g, 1, none⟩ (.int .i64 k.state)).setCell ⟨g, 2, none⟩ (.slice A3 k.stack.length c3)).setCell ⟨g, 3, none⟩ (.slice A4 k.waiting.length c4)) g d p ⟨k, n.saved, n.wire⟩ A c A4 c4 := by
  obtain ⟨cs, h1, h2⟩ := h.blk
  have ht := (((turned_set w g 0 (.int .i64 k.read)).more (turned_set _ g 1 (.int .i64 k.state))).more (turned_set _ g 2 (.slice A3 k.stack.length c3))).more (turned_set _ g 3 (.slice A4 k.waiting.length c4))
  have c5 : ∃ v, (w.setCell ⟨g, 0, none⟩ (.int .i64 k.read)).cell? ⟨g, 1, none⟩ = some v := by rw [cell_set_ne (by omega)]; exact h.cell16 (by omega)
  have c6 : ∃ v, ((w.setCell ⟨g, 0, none⟩ (.int .i64 k.read)).setCell ⟨g, 1, none⟩ (.int .i64 k.state)).cell? ⟨g, 2, none⟩ = some v := by rw [cell_set_ne (by omega), cell_set_ne (by omega)]; exact h.cell16 (by omega)
  have c7 : ∃ v, (((w.setCell ⟨g, 0, none⟩ (.int .i64 k.read)).setCell ⟨g, 1, none⟩ (.int .i64 k.state)).setCell ⟨g, 2, none⟩ (.slice A3 k.stack.length c3)).cell? ⟨g, 3, none⟩ = some v := by rw [cell_set_ne (by omega), cell_set_ne (by omega), cell_set_ne (by omega)]; exact h.cell16 (by omega)
  refine h.turn ht (by omega) k n.saved ?_ ?_ ⟨A3, c3, ?_, h3⟩ ?_ h4 (desk_turn hsv WorkD.not_g ht h1 (by omega)) hW hlo2
  · rw [cell_set_ne (by omega), cell_set_ne (by omega), cell_set_ne (by omega)]
    exact set_at (h.cell16 (by omega))
  · rw [cell_set_ne (by omega), cell_set_ne (by omega)]
    exact set_at c5
  · rw [cell_set_ne (by omega)]
    exact set_at c6
  · exact set_at c7
/-- Numbers of the call's own may be written from anywhere on. -/
theorem OwnI.own {base : Nat} {T : TypeId} {D : Dom} {xs : List Int} {m : Nat} (h : OwnI base T w (.slice A m c) xs) (hD : ∀ k, base ≤ k → k < w.heap.size → ¬ D k) : OwnSl 1 (elInt .i64) D w A c xs := by
  obtain ⟨A', c', e, hs⟩ := h.sl
  simp only [Value.slice.injEq] at e
  obtain ⟨rfl, rfl, rfl⟩ := e
  refine ⟨hs.1, hs.2.1, fun hc => ?_⟩
  rcases h.2 with ⟨h0, _⟩ | ⟨b, cap, cur, e, hb, hh, hn, hm, hz, ht⟩
  · simp only [Value.slice.injEq] at h0
    omega
  · simp only [Value.slice.injEq] at e
    obtain ⟨rfl, _, rfl⟩ := e
    have hlt : b < w.heap.size := (Array.getElem?_eq_some_iff.1 hh).1
    refine ⟨b, 0, rfl, hlt, hD b hb hlt, fun i x hx => ?_, fun j hj => ?_⟩
    · obtain ⟨b', o', ha, _, hx2⟩ := hs.2.2 (by have := (List.getElem?_eq_some_iff.1 hx).1; omega)
      simp only [Option.some.injEq, Addr.mk.injEq, and_true] at ha
      obtain ⟨rfl, rfl⟩ := ha
      exact hx2 i x hx
    · have hj2 : 0 + j < cur.size := by omega
      refine ⟨?_, ?_⟩
      · simp [World.cell?, hh]; omega
      · simp [World.frozen?, hh]
end
end Go.Proofs.YtcagdmaiemmfgaaGreat
