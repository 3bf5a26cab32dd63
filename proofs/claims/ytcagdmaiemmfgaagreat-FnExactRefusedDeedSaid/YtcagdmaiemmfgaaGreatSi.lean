/- The reference's run behind its pointer, and its beginning; for all valid streams. -/
import Derived.Test.YtcagdmaiemmfgaaGreatSh
namespace Go.Proofs.YtcagdmaiemmfgaaGreat
open Go.RowKit

/-- The blocks that a run does not write. -/
def RunD (X : Dom) (w : World) (g : Nat) (A : Option Addr) (c : Nat) : Dom := fun k => k < w.heap.size ∧ k ≠ g ∧ ownB A c ≠ some k ∧ ¬ X k
structure RunS (X : Dom) (B : Nat) (w : World) (g vb vo : Nat) (n : PlantP) (A : Option Addr) (c : Nat) : Prop where
  lo : B ≤ g
  blk : ∃ cs : Array Value, w.heap[g]? = some (.cells cs 147 (0, 0)) ∧ cs.size = 10
  ptr : w.cell? ⟨g, 0, none⟩ = some (.pointer (some ⟨vb, vo, none⟩))
  desk : elDesk (RunD X w g A c) w g 1 n.desk
  saved : elDesk (RunD X w g A c) w g 5 n.saved
  wire : w.cell? ⟨g, 9, none⟩ = some (.slice A n.wire.length c)
  own : OwnSl 2 elParcel (RunD X w g A c) w A c n.wire
  ownLo : ∀ b, ownB A c = some b → B ≤ b ∧ b ≠ g
  xr : ∀ k, X k → B ≤ k ∧ k < w.heap.size ∧ k ≠ g ∧ ownB A c ≠ some k
theorem RunS.lt {X : Dom} {B : Nat} {w : World} {g vb vo : Nat} {n : PlantP} {A : Option Addr} {c : Nat} (h : RunS X B w g vb vo n A c) : g < w.heap.size := lt_of_cell h.ptr
theorem RunD.mono {X : Dom} {w w' : World} {g : Nat} {A : Option Addr} {c : Nat} (h : w.heap.size ≤ w'.heap.size) : ∀ k, RunD X w g A c k → k < w.heap.size → RunD X w' g A c k := fun _ hk _ => ⟨Nat.lt_of_lt_of_le hk.1 h, hk.2⟩
theorem elDesk_below {D D' : Dom} {w w' : World} {b o : Nat} {k : DeskP} (h : elDesk D w b o k) (hb : Below w.heap.size w w') (hd : ∀ k, D k → k < w.heap.size → D' k) : elDesk D' w' b o k := by
  obtain ⟨h0, h1, ⟨A, c, h2, h3⟩, A', c', h4, h5⟩ := h
  have hc := (bcell hb (Nat.le_refl _)).1
  have hl := lt_of_cell h0
  exact ⟨(hc _ _ hl).trans h0, (hc _ _ hl).trans h1, ⟨A, c, (hc _ _ hl).trans h2, (h3.mono ints_good (D' := fun k => D' k ∧ k < w.heap.size) fun k hk hl => ⟨hd k hk hl, hl⟩).keep ints_good (fun k hk => hb.block k hk.2) |>.mono ints_good fun _ h _ => h.1⟩,
    A', c', (hc _ _ hl).trans h4, (h5.mono ints_good (D' := fun k => D' k ∧ k < w.heap.size) fun k hk hl => ⟨hd k hk hl, hl⟩).keep ints_good (fun k hk => hb.block k hk.2) |>.mono ints_good fun _ h _ => h.1⟩
/-- Behind a call that writes nothing old. -/
theorem RunS.below {X : Dom} {B : Nat} {w w' : World} {g vb vo : Nat} {n : PlantP} {A : Option Addr} {c : Nat} (h : RunS X B w g vb vo n A c) (hb : Below w.heap.size w w') : RunS X B w' g vb vo n A c := by
  have hc := (bcell hb (Nat.le_refl _)).1
  have hl := h.lt
  refine ⟨h.lo, ?_, (hc _ _ hl).trans h.ptr, elDesk_below h.desk hb (RunD.mono hb.size), elDesk_below h.saved hb (RunD.mono hb.size), (hc _ _ hl).trans h.wire, ?_, h.ownLo, fun k hk => ⟨(h.xr k hk).1, Nat.lt_of_lt_of_le (h.xr k hk).2.1 hb.size, (h.xr k hk).2.2⟩⟩
  · obtain ⟨cs, h1, h2⟩ := h.blk
    exact ⟨cs, (hb.block g hl).trans h1, h2⟩
  · refine OwnSl.mono elParcel_good (OwnSl.keep elParcel_good h.own (fun k hk => hb.block k hk.1) hb.size fun b h2 => hb.block b (h.own.own h2).1) (fun k hk _ => ⟨Nat.lt_of_lt_of_le hk.1 hb.size, hk.2⟩) fun b h2 hd => hd.2.2.1 h2
set_option maxHeartbeats 1000000 in
theorem l08Begin_c (D : Dom) (b o : Nat) (d : Chk) (p : List ByteArray) (w : World) (hp : StrPtr D w b o d p) :
    Calls Tryz.prog 166 #[.pointer (some ⟨b, o, none⟩)] w fun e w' => ∃ g, e = .returned (.pointer (some ⟨g, 0, none⟩)) ∧ RunS (fun _ => False) w.heap.size w' g b o (begin_ d) none 0 ∧ Below w.heap.size w w' := by
  obtain ⟨⟨_, p1, _⟩, _⟩ := hp
  go_enter Tryz.func166, Tryz.ntmps166
  go_wp2_with fail
  obtain ⟨W, hW⟩ : ∃ W, W = w.alloc (.cells #[.int .i64 0, .int .i64 d.start, .slice none 0 0, .slice none 0 0] 80) := ⟨_, rfl⟩
  have hs : W.heap.size = w.heap.size + 1 := by rw [hW]; simp
  rw [← hW, ← hs]
  go_ret
  have hc : ∀ j, (W.alloc (.cells #[.pointer (some ⟨b, o, none⟩), .int .i64 0, .int .i64 d.start, .slice none 0 0, .slice none 0 0, .int .i64 0, .int .i64 d.start, .slice none 0 0, .slice none 0 0, .slice none 0 0] 147)).cell? ⟨W.heap.size, j, none⟩ = (#[.pointer (some ⟨b, o, none⟩), .int .i64 0, .int .i64 d.start, .slice none 0 0, .slice none 0 0, .int .i64 0, .int .i64 d.start, .slice none 0 0, .slice none 0 0, .slice none 0 0] : Array Value)[j]? := fun j => cell_new _ _ _ _
  refine ⟨W.heap.size, rfl, ⟨by omega, ⟨_, heap_alloc_new _ _, rfl⟩, hc 0, desk_none _ _ _ _ _ (hc 1) (hc 2) (hc 3) (hc 4), desk_none _ _ _ _ _ (hc 5) (hc 6) (hc 7) (hc 8), hc 9, OwnSl.nil, (fun b h => by rw [ownB_zero] at h; cases h), fun k hk => hk.elim⟩, ?_⟩
  exact Below.trans (b := W) (hW ▸ bel1 w _) ((bel1 _ _).mono (by omega))
end Go.Proofs.YtcagdmaiemmfgaaGreat
