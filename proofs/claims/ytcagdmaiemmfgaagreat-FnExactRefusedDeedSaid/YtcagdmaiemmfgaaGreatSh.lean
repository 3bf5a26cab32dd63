/- The reference's run in memory: a desk, parcels, the run behind its pointer; its helpers; for all valid streams. -/
import Derived.Test.YtcagdmaiemmfgaaGreatSg
namespace Go.Proofs.YtcagdmaiemmfgaaGreat
open Go.RowKit

def elDesk : El DeskP := fun D w b o k => w.cell? ⟨b, o, none⟩ = some (.int .i64 k.read) ∧ w.cell? ⟨b, o + 1, none⟩ = some (.int .i64 k.state) ∧
  (∃ A c, w.cell? ⟨b, o + 2, none⟩ = some (.slice A k.stack.length c) ∧ Sl 1 (elInt .i64) D w A c k.stack) ∧ ∃ A c, w.cell? ⟨b, o + 3, none⟩ = some (.slice A k.waiting.length c) ∧ Sl 1 (elInt .i64) D w A c k.waiting
def elParcel : El ParcelP := fun D w b o q => w.cell? ⟨b, o, none⟩ = some (.int .i64 q.first) ∧ ∃ A c, w.cell? ⟨b, o + 1, none⟩ = some (.slice A q.texts.length c) ∧ Sl 1 elStr D w A c q.texts
theorem elDesk_good : El.Good 4 elDesk :=
  ⟨by omega, fun hc hs h => by
      obtain ⟨h0, h1, ⟨A, c, h2, h3⟩, A', c', h4, h5⟩ := h
      exact ⟨(hc 0 (by omega)).trans h0, (hc 1 (by omega)).trans h1, ⟨A, c, (hc 2 (by omega)).trans h2, h3.keep ints_good hs⟩, A', c', (hc 3 (by omega)).trans h4, h5.keep ints_good hs⟩,
    fun hd h => by
      obtain ⟨h0, h1, ⟨A, c, h2, h3⟩, A', c', h4, h5⟩ := h
      exact ⟨h0, h1, ⟨A, c, h2, h3.mono ints_good hd⟩, A', c', h4, h5.mono ints_good hd⟩,
    fun h j hj => by
      obtain ⟨h0, h1, ⟨A, c, h2, h3⟩, A', c', h4, h5⟩ := h
      rcases (show j = 0 ∨ j = 1 ∨ j = 2 ∨ j = 3 by omega) with rfl | rfl | rfl | rfl
      · exact ⟨_, h0⟩
      · exact ⟨_, h1⟩
      · exact ⟨_, h2⟩
      · exact ⟨_, h4⟩⟩
theorem elParcel_good : El.Good 2 elParcel :=
  ⟨by omega, fun hc hs h => by
      obtain ⟨h0, A, c, h2, h3⟩ := h
      exact ⟨(hc 0 (by omega)).trans h0, A, c, (hc 1 (by omega)).trans h2, h3.keep elStr_good hs⟩,
    fun hd h => by
      obtain ⟨h0, A, c, h2, h3⟩ := h
      exact ⟨h0, A, c, h2, h3.mono elStr_good hd⟩,
    fun h j hj => by
      obtain ⟨h0, A, c, h2, h3⟩ := h
      rcases (show j = 0 ∨ j = 1 by omega) with rfl | rfl
      · exact ⟨_, h0⟩
      · exact ⟨_, h2⟩⟩
theorem elParcel_one : El.One 2 elParcel := fun D w b o q h j hj v hv => by
  obtain ⟨h0, A, c, h2, h3⟩ := h
  rcases (show j = 0 ∨ j = 1 by omega) with rfl | rfl
  · have : some v = _ := hv.symm.trans h0
    injection this with this
    subst this
    rfl
  · have : some v = _ := hv.symm.trans h2
    injection this with this
    subst this
    rfl
theorem elStr_one : El.One 1 elStr := fun _ _ _ _ _ h j hj v hv => by
  obtain rfl := j_zero hj
  have : some v = _ := hv.symm.trans h.1
  injection this with this
  subst this
  rfl
theorem desk_none (D : Dom) (w : World) (b o : Nat) (s : Int) (h0 : w.cell? ⟨b, o, none⟩ = some (.int .i64 0)) (h1 : w.cell? ⟨b, o + 1, none⟩ = some (.int .i64 s)) (h2 : w.cell? ⟨b, o + 2, none⟩ = some (.slice none 0 0)) (h3 : w.cell? ⟨b, o + 3, none⟩ = some (.slice none 0 0)) : elDesk D w b o ⟨0, s, [], []⟩ :=
  ⟨h0, h1, ⟨none, 0, h2, Sl.nil⟩, none, 0, h3, Sl.nil⟩
/-- A desk handed back by value. -/
def RetDesk (w : World) (k : DeskP) (e : Ending) (w' : World) : Prop :=
  ∃ A c A' c', e = .returned (.agg #[.int .i64 k.read, .int .i64 k.state, .slice A k.stack.length c, .slice A' k.waiting.length c']) ∧ Sl 1 (elInt .i64) (fun b => w.heap.size ≤ b) w' A c k.stack ∧ Sl 1 (elInt .i64) (fun b => w.heap.size ≤ b) w' A' c' k.waiting ∧ Below w.heap.size w w'
set_option maxHeartbeats 1000000 in
set_option maxRecDepth 100000 in
theorem l08Copy_c (D : Dom) (b o : Nat) (k : DeskP) (w : World) (hk : elDesk D w b o k) (h1 : k.stack.length ≤ 1048576) (h2 : k.waiting.length ≤ 1048576) :
    Calls Tryz.prog 113 #[.pointer (some ⟨b, o, none⟩)] w (RetDesk w k) := by
  obtain ⟨p0, p1, ⟨A, c, p2, s2⟩, A', c', p3, s3⟩ := hk
  have S2 := Lib.hid s2
  have S3 := Lib.hid s3
  have hb := lt_of_cell p0
  clear s2 s3
  go_enter Tryz.func113, Tryz.ntmps113
  go_wp2_with fail
  obtain ⟨W, hW⟩ : ∃ W, W = w.alloc (.cells #[.int .i64 0, .int .i64 0, .slice none 0 0, .slice none 0 0] 80) := ⟨_, rfl⟩
  have hbw : ∀ w2, Below w.heap.size W w2 → Below w.heap.size w w2 := fun w2 h => Below.trans (b := W) (hW ▸ bel1 w _) h
  have hkW : ∀ w2, Below w.heap.size W w2 → w2.cell? ⟨b, o, none⟩ = some (.int .i64 k.read) ∧ w2.cell? ⟨b, o + 1, none⟩ = some (.int .i64 k.state) ∧ w2.cell? ⟨b, o + 2, none⟩ = some (.slice A k.stack.length c) ∧ w2.cell? ⟨b, o + 3, none⟩ = some (.slice A' k.waiting.length c') ∧ Below w.heap.size W w2 := by
    intro w2 h
    have h2 := (bcell (hbw w2 h) (Nat.le_refl _)).1
    exact ⟨(h2 _ _ hb).trans p0, (h2 _ _ hb).trans p1, (h2 _ _ hb).trans p2, (h2 _ _ hb).trans p3, h⟩
  have HW0 : Hid (∀ w2, Below W.heap.size W w2 → (∀ j, w2.cell? ⟨w.heap.size, j, none⟩ = (#[.int .i64 0, .int .i64 0, .slice none 0 0, .slice none 0 0] : Array Value)[j]?) ∧ ∀ j, w2.frozen? ⟨w.heap.size, j, none⟩ = false) := Lib.hid (by
    intro w2 h
    have hl : w.heap.size < W.heap.size := by rw [hW]; simp
    refine ⟨fun j => ((bcell h (Nat.le_refl _)).1 _ _ hl).trans ?_, fun j => ((bcell h (Nat.le_refl _)).2 _ _ hl).trans ?_⟩
    · rw [hW, cell_new]
    · rw [hW]; exact World.frozen?_alloc_new _ _ _ _)
  have hsz : ∀ w2, Below w.heap.size W w2 → w.heap.size ≤ w2.heap.size := fun w2 h => (hbw w2 h).size
  rw [← hW]
  have hW1 : W.heap.size = w.heap.size + 1 := by rw [hW]; simp
  have HW1 := Lib.hid hW1
  clear hW hW1 p0 p1 p2 p3
  go_region_held3 (fun w' => w'.cell? ⟨b, o, none⟩ = some (.int .i64 k.read) ∧ w'.cell? ⟨b, o + 1, none⟩ = some (.int .i64 k.state) ∧ w'.cell? ⟨b, o + 2, none⟩ = some (.slice A k.stack.length c) ∧ w'.cell? ⟨b, o + 3, none⟩ = some (.slice A' k.waiting.length c') ∧ Below w.heap.size W w')
    (first | exact hkW _ (bel_drew (Below.refl _ _)) | exact hkW _ (HB1.out.mono (by rw [HW1.out]; omega)) | exact hkW _ (HB2.out.mono (by rw [HW1.out]; omega)) | exact hkW _ (by repeat' (first | exact HB2.out.mono (by rw [HW1.out]; omega) | refine Below.set ?_ (Nat.le_refl _))))
    (first | (go_at_call 181; (with_reducible show Calls _ _ #[.slice A k.stack.length c] _ _); refine (l00Own_c D A c k.stack W.drew (S2.out.below ints_good (bel_drew (hbw W (Below.refl _ _)))) (by omega)).mono ?_; rintro e w1 ⟨v1, rfl, ho, hb1⟩; obtain ⟨A1, c1, rfl, hs1⟩ := ho.sl; have HS1 := Lib.hid hs1; have HB1 : Hid (Below W.heap.size W w1) := Lib.hid (Below.trans (b := W.drew) (bel_drew (Below.refl _ _)) hb1); clear ho hs1 hb1) |
      (go_at_call 181; (with_reducible show Calls _ _ #[.slice A' k.waiting.length c'] _ _); refine (l00Own_c D A' c' k.waiting w1 (S3.out.below ints_good (hbw w1 (HB1.out.mono (by rw [HW1.out]; omega)))) (by omega)).mono ?_; rintro e w2 ⟨v2, rfl, ho, hb2⟩; obtain ⟨A2, c2, rfl, hs2⟩ := ho.sl; have HS2 := Lib.hid hs2; have HB2 : Hid (Below W.heap.size W w2) := Lib.hid (HB1.out.trans (hb2.mono HB1.out.size)); have HS3 := Lib.hid (HS1.out.below ints_good hb2);
        obtain ⟨q1, q2⟩ := HW0.out w2 HB2.out; have t0 := q1 0; have t1 := q1 1; have t2 := q1 2; have t3 := q1 3; have u0 := q2 0; have u1 := q2 1; have u2 := q2 2; have u3 := q2 3; simp only [List.getElem?_toArray, List.getElem?_cons_zero, List.getElem?_cons_succ] at t0 t1 t2 t3; clear ho hs2 hb2 q1 q2))
  go_wp2_with fail
  have hW1 := HW1.out
  have hbW := hbw W (Below.refl _ _)
  refine bodyPost_ret (v := .agg #[.int .i64 k.read, .int .i64 k.state, .slice A1 k.stack.length c1, .slice A2 k.waiting.length c2]) ?_ rfl ⟨A1, c1, A2, c2, rfl, ?_, ?_, ?_⟩
  · simp [results, Tryz.results113, go_sem, t0, t1, t2, t3]
  · refine Sl.mono ints_good (D := fun b => W.heap.size ≤ b) (Sl.keep ints_good (HS3.out.mono ints_good (D' := fun b => W.heap.size ≤ b) fun _ h _ => h) ?_) (fun k hk _ => by omega)
    repeat' (first | (with_reducible refine Same.set ?_ (by simp; omega)) | with_reducible exact Same.refl _ _)
  · refine Sl.mono ints_good (D := fun b => W.heap.size ≤ b) (Sl.keep ints_good (HS2.out.mono ints_good (D' := fun b => W.heap.size ≤ b) fun _ h _ => Nat.le_trans HB1.out.size h) ?_) (fun k hk _ => by omega)
    repeat' (first | (with_reducible refine Same.set ?_ (by simp; omega)) | with_reducible exact Same.refl _ _)
  · exact hbw _ (by repeat' (first | (with_reducible refine Below.set ?_ (Nat.le_refl _)) | exact HB2.out.mono (by omega)))
end Go.Proofs.YtcagdmaiemmfgaaGreat
