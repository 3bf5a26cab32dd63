/- The reference's run over deeds; for all valid streams and deeds. -/
import Derived.Test.YtcagdmaiemmfgaaGreatSn
namespace Go.Proofs.YtcagdmaiemmfgaaGreat
open Go.RowKit

/-- Behind an append onto a slice that is kept out of the run. -/
theorem RunS.app {X X' : Dom} {B : Nat} {w w' : World} {g vb vo : Nat} {n : PlantP} {A : Option Addr} {c : Nat} {row : Option Nat} (h : RunS X B w g vb vo n A c) (hg : w.grownBy w' row) (hrow : ∀ k, row = some k → X k) (hX : ∀ k, X' k → X k ∨ (w.heap.size ≤ k ∧ k < w'.heap.size)) : RunS X' B w' g vb vo n A c := by
  have hl := h.lt
  have hk : ∀ k, k < w.heap.size → ¬ X k → w'.heap[k]? = w.heap[k]? := fun k h1 h2 => hg.block k h1 fun e => h2 (hrow k e.symm)
  have hgb := hk g hl fun e => (h.xr g e).2.2.1 rfl
  have hcell : ∀ j, w'.cell? ⟨g, j, none⟩ = w.cell? ⟨g, j, none⟩ := fun j => World.cell?_of_block hgb
  have hS : Same (RunD X w g A c) w w' := fun k h1 => hk k h1.1 h1.2.2.2
  have hd : ∀ k, RunD X w g A c k → RunD X' w' g A c k := fun k h1 => ⟨Nat.lt_of_lt_of_le h1.1 hg.size, h1.2.1, h1.2.2.1, fun e => (hX k e).elim h1.2.2.2 fun h2 => by have := h1.1; omega⟩
  obtain ⟨cs, b1, b2⟩ := h.blk
  refine ⟨h.lo, ⟨cs, hgb.trans b1, b2⟩, (hcell 0).trans h.ptr, elDesk_move h.desk (fun j _ => hcell _) hS hd, elDesk_move h.saved (fun j _ => hcell _) hS hd, (hcell 9).trans h.wire, ?_, h.ownLo, fun k hx => ?_⟩
  · exact (h.own.keep elParcel_good hS hg.size fun b hb => hk b (h.own.own hb).1 fun e => (h.xr b e).2.2.2 hb).mono elParcel_good (fun k h1 _ => hd k h1) fun b hb hd2 => hd2.2.2.1 hb
  · rcases hX k hx with h1 | ⟨h1, h2⟩
    · exact ⟨(h.xr k h1).1, Nat.lt_of_lt_of_le (h.xr k h1).2.1 hg.size, (h.xr k h1).2.2⟩
    · refine ⟨by have := h.lo; omega, h2, by omega, fun e => ?_⟩
      have := (h.own.own e).1
      omega
theorem OwnI.keep {base : Nat} {T : TypeId} {w w' : World} {v : Value} {xs : List Int} (h : OwnI base T w v xs) (hk : ∀ b, v.ownBlock = some b → w'.heap[b]? = w.heap[b]?) : OwnI base T w' v xs :=
  ⟨h.1, h.2.imp id fun ⟨g, cap, cur, e, hb, hh, r⟩ => ⟨g, cap, cur, e, hb, (hk g (by subst e; rfl)).trans hh, r⟩⟩
theorem playC_take {d : Chk} {p : List ByteArray} {xs : List Deed} {k : Nat} (h : k < xs.length) : playC d p (xs.take (k + 1)) = ((doC d p (playC d p (xs.take k)).1 xs[k]).1, (playC d p (xs.take k)).2 ++ [(doC d p (playC d p (xs.take k)).1 xs[k]).2]) := by
  unfold playC
  rw [List.take_succ_eq_append_getElem h, List.foldl_append]
  rfl
theorem playC_len {d : Chk} {p : List ByteArray} {xs : List Deed} {k : Nat} (h : k ≤ xs.length) : (playC d p (xs.take k)).2.length = k := by
  induction k with
  | zero => simp [playC]
  | succ k ih => rw [playC_take h, List.length_append, ih (by omega)]; rfl
theorem begin_ok {d : Chk} {p : List ByteArray} (hd : Dim d) : PlantOk d p (begin_ d) := by
  have h : DeskOk d p ⟨0, d.start, [], []⟩ := ⟨by simp, by simp, ⟨hd.st0, hd.st1, fun m hm => (by cases hm), by simp⟩, ⟨List.Pairwise.nil, fun k hk => (by cases hk), fun k hk => (by cases hk)⟩⟩
  exact ⟨h, h, by simp [begin_], fun q hq => (by cases hq)⟩
theorem playC_ok {d : Chk} {p : List ByteArray} (hd : Dim d) (hw : ∀ s ∈ p, okWord s = true) {xs : List Deed} (hx : ∀ x ∈ xs, okDeed x = true) {k : Nat} (hk : k ≤ xs.length) : PlantOk d p (playC d p (xs.take k)).1 := by
  induction k with
  | zero => exact begin_ok hd
  | succ k ih =>
    rw [playC_take hk]
    exact doC_ok hd hw (ih (by omega)) (hx _ (List.getElem_mem _))
/-- A run behind deeds is handed back, and their codes. -/
def RetPlay (b o : Nat) (d : Chk) (p : List ByteArray) (xs : List Deed) (w : World) (e : Ending) (w' : World) : Prop :=
  ∃ g A c v X, e = .returned (.tuple #[.pointer (some ⟨g, 0, none⟩), v]) ∧ RunS X w.heap.size w' g b o (playC d p xs).1 A c ∧ OwnI w.heap.size 2 w' v (playC d p xs).2 ∧ Below w.heap.size w w'
set_option maxHeartbeats 4000000 in
set_option maxRecDepth 100000 in
theorem l08Play_c (D : Dom) (b o : Nat) (d : Chk) (p : List ByteArray) (A0 : Option Addr) (c0 : Nat) (xs : List Deed) (w : World) (hp : StrPtr D w b o d p) (hs : Sl 3 elDeed D w A0 c0 xs) (hd : Dim d) (hw : ∀ s ∈ p, okWord s = true) (hp20 : p.length ≤ 20) (hx : ∀ x ∈ xs, okDeed x = true) (hn : xs.length ≤ 300) :
    Calls Tryz.prog 98 #[.pointer (some ⟨b, o, none⟩), .slice A0 xs.length c0] w (RetPlay b o d p xs w) := by
  have HP : Hid (StrPtr (fun k => D k ∧ k < w.heap.size) w b o d p) := Lib.hid (hp.mono fun _ h1 h2 => ⟨h1, h2⟩)
  have HS : Hid (Sl 3 elDeed (fun k => D k ∧ k < w.heap.size) w A0 c0 xs) := Lib.hid (hs.lt elDeed_good)
  have HL : Hid (b < w.heap.size) := Lib.hid (lt_of_cell hp.1.1)
  have HD := Lib.hid hd
  have HW := Lib.hid hw
  have HX := Lib.hid hx
  clear hp hs hd hw hx
  go_enter Tryz.func98, Tryz.ntmps98
  go_wp2_with (go_at_call 166; refine (l08Begin_c _ b o d p _ HP.out).mono ?_; rintro e w1 ⟨g, rfl, hr1, hb1⟩; have HR1 := Lib.hid hr1; have HB1 := Lib.hid hb1; clear hr1 hb1)
  have H0 : Hid (∃ (k : Nat) (A : Option Addr) (c : Nat) (X : Dom), k ≤ xs.length ∧ xs.length = xs.length - k ∧ k = 0 ∧ RunS X w.heap.size (w1.alloc (.cells #[] 2)) g b o (playC d p (xs.take k)).1 A c ∧ (∀ cb, (Value.slice (some ⟨w1.heap.size, 0, none⟩) 0 0).ownBlock = some cb → X cb) ∧ OwnI w.heap.size 2 (w1.alloc (.cells #[] 2)) (.slice (some ⟨w1.heap.size, 0, none⟩) 0 0) (playC d p (xs.take k)).2 ∧ Below w.heap.size w (w1.alloc (.cells #[] 2))) := Lib.hid (by
    refine ⟨0, none, 0, fun k => k = w1.heap.size, by omega, by omega, rfl, ?_, ?_, OwnI.lit0 HB1.out.size, HB1.out.trans ((bel1 _ _).mono HB1.out.size)⟩
    · have hb := bel1 w1 (.cells #[] 2)
      exact HR1.out.app (row := none) ⟨hb.os, hb.tape, hb.output, hb.size, fun k hk _ => hb.block k hk⟩ (fun k hk => by cases hk) fun k hk => .inr (by subst hk; exact ⟨Nat.le_refl _, by simp⟩)
    · intro cb hcb
      have : w1.heap.size = cb := by simpa [Value.ownBlock] using hcb
      exact this.symm)
  go_loopg [7, 8] xs.length (fun z v7 v8 wr => ∃ (k : Nat) (A : Option Addr) (c : Nat) (X : Dom), k ≤ xs.length ∧ z = xs.length - k ∧ v8 = .int .i64 k ∧ RunS X w.heap.size wr g b o (playC d p (xs.take k)).1 A c ∧ (∀ cb, v7.ownBlock = some cb → X cb) ∧ OwnI w.heap.size 2 wr v7 (playC d p (xs.take k)).2 ∧ Below w.heap.size w wr)
  case atStart =>
    obtain ⟨k, A, c, X, h1, h2, h3, h4⟩ := H0.out
    subst h3
    exact ⟨0, A, c, X, h1, h2, rfl, h4⟩
  case round =>
    obtain ⟨k, A, c, X, hk, hz, rfl, hr, hxb, ho, hb⟩ := hrel
    have HZ := Lib.hid hz
    have HR := Lib.hid hr
    have HXB := Lib.hid hxb
    have HO := Lib.hid ho
    have HB := Lib.hid hb
    clear hz hr hxb ho hb H0
    by_cases hlt : k < xs.length
    · obtain ⟨bx, ox, rfl, d0, d1, d2⟩ := (HS.out.keep elDeed_good fun k hk => HB.out.block k hk.2).at_ hlt
      have HT := Lib.hid (playC_take (d := d) (p := p) hlt)
      have HXK := Lib.hid (HX.out _ (List.getElem_mem hlt))
      have HPK := Lib.hid (playC_ok HD.out HW.out HX.out (k := k) (by omega) (p := p))
      have HLN := Lib.hid (playC_len (d := d) (p := p) (xs := xs) (k := k) (by omega))
      generalize xs[k] = x at *
      generalize playC d p (xs.take k) = pk at *
      go_wp2_with (first | (go_at_call 167; refine (do_c X w.heap.size g b o pk.1 A c d p x (fun k => D k ∧ k < w.heap.size) _ HR.out (HP.out.belowB HB.out (fun _ h => h.2) HL.out) (fun _ h => h.2) HL.out HD.out HW.out hp20 HPK.out HXK.out).mono ?_; rintro e w2 ⟨A2, c2, rfl, hr2, hb2, hn2⟩; have HR2 := Lib.hid hr2; have HO2 := Lib.hid (HO.out.keep fun cb hcb => hb2.block cb (HR.out.xr cb (HXB.out cb hcb)).2.1 fun e => e.elim (HR.out.xr cb (HXB.out cb hcb)).2.2.1 (HR.out.xr cb (HXB.out cb hcb)).2.2.2); have HB2 : Hid (Below w.heap.size w w2) := Lib.hid (HB.out.trans (hb2.below HB.out.size fun k hk => hk.elim (fun e => e ▸ HR.out.lo) fun e => (HR.out.ownLo k e).1)); clear hr2 hb2 hn2) | (at_builtin; refine wpList_app _ rfl (.tmp 18) (.tmp 25) 70 2 rfl Tryz.underlying70 info_i64 w.heap.size _ pk.2 rfl (HO2.out.below (bel1 _ _)) (fun _ => True) _ 1 [(doC d p pk.1 x).2] rfl (lit1 lit_new) (by rw [HLN.out, List.length_singleton]; omega) (Nat.le_trans HB2.out.size (bel1 _ _).size) ?_; intro v3 w3 ho3 hg3 hor3; have HO3 := Lib.hid ho3; have HG3 := Lib.hid hg3; have HN3 := Lib.hid hor3; clear ho3 hg3 hor3))
      go_roundg (xs.length - (k + 1))
      case measure => have := HZ.out; omega
      case rel =>
        refine ⟨k + 1, A2, c2, fun k => X k ∨ v3.ownBlock = some k, by omega, rfl, by go_num, ?_, fun cb h => .inr h, by rw [HT.out]; exact HO3.out, ?_⟩
        · rw [HT.out]
          refine (HR2.out.below (bel1 w2 _)).app HG3.out HXB.out fun j hj => ?_
          rcases hj with hj | hj
          · exact .inl hj
          · rcases HN3.out with h0 | h0
            · exact .inl (HXB.out j (h0 ▸ hj))
            · rw [h0] at hj
              injection hj with hj
              exact .inr ⟨by omega, (HO3.out.base j (by rw [h0, hj])).2⟩
        · exact (HO2.out.below (bel1 _ _)).below_of (HB2.out.trans ((bel1 _ _).mono HB2.out.size)) (Nat.le_trans HB2.out.size (bel1 _ _).size) HG3.out
    · have hke : k = xs.length := by omega
      subst hke
      have hl : xs.take xs.length = xs := List.take_length
      have HTL := Lib.hid hl
      clear hl
      go_wp2_with fail
      go_ret2
      refine ⟨g, A, c, _, X, rfl, ?_, ?_, HB.out⟩
      · have := HR.out; rwa [HTL.out] at this
      · have := HO.out; rwa [HTL.out] at this
end Go.Proofs.YtcagdmaiemmfgaaGreat
