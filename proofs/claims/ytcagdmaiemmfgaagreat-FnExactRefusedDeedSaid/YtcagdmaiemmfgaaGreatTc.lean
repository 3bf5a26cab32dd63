/- The copies of checkers and streams that the laws make hold what they are given; for all of at most 1048576 elements. -/
import Derived.Test.YtcagdmaiemmfgaaGreatTo
namespace Go.Proofs.YtcagdmaiemmfgaaGreat
open Go.RowKit

theorem bcell {n : Nat} {W w1 : World} (hb : Below W.heap.size W w1) (hn : n ≤ W.heap.size) : (∀ b o, b < n → w1.cell? ⟨b, o, none⟩ = W.cell? ⟨b, o, none⟩) ∧ (∀ b o, b < n → w1.frozen? ⟨b, o, none⟩ = W.frozen? ⟨b, o, none⟩) :=
  ⟨fun b o h => hb.cell (p := ⟨b, o, none⟩) (Nat.lt_of_lt_of_le h hn), fun b o h => hb.frozen (p := ⟨b, o, none⟩) (Nat.lt_of_lt_of_le h hn)⟩
theorem Sl.next {α : Type} {sz : Nat} {e : El α} {D : Dom} {w w' : World} {A : Option Addr} {c : Nat} {xs : List α} (g : El.Good sz e) (h : Sl sz e D w A c xs) {a : Addr} {v : Value} (ha : ¬ D a.block) (hb : Below (w.setCell a v).heap.size (w.setCell a v) w') : Sl sz e D w' A c xs :=
  (h.keep g (same_set w a v ha)).below g hb
theorem Same.refl (D : Dom) (w : World) : Same D w w := fun _ _ => rfl
theorem Same.set {D : Dom} {w w1 : World} {a : Addr} {v : Value} (h : Same D w w1) (ha : ¬ D a.block) : Same D w (w1.setCell a v) := fun b hb => (same_set w1 a v ha b hb).trans (h b hb)
theorem Below.set {B : Nat} {w w1 : World} {a : Addr} {v : Value} (h : Below B w w1) (ha : B ≤ a.block) : Below B w (w1.setCell a v) := h.setCell ha v
def RetChk (w : World) (d : Chk) (en : Ending) (w' : World) : Prop :=
  ∃ A0 c0 A1 c1 A2 c2 A3 c3, en = .returned (.agg #[.int .i64 d.stack, .int .i64 d.start, .slice A0 d.acc.length c0, .slice A1 d.call.length c1, .slice A2 d.ret.length c2, .slice A3 d.inn.length c3]) ∧
    ChkAt (fun b => w.heap.size ≤ b) w' A0 c0 A1 c1 A2 c2 A3 c3 d ∧ Below w.heap.size w w'
set_option maxHeartbeats 1000000 in
theorem toChecker_c (D : Dom) (A0 : Option Addr) (c0 : Nat) (A1 : Option Addr) (c1 : Nat) (A2 : Option Addr) (c2 : Nat) (A3 : Option Addr) (c3 : Nat) (d : Chk) (w : World) (hs : ChkAt D w A0 c0 A1 c1 A2 c2 A3 c3 d) (hn : d.bulk ≤ 1048576) :
    Calls Tryz.prog 14 #[.agg #[.int .i64 d.stack, .int .i64 d.start, .slice A0 d.acc.length c0, .slice A1 d.call.length c1, .slice A2 d.ret.length c2, .slice A3 d.inn.length c3]] w (RetChk w d) := by
  have hbk := d.bulk_def
  have n0 : d.acc.length ≤ 1048576 := by omega
  have n1 : bulkL List.length d.call ≤ 1048576 := by omega
  have n2 : bulkL (bulkL List.length) d.ret ≤ 1048576 := by omega
  have n3 : bulkL List.length d.inn ≤ 1048576 := by omega
  clear hbk hn
  have H := Lib.hid hs
  clear hs
  go_enter Tryz.func14, Tryz.ntmps14
  go_wp2_with fail
  refine (toBoolS_c D _ _ _ _ (H.out.acc.below elBool_good ((((Below.refl _ _).alloc (Nat.le_refl _) _).alloc (by simp) _).alloc (by simp; omega) _)) n0).mono ?_
  rintro e w1 ⟨X0, d0, rfl, s0, hb⟩
  have B1 : Below w.heap.size w w1 := ((((Below.refl _ _).alloc (Nat.le_refl _) _).alloc (by simp) _).alloc (by simp; omega) _).trans (hb.mono (by simp; omega))
  obtain ⟨k1, f1⟩ := bcell hb (n := w.heap.size + 3) (by simp)
  have z1 : w.heap.size + 3 ≤ w1.heap.size := by have := hb.size; simp at this; omega
  have S0 := Lib.hid (s0.mono elBool_good (D' := fun b => w.heap.size + 3 ≤ b) (fun k hk _ => by simp at hk; omega))
  clear hb s0
  have B1 := Lib.hid B1
  go_wp2_with fail
  refine (toPushSS_c D _ _ _ _ (H.out.call.below elPushs_good (B1.out.setCell (by simp; omega) _)) n1).mono ?_
  rintro e w2 ⟨X1, d1, rfl, s1, hb⟩
  have B2 := Lib.hid ((B1.out.setCell (by simp; omega) _).trans (hb.mono (by simp; omega)))
  obtain ⟨k2, f2⟩ := bcell hb (n := w.heap.size + 3) (by simp; omega)
  have z2 : w.heap.size + 3 ≤ w2.heap.size := by have := hb.size; simp at this; omega
  have S0 := Lib.hid (S0.out.next elBool_good (by simp) hb)
  have S1 := Lib.hid (s1.mono elPushs_good (D' := fun b => w.heap.size + 3 ≤ b) (fun k hk _ => by simp at hk; omega))
  clear hb s1
  go_wp2_with fail
  refine (toInt64SSS_c D _ _ _ _ (H.out.ret.below elIntss_good (B2.out.setCell (by simp; omega) _)) n2).mono ?_
  rintro e w3 ⟨X2, d2, rfl, s2, hb⟩
  have B3 := Lib.hid ((B2.out.setCell (by simp; omega) _).trans (hb.mono (by simp; omega)))
  obtain ⟨k3, f3⟩ := bcell hb (n := w.heap.size + 3) (by simp; omega)
  have z3 : w.heap.size + 3 ≤ w3.heap.size := by have := hb.size; simp at this; omega
  have S0 := Lib.hid (S0.out.next elBool_good (by simp) hb)
  have S1 := Lib.hid (S1.out.next elPushs_good (by simp) hb)
  have S2 := Lib.hid (s2.mono elIntss_good (D' := fun b => w.heap.size + 3 ≤ b) (fun k hk _ => by simp at hk; omega))
  clear hb s2
  go_wp2_with fail
  refine (toInt64SS_c D _ _ _ _ (H.out.inn.below elInts_good (B3.out.setCell (by simp; omega) _)) n3).mono ?_
  rintro e w4 ⟨X3, d3, rfl, s3, hb⟩
  have B4 := Lib.hid ((B3.out.setCell (by simp; omega) _).trans (hb.mono (by simp; omega)))
  obtain ⟨k4, f4⟩ := bcell hb (n := w.heap.size + 3) (by simp; omega)
  have z4 : w.heap.size + 3 ≤ w4.heap.size := by have := hb.size; simp at this; omega
  have S0 := Lib.hid (S0.out.next elBool_good (by simp) hb)
  have S1 := Lib.hid (S1.out.next elPushs_good (by simp) hb)
  have S2 := Lib.hid (S2.out.next elIntss_good (by simp) hb)
  have S3 := Lib.hid (s3.mono elInts_good (D' := fun b => w.heap.size + 3 ≤ b) (fun k hk _ => by simp at hk; omega))
  clear hb s3
  go_wp2_with fail
  have S0 := S0.out
  have S1 := S1.out
  have S2 := S2.out
  have S3 := S3.out
  clear z1 z2 z3
  refine bodyPost_ret (v := .agg #[.int .i64 d.stack, .int .i64 d.start, .slice X0 d.acc.length d0, .slice X1 d.call.length d1, .slice X2 d.ret.length d2, .slice X3 d.inn.length d3]) ?_ rfl ⟨X0, d0, X1, d1, X2, d2, X3, d3, rfl, ⟨?_, ?_, ?_, ?_⟩, ?_⟩
  · simp [results, Tryz.results14, go_sem, k4, k3, k2, k1]
  · refine Sl.mono elBool_good (Sl.keep elBool_good S0 ?_) (fun k hk _ => by omega)
    repeat' (first | (with_reducible refine Same.set ?_ (by simp)) | with_reducible exact Same.refl _ _)
  · refine Sl.mono elPushs_good (Sl.keep elPushs_good S1 ?_) (fun k hk _ => by omega)
    repeat' (first | (with_reducible refine Same.set ?_ (by simp)) | with_reducible exact Same.refl _ _)
  · refine Sl.mono elIntss_good (Sl.keep elIntss_good S2 ?_) (fun k hk _ => by omega)
    repeat' (first | (with_reducible refine Same.set ?_ (by simp)) | with_reducible exact Same.refl _ _)
  · refine Sl.mono elInts_good (Sl.keep elInts_good S3 ?_) (fun k hk _ => by omega)
    repeat' (first | (with_reducible refine Same.set ?_ (by simp)) | with_reducible exact Same.refl _ _)
  · exact (by repeat' (first | (with_reducible refine Below.set ?_ (by simp; try omega)) | with_reducible exact B4.out))

def RetStream (w : World) (d : Chk) (p : List ByteArray) (en : Ending) (w' : World) : Prop :=
  ∃ A0 c0 A1 c1 A2 c2 A3 c3 A4 c4, en = .returned (.agg #[.int .i64 d.stack, .int .i64 d.start, .slice A0 d.acc.length c0, .slice A1 d.call.length c1, .slice A2 d.ret.length c2, .slice A3 d.inn.length c3, .slice A4 p.length c4]) ∧
    ChkAt (fun b => w.heap.size ≤ b) w' A0 c0 A1 c1 A2 c2 A3 c3 d ∧ Sl 1 elStr (fun b => w.heap.size ≤ b) w' A4 c4 p ∧ Below w.heap.size w w'
theorem ChkAt.keep {D : Dom} {w w' : World} {A0 : Option Addr} {c0 : Nat} {A1 : Option Addr} {c1 : Nat} {A2 : Option Addr} {c2 : Nat} {A3 : Option Addr} {c3 : Nat} {d : Chk} (h : ChkAt D w A0 c0 A1 c1 A2 c2 A3 c3 d) (hs : Same D w w') : ChkAt D w' A0 c0 A1 c1 A2 c2 A3 c3 d :=
  ⟨h.acc.keep elBool_good hs, h.call.keep elPushs_good hs, h.ret.keep elIntss_good hs, h.inn.keep elInts_good hs⟩
theorem ChkAt.mono {D D' : Dom} {w : World} {A0 : Option Addr} {c0 : Nat} {A1 : Option Addr} {c1 : Nat} {A2 : Option Addr} {c2 : Nat} {A3 : Option Addr} {c3 : Nat} {d : Chk} (h : ChkAt D w A0 c0 A1 c1 A2 c2 A3 c3 d) (hd : ∀ k, D k → k < w.heap.size → D' k) : ChkAt D' w A0 c0 A1 c1 A2 c2 A3 c3 d :=
  ⟨h.acc.mono elBool_good hd, h.call.mono elPushs_good hd, h.ret.mono elIntss_good hd, h.inn.mono elInts_good hd⟩
set_option maxHeartbeats 1000000 in
theorem toStream_c (D : Dom) (A0 : Option Addr) (c0 : Nat) (A1 : Option Addr) (c1 : Nat) (A2 : Option Addr) (c2 : Nat) (A3 : Option Addr) (c3 : Nat) (d : Chk) (A4 : Option Addr) (c4 : Nat) (p : List ByteArray) (w : World) (hs : ChkAt D w A0 c0 A1 c1 A2 c2 A3 c3 d) (hp : Sl 1 elStr D w A4 c4 p) (hn : d.bulk ≤ 1048576) (hm : p.length ≤ 1048576) :
    Calls Tryz.prog 24 #[.agg #[.int .i64 d.stack, .int .i64 d.start, .slice A0 d.acc.length c0, .slice A1 d.call.length c1, .slice A2 d.ret.length c2, .slice A3 d.inn.length c3, .slice A4 p.length c4]] w (RetStream w d p) := by
  have H := Lib.hid hs
  have HP := Lib.hid hp
  clear hs hp
  go_enter Tryz.func24, Tryz.ntmps24
  go_wp2_with fail
  refine (toChecker_c D _ _ _ _ _ _ _ _ d _ (H.out.below ((((Below.refl _ _).alloc (Nat.le_refl _) _).alloc (by simp) _).alloc (by simp; omega) _)) hn).mono ?_
  rintro e w1 ⟨X0, d0, X1, d1, X2, d2, X3, d3, rfl, s0, hb⟩
  have B1 : Below w.heap.size w w1 := ((((Below.refl _ _).alloc (Nat.le_refl _) _).alloc (by simp) _).alloc (by simp; omega) _).trans (hb.mono (by simp; omega))
  obtain ⟨k1, f1⟩ := bcell hb (n := w.heap.size + 3) (by simp)
  have z1 : w.heap.size + 3 ≤ w1.heap.size := by have := hb.size; simp at this; omega
  have S0 := Lib.hid (s0.mono (D' := fun b => w.heap.size + 3 ≤ b) (fun k hk _ => by simp at hk; omega))
  clear hb s0
  have B1 := Lib.hid B1
  go_wp2_with fail
  refine (toStringS_c D _ _ _ _ (HP.out.below elStr_good ?hb) hm).mono ?hk
  case hb => repeat' (first | (with_reducible refine Below.set ?_ (by simp; try omega)) | with_reducible exact B1.out)
  case hk =>
    rintro e w2 ⟨X4, d4, rfl, s4, hb⟩
    have B2 : Hid (Below w.heap.size w w2) := Lib.hid (Below.trans (by repeat' (first | (with_reducible refine Below.set ?_ (by simp; try omega)) | with_reducible exact B1.out)) (hb.mono (by simp; omega)))
    obtain ⟨k2, f2⟩ := bcell hb (n := w.heap.size + 3) (by simp; omega)
    have z2 : w.heap.size + 3 ≤ w2.heap.size := by have := hb.size; simp at this; omega
    have S0 := Lib.hid (((S0.out.keep (by repeat' (first | (with_reducible refine Same.set ?_ (by simp)) | with_reducible exact Same.refl _ _))).below hb))
    have S4 := Lib.hid (s4.mono elStr_good (D' := fun b => w.heap.size + 3 ≤ b) (fun k hk _ => by simp at hk; omega))
    clear hb s4
    go_wp2_with fail
    have S0 := S0.out
    have S4 := S4.out
    clear z1
    refine bodyPost_ret (v := .agg #[.int .i64 d.stack, .int .i64 d.start, .slice X0 d.acc.length d0, .slice X1 d.call.length d1, .slice X2 d.ret.length d2, .slice X3 d.inn.length d3, .slice X4 p.length d4]) ?_ rfl ⟨X0, d0, X1, d1, X2, d2, X3, d3, X4, d4, rfl, ?_, ?_, ?_⟩
    · simp [results, Tryz.results24, go_sem, k2, k1]
    · refine ChkAt.mono (ChkAt.keep S0 ?_) (fun k hk _ => by omega)
      repeat' (first | (with_reducible refine Same.set ?_ (by simp)) | with_reducible exact Same.refl _ _)
    · refine Sl.mono elStr_good (Sl.keep elStr_good S4 ?_) (fun k hk _ => by omega)
      repeat' (first | (with_reducible refine Same.set ?_ (by simp)) | with_reducible exact Same.refl _ _)
    · repeat' (first | (with_reducible refine Below.set ?_ (by simp; try omega)) | with_reducible exact B2.out)
end Go.Proofs.YtcagdmaiemmfgaaGreat
