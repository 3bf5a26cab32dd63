/- The copying functions of the laws make new slices that hold what they are given; for all slices of at most 1048576 elements. -/
import Derived.Test.YtcagdmaiemmfgaaGreatProg
import Derived.Test.YtcagdmaiemmfgaaGreatSz
import Derived.WalkKit
import Derived.WalkSpells
import Derived.LoopTactic
namespace Go.Proofs.YtcagdmaiemmfgaaGreat
open Go.RowKit

theorem make_row {P : Program} (t e : TypeId) (z : Value) (size bytes : Nat) (ht : P.underlying t = some (.slice e)) (hinfo : (P.info? e).map (fun i => (i.zero, i.size, i.bytes)) = some (some z, size, bytes))
    (n : Nat) (hbytes : (bytes : Int) * n ≤ 281474976710656) (w : World) (h63 : (n : Int) ≤ 9223372036854775807 := by omega) :
    (Instr.makeSlice t (.int .i64 (n : Int)) (.int .i64 (n : Int))).run P w = .ok (.slice (some ⟨w.heap.size, 0, none⟩) n n) (w.alloc (.cells (madeCells z.cells (n * size)) e)) := by
  obtain ⟨i, hi, hzz⟩ := Option.map_eq_some_iff.1 hinfo
  simp only [Prod.mk.injEq] at hzz
  obtain ⟨hz, hs, hb⟩ := hzz
  have hr := run_make (P := P) w t e i z ht hi hz .i64 .i64 n n (by omega) (Int.le_refl _) (by rw [hb]; exact hbytes) h63
  simpa only [Int.toNat_natCast, hs] using hr
theorem cell_set {w : World} {b o : Nat} {old v : Value} (h : w.cell? ⟨b, o, none⟩ = some old) : (w.setCell ⟨b, o, none⟩ v).cell? ⟨b, o, none⟩ = some v := by
  unfold World.cell? at h ⊢
  cases hb : w.heap[b]? with
  | none => simp [hb] at h
  | some ob =>
    cases ob with
    | cells cs t fr =>
      simp only [hb, Option.isSome_none, Bool.false_eq_true, if_false] at h
      obtain ⟨hl, _⟩ := Array.getElem?_eq_some_iff.1 h
      simp [World.setCell, Array.getElem?_modify, hb, hl]
    | _ => simp [hb] at h
theorem cell_set_ne {w : World} {b o p : Nat} {v : Value} (h : o ≠ p) : (w.setCell ⟨b, p, none⟩ v).cell? ⟨b, o, none⟩ = w.cell? ⟨b, o, none⟩ := by
  simp only [World.cell?, World.setCell, Array.getElem?_modify]
  by_cases hb : w.heap[b]? = none
  · simp [hb]
  · obtain ⟨ob, hob⟩ := Option.ne_none_iff_exists'.1 hb
    cases ob <;> simp [hob, Ne.symm h]
theorem same_set {D : Dom} (w : World) (a : Addr) (v : Value) (h : ¬ D a.block) : Same D w (w.setCell a v) := fun b hb => Below.heap_setCell w a v b (fun e => h (e ▸ hb))
theorem mem_bulk {α : Type} (f : α → Nat) (xs : List α) (k : Nat) (h : k < xs.length) : f xs[k] ≤ bulkL f xs := by
  have h1 := sum_take_le f xs (k + 1)
  rw [sum_take_succ f xs k h] at h1
  have := bulkL_def f xs
  omega

theorem info_toBoolS : (Tryz.prog.info? 4).map (fun i => (i.zero, i.size, i.bytes)) = some (some (.bool false), 1, 1) := by kernel_rfl
set_option maxHeartbeats 400000 in
theorem toBoolS_c (D : Dom) (A : Option Addr) (c : Nat) (xs : List (Bool)) (w : World) (hs : Sl 1 elBool D w A c xs) (hn : xs.length ≤ 1048576) :
    Calls Tryz.prog 62 #[.slice A xs.length c] w (RetSl 1 elBool w xs) := by
  have hlen : xs.length ≤ 1048576 := hn
  have hmk : ∀ W : World, (Instr.makeSlice 27 (.int .i64 (xs.length : Int)) (.int .i64 (xs.length : Int))).run Tryz.prog W = .ok (.slice (some ⟨W.heap.size, 0, none⟩) xs.length xs.length) (W.alloc (.cells (madeCells (Value.cells (.bool false)) (xs.length * 1)) 4)) := fun W => make_row 27 4 _ _ _ Tryz.underlying27 info_toBoolS xs.length (by omega) W
  go_enter Tryz.func62, Tryz.ntmps62
  go_wp2_with fail
  clear hmk
  go_loopw [4] (fun i wr => ∃ k : Nat, k ≤ xs.length ∧ i = .int .i64 k ∧ Row 1 elBool (fun b => w.heap.size < b) wr w.heap.size 4 xs.length (xs.take k) ∧ Below w.heap.size w wr) (fun i _ => xs.length - (intOf i).toNat)
  case atStart => exact ⟨0, by omega, rfl, Row.made w _ _ _ _ (by omega) xs, bel1 _ _⟩
  case round =>
    obtain ⟨k, hk, rfl, hrow, hbel⟩ := hrel
    have HR := Lib.hid hrow
    have HB := Lib.hid hbel
    have HS := Lib.hid (hs.below elBool_good hbel)
    have hsz := hbel.size
    clear hs hrow hbel
    by_cases hlt : k < xs.length
    · obtain ⟨b, off, rfl, hc1⟩ := HS.out.at_ hlt
      simp only [Nat.mul_one] at hc1
      unfold elBool at hc1
      obtain ⟨old, hold⟩ := HR.out.cellOk (j := k) (by omega)
      have hfree := HR.out.free k
      go_wp2_with fail
      have HX := Lib.hid hc1
      clear hc1
      go_roundw
      case rel => exact ⟨k + 1, by omega, by go_num, HR.out.put elBool_good hlt (by simp) (by rw [Nat.mul_one]; exact turned_set _ _ _ _) (by rw [Nat.mul_one]; exact cell_set hold), HB.out.setCell (Nat.le_refl _) _⟩
      case measure => simp [intOf]; omega
    · go_wp2_with fail
      go_ret
      have hr := HR.out
      rw [List.take_of_length_le (by omega)] at hr
      exact ⟨_, _, rfl, hr.slice rfl (by unfold maxLen; omega) (Nat.le_refl _) elBool_good (fun k hk _ => Nat.le_of_lt hk), HB.out⟩

theorem info_toInt64S : (Tryz.prog.info? 2).map (fun i => (i.zero, i.size, i.bytes)) = some (some (.int .i64 0), 1, 8) := by kernel_rfl
set_option maxHeartbeats 400000 in
theorem toInt64S_c (D : Dom) (A : Option Addr) (c : Nat) (xs : List (Int)) (w : World) (hs : Sl 1 (elInt .i64) D w A c xs) (hn : xs.length ≤ 1048576) :
    Calls Tryz.prog 135 #[.slice A xs.length c] w (RetSl 1 (elInt .i64) w xs) := by
  have hlen : xs.length ≤ 1048576 := hn
  have hmk : ∀ W : World, (Instr.makeSlice 70 (.int .i64 (xs.length : Int)) (.int .i64 (xs.length : Int))).run Tryz.prog W = .ok (.slice (some ⟨W.heap.size, 0, none⟩) xs.length xs.length) (W.alloc (.cells (madeCells (Value.cells (.int .i64 0)) (xs.length * 1)) 2)) := fun W => make_row 70 2 _ _ _ Tryz.underlying70 info_toInt64S xs.length (by omega) W
  go_enter Tryz.func135, Tryz.ntmps135
  go_wp2_with fail
  clear hmk
  go_loopw [4] (fun i wr => ∃ k : Nat, k ≤ xs.length ∧ i = .int .i64 k ∧ Row 1 (elInt .i64) (fun b => w.heap.size < b) wr w.heap.size 2 xs.length (xs.take k) ∧ Below w.heap.size w wr) (fun i _ => xs.length - (intOf i).toNat)
  case atStart => exact ⟨0, by omega, rfl, Row.made w _ _ _ _ (by omega) xs, bel1 _ _⟩
  case round =>
    obtain ⟨k, hk, rfl, hrow, hbel⟩ := hrel
    have HR := Lib.hid hrow
    have HB := Lib.hid hbel
    have HS := Lib.hid (hs.below ints_good hbel)
    have hsz := hbel.size
    clear hs hrow hbel
    by_cases hlt : k < xs.length
    · obtain ⟨b, off, rfl, hc1⟩ := HS.out.at_ hlt
      simp only [Nat.mul_one] at hc1
      unfold elInt at hc1
      obtain ⟨old, hold⟩ := HR.out.cellOk (j := k) (by omega)
      have hfree := HR.out.free k
      go_wp2_with fail
      have HX := Lib.hid hc1
      clear hc1
      go_roundw
      case rel => exact ⟨k + 1, by omega, by go_num, HR.out.put ints_good hlt (by simp) (by rw [Nat.mul_one]; exact turned_set _ _ _ _) (by rw [Nat.mul_one]; exact cell_set hold), HB.out.setCell (Nat.le_refl _) _⟩
      case measure => simp [intOf]; omega
    · go_wp2_with fail
      go_ret
      have hr := HR.out
      rw [List.take_of_length_le (by omega)] at hr
      exact ⟨_, _, rfl, hr.slice rfl (by unfold maxLen; omega) (Nat.le_refl _) ints_good (fun k hk _ => Nat.le_of_lt hk), HB.out⟩

theorem info_toStringS : (Tryz.prog.info? 9).map (fun i => (i.zero, i.size, i.bytes)) = some (some (.string ⟨#[]⟩), 1, 16) := by kernel_rfl
set_option maxHeartbeats 400000 in
theorem toStringS_c (D : Dom) (A : Option Addr) (c : Nat) (xs : List (ByteArray)) (w : World) (hs : Sl 1 elStr D w A c xs) (hn : xs.length ≤ 1048576) :
    Calls Tryz.prog 99 #[.slice A xs.length c] w (RetSl 1 elStr w xs) := by
  have hlen : xs.length ≤ 1048576 := hn
  have hmk : ∀ W : World, (Instr.makeSlice 52 (.int .i64 (xs.length : Int)) (.int .i64 (xs.length : Int))).run Tryz.prog W = .ok (.slice (some ⟨W.heap.size, 0, none⟩) xs.length xs.length) (W.alloc (.cells (madeCells (Value.cells (.string ⟨#[]⟩)) (xs.length * 1)) 9)) := fun W => make_row 52 9 _ _ _ Tryz.underlying52 info_toStringS xs.length (by omega) W
  go_enter Tryz.func99, Tryz.ntmps99
  go_wp2_with fail
  clear hmk
  go_loopw [4] (fun i wr => ∃ k : Nat, k ≤ xs.length ∧ i = .int .i64 k ∧ Row 1 elStr (fun b => w.heap.size < b) wr w.heap.size 9 xs.length (xs.take k) ∧ Below w.heap.size w wr) (fun i _ => xs.length - (intOf i).toNat)
  case atStart => exact ⟨0, by omega, rfl, Row.made w _ _ _ _ (by omega) xs, bel1 _ _⟩
  case round =>
    obtain ⟨k, hk, rfl, hrow, hbel⟩ := hrel
    have HR := Lib.hid hrow
    have HB := Lib.hid hbel
    have HS := Lib.hid (hs.below elStr_good hbel)
    have hsz := hbel.size
    clear hs hrow hbel
    by_cases hlt : k < xs.length
    · obtain ⟨b, off, rfl, hc1, hx1⟩ := HS.out.at_ hlt
      simp only [Nat.mul_one] at hc1
      obtain ⟨old, hold⟩ := HR.out.cellOk (j := k) (by omega)
      have hfree := HR.out.free k
      go_wp2_with fail
      have HX := Lib.hid hc1
      clear hc1
      go_roundw
      case rel => exact ⟨k + 1, by omega, by go_num, HR.out.put elStr_good hlt (by simp) (by rw [Nat.mul_one]; exact turned_set _ _ _ _) ⟨by rw [Nat.mul_one]; exact cell_set hold, hx1⟩, HB.out.setCell (Nat.le_refl _) _⟩
      case measure => simp [intOf]; omega
    · go_wp2_with fail
      go_ret
      have hr := HR.out
      rw [List.take_of_length_le (by omega)] at hr
      exact ⟨_, _, rfl, hr.slice rfl (by unfold maxLen; omega) (Nat.le_refl _) elStr_good (fun k hk _ => Nat.le_of_lt hk), HB.out⟩

set_option maxHeartbeats 400000 in
theorem toPush_c (a b : Int) (w : World) : Calls Tryz.prog 192 #[.agg #[.int .i64 a, .int .i64 b]] w fun e w' => e = .returned (.agg #[.int .i64 a, .int .i64 b]) ∧ Below w.heap.size w w' := by
  go_enter Tryz.func192, Tryz.ntmps192
  go_wp2_with fail
  exact bodyPost_ret (v := .agg #[.int .i64 a, .int .i64 b]) (by simp [results, Tryz.results192, go_sem]) rfl ⟨rfl, ((((Below.refl _ _).alloc (Nat.le_refl _) _).alloc (by simp) _).alloc (by simp; omega) _)⟩

theorem info_toPushS : (Tryz.prog.info? 106).map (fun i => (i.zero, i.size, i.bytes)) = some (some (.agg #[.int .i64 0, .int .i64 0]), 2, 16) := by kernel_rfl
set_option maxHeartbeats 400000 in
theorem toPushS_c (D : Dom) (A : Option Addr) (c : Nat) (xs : List (Push)) (w : World) (hs : Sl 2 elPush D w A c xs) (hn : xs.length ≤ 1048576) :
    Calls Tryz.prog 134 #[.slice A xs.length c] w (RetSl 2 elPush w xs) := by
  have hlen : xs.length ≤ 1048576 := hn
  have hmk : ∀ W : World, (Instr.makeSlice 99 (.int .i64 (xs.length : Int)) (.int .i64 (xs.length : Int))).run Tryz.prog W = .ok (.slice (some ⟨W.heap.size, 0, none⟩) xs.length xs.length) (W.alloc (.cells (madeCells (Value.cells (.agg #[.int .i64 0, .int .i64 0])) (xs.length * 2)) 106)) := fun W => make_row 99 106 _ _ _ Tryz.underlying99 info_toPushS xs.length (by omega) W
  go_enter Tryz.func134, Tryz.ntmps134
  go_wp2_with fail
  clear hmk
  go_loopw [4] (fun i wr => ∃ k : Nat, k ≤ xs.length ∧ i = .int .i64 k ∧ Row 2 elPush (fun b => w.heap.size < b) wr w.heap.size 106 xs.length (xs.take k) ∧ Below w.heap.size w wr) (fun i _ => xs.length - (intOf i).toNat)
  case atStart => exact ⟨0, by omega, rfl, Row.made w _ _ _ _ (by omega) xs, bel1 _ _⟩
  case round =>
    obtain ⟨k, hk, rfl, hrow, hbel⟩ := hrel
    have HR := Lib.hid hrow
    have HB := Lib.hid hbel
    have HS := Lib.hid (hs.below elPush_good hbel)
    have hsz := hbel.size
    clear hs hrow hbel
    by_cases hlt : k < xs.length
    · obtain ⟨b, off, rfl, hcs⟩ := HS.out.at_ hlt
      obtain ⟨hc0, hc1⟩ := hcs
      
      go_wp2_with fail
      refine (toPush_c _ _ _).mono ?_
      rintro e w1 ⟨rfl, hb2⟩
      have HR1 := Lib.hid (HR.out.below elPush_good hb2)
      have HB1 := Lib.hid (HB.out.trans (hb2.mono hsz))
      have hne := HR.out.lt
      clear hb2 hc0 hc1
      obtain ⟨old0, hold0⟩ := HR1.out.cellOk (j := k * 2) (by omega)
      have hfree0 := HR1.out.free (k * 2)
      obtain ⟨old1, hold1⟩ := HR1.out.cellOk (j := k * 2 + 1) (by omega)
      have hfree1 := HR1.out.free (k * 2 + 1)
      go_wp2_with fail
      
      go_roundw
      case rel => exact ⟨k + 1, by omega, by go_num, HR1.out.put elPush_good hlt (by simp) ((turned_set _ _ _ _).more (turned_set _ _ _ _)) ⟨(cell_set_ne (by omega)).trans (cell_set (hold0)), cell_set ((cell_set_ne (by omega)).trans (hold1))⟩, (HB1.out.setCell (Nat.le_refl _) _).setCell (Nat.le_refl _) _⟩
      case measure => simp [intOf]; omega
    · go_wp2_with fail
      go_ret
      have hr := HR.out
      rw [List.take_of_length_le (by omega)] at hr
      exact ⟨_, _, rfl, hr.slice rfl (by unfold maxLen; omega) (Nat.le_refl _) elPush_good (fun k hk _ => Nat.le_of_lt hk), HB.out⟩

set_option maxHeartbeats 400000 in
theorem toDeed_c (a b c : Int) (w : World) : Calls Tryz.prog 100 #[.agg #[.int .i64 a, .int .i64 b, .int .i64 c]] w fun e w' => e = .returned (.agg #[.int .i64 a, .int .i64 b, .int .i64 c]) ∧ Below w.heap.size w w' := by
  go_enter Tryz.func100, Tryz.ntmps100
  go_wp2_with fail
  exact bodyPost_ret (v := .agg #[.int .i64 a, .int .i64 b, .int .i64 c]) (by simp [results, Tryz.results100, go_sem]) rfl ⟨rfl, ((((Below.refl _ _).alloc (Nat.le_refl _) _).alloc (by simp) _).alloc (by simp; omega) _)⟩

theorem info_toDeedS : (Tryz.prog.info? 150).map (fun i => (i.zero, i.size, i.bytes)) = some (some (.agg #[.int .i64 0, .int .i64 0, .int .i64 0]), 3, 24) := by kernel_rfl
set_option maxHeartbeats 400000 in
theorem toDeedS_c (D : Dom) (A : Option Addr) (c : Nat) (xs : List (Deed)) (w : World) (hs : Sl 3 elDeed D w A c xs) (hn : xs.length ≤ 1048576) :
    Calls Tryz.prog 25 #[.slice A xs.length c] w (RetSl 3 elDeed w xs) := by
  have hlen : xs.length ≤ 1048576 := hn
  have hmk : ∀ W : World, (Instr.makeSlice 63 (.int .i64 (xs.length : Int)) (.int .i64 (xs.length : Int))).run Tryz.prog W = .ok (.slice (some ⟨W.heap.size, 0, none⟩) xs.length xs.length) (W.alloc (.cells (madeCells (Value.cells (.agg #[.int .i64 0, .int .i64 0, .int .i64 0])) (xs.length * 3)) 150)) := fun W => make_row 63 150 _ _ _ Tryz.underlying63 info_toDeedS xs.length (by omega) W
  go_enter Tryz.func25, Tryz.ntmps25
  go_wp2_with fail
  clear hmk
  go_loopw [4] (fun i wr => ∃ k : Nat, k ≤ xs.length ∧ i = .int .i64 k ∧ Row 3 elDeed (fun b => w.heap.size < b) wr w.heap.size 150 xs.length (xs.take k) ∧ Below w.heap.size w wr) (fun i _ => xs.length - (intOf i).toNat)
  case atStart => exact ⟨0, by omega, rfl, Row.made w _ _ _ _ (by omega) xs, bel1 _ _⟩
  case round =>
    obtain ⟨k, hk, rfl, hrow, hbel⟩ := hrel
    have HR := Lib.hid hrow
    have HB := Lib.hid hbel
    have HS := Lib.hid (hs.below elDeed_good hbel)
    have hsz := hbel.size
    clear hs hrow hbel
    by_cases hlt : k < xs.length
    · obtain ⟨b, off, rfl, hcs⟩ := HS.out.at_ hlt
      obtain ⟨hc0, hc1, hc2⟩ := hcs
      
      go_wp2_with fail
      refine (toDeed_c _ _ _ _).mono ?_
      rintro e w1 ⟨rfl, hb2⟩
      have HR1 := Lib.hid (HR.out.below elDeed_good hb2)
      have HB1 := Lib.hid (HB.out.trans (hb2.mono hsz))
      have hne := HR.out.lt
      clear hb2 hc0 hc1 hc2
      obtain ⟨old0, hold0⟩ := HR1.out.cellOk (j := k * 3) (by omega)
      have hfree0 := HR1.out.free (k * 3)
      obtain ⟨old1, hold1⟩ := HR1.out.cellOk (j := k * 3 + 1) (by omega)
      have hfree1 := HR1.out.free (k * 3 + 1)
      obtain ⟨old2, hold2⟩ := HR1.out.cellOk (j := k * 3 + 1 + 1) (by omega)
      have hfree2 := HR1.out.free (k * 3 + 1 + 1)
      go_wp2_with fail
      
      go_roundw
      case rel => exact ⟨k + 1, by omega, by go_num, HR1.out.put elDeed_good hlt (by simp) (((turned_set _ _ _ _).more (turned_set _ _ _ _)).more (turned_set _ _ _ _)) ⟨(cell_set_ne (by omega)).trans ((cell_set_ne (by omega)).trans (cell_set (hold0))), (cell_set_ne (by omega)).trans (cell_set ((cell_set_ne (by omega)).trans (hold1))), cell_set ((cell_set_ne (by omega)).trans ((cell_set_ne (by omega)).trans (hold2)))⟩, ((HB1.out.setCell (Nat.le_refl _) _).setCell (Nat.le_refl _) _).setCell (Nat.le_refl _) _⟩
      case measure => simp [intOf]; omega
    · go_wp2_with fail
      go_ret
      have hr := HR.out
      rw [List.take_of_length_le (by omega)] at hr
      exact ⟨_, _, rfl, hr.slice rfl (by unfold maxLen; omega) (Nat.le_refl _) elDeed_good (fun k hk _ => Nat.le_of_lt hk), HB.out⟩

theorem info_toPushSS : (Tryz.prog.info? 99).map (fun i => (i.zero, i.size, i.bytes)) = some (some (.slice none 0 0), 1, 24) := by kernel_rfl
set_option maxHeartbeats 400000 in
theorem toPushSS_c (D : Dom) (A : Option Addr) (c : Nat) (xs : List (List Push)) (w : World) (hs : Sl 1 elPushs D w A c xs) (hn : bulkL List.length xs ≤ 1048576) :
    Calls Tryz.prog 63 #[.slice A xs.length c] w (RetSl 1 elPushs w xs) := by
  have hlen : xs.length ≤ 1048576 := by have := bulkL_def List.length xs; omega
  have hmk : ∀ W : World, (Instr.makeSlice 35 (.int .i64 (xs.length : Int)) (.int .i64 (xs.length : Int))).run Tryz.prog W = .ok (.slice (some ⟨W.heap.size, 0, none⟩) xs.length xs.length) (W.alloc (.cells (madeCells (Value.cells (.slice none 0 0)) (xs.length * 1)) 99)) := fun W => make_row 35 99 _ _ _ Tryz.underlying35 info_toPushSS xs.length (by omega) W
  go_enter Tryz.func63, Tryz.ntmps63
  go_wp2_with fail
  clear hmk
  go_loopw [4] (fun i wr => ∃ k : Nat, k ≤ xs.length ∧ i = .int .i64 k ∧ Row 1 elPushs (fun b => w.heap.size < b) wr w.heap.size 99 xs.length (xs.take k) ∧ Below w.heap.size w wr) (fun i _ => xs.length - (intOf i).toNat)
  case atStart => exact ⟨0, by omega, rfl, Row.made w _ _ _ _ (by omega) xs, bel1 _ _⟩
  case round =>
    obtain ⟨k, hk, rfl, hrow, hbel⟩ := hrel
    have HR := Lib.hid hrow
    have HB := Lib.hid hbel
    have HS := Lib.hid (hs.below elPushs_good hbel)
    have hsz := hbel.size
    clear hs hrow hbel
    by_cases hlt : k < xs.length
    · obtain ⟨b, off, rfl, A1, c1, hc1, hs1⟩ := HS.out.at_ hlt
      simp only [Nat.mul_one] at hc1
      have H1 := Lib.hid hs1
      clear hs1
      have hfk := mem_bulk List.length xs k hlt
      
      go_wp2_with fail
      refine (toPushS_c D _ _ _ _ H1.out (by omega)).mono ?_
      rintro e w1 ⟨A2, c2, rfl, hs2, hb2⟩
      have HR1 := Lib.hid (HR.out.below elPushs_good hb2)
      have HB1 := Lib.hid (HB.out.trans (hb2.mono hsz))
      have H2 := Lib.hid hs2
      have hne := HR.out.lt
      clear hs2 hb2
      obtain ⟨old, hold⟩ := HR1.out.cellOk (j := k) (by omega)
      have hfree := HR1.out.free k
      go_wp2_with fail
      
      go_roundw
      case rel => exact ⟨k + 1, by omega, by go_num, HR1.out.put elPushs_good hlt (by simp) (by rw [Nat.mul_one]; exact turned_set _ _ _ _) ⟨A2, c2, by rw [Nat.mul_one]; exact cell_set hold, (H2.out.keep elPush_good (same_set _ _ _ (fun h => by dsimp only at h; omega))).mono elPush_good (fun _ hk _ => by omega)⟩, HB1.out.setCell (Nat.le_refl _) _⟩
      case measure => simp [intOf]; omega
    · go_wp2_with fail
      go_ret
      have hr := HR.out
      rw [List.take_of_length_le (by omega)] at hr
      exact ⟨_, _, rfl, hr.slice rfl (by unfold maxLen; omega) (Nat.le_refl _) elPushs_good (fun k hk _ => Nat.le_of_lt hk), HB.out⟩

theorem info_toInt64SS : (Tryz.prog.info? 70).map (fun i => (i.zero, i.size, i.bytes)) = some (some (.slice none 0 0), 1, 24) := by kernel_rfl
set_option maxHeartbeats 400000 in
theorem toInt64SS_c (D : Dom) (A : Option Addr) (c : Nat) (xs : List (List Int)) (w : World) (hs : Sl 1 elInts D w A c xs) (hn : bulkL List.length xs ≤ 1048576) :
    Calls Tryz.prog 65 #[.slice A xs.length c] w (RetSl 1 elInts w xs) := by
  have hlen : xs.length ≤ 1048576 := by have := bulkL_def List.length xs; omega
  have hmk : ∀ W : World, (Instr.makeSlice 30 (.int .i64 (xs.length : Int)) (.int .i64 (xs.length : Int))).run Tryz.prog W = .ok (.slice (some ⟨W.heap.size, 0, none⟩) xs.length xs.length) (W.alloc (.cells (madeCells (Value.cells (.slice none 0 0)) (xs.length * 1)) 70)) := fun W => make_row 30 70 _ _ _ Tryz.underlying30 info_toInt64SS xs.length (by omega) W
  go_enter Tryz.func65, Tryz.ntmps65
  go_wp2_with fail
  clear hmk
  go_loopw [4] (fun i wr => ∃ k : Nat, k ≤ xs.length ∧ i = .int .i64 k ∧ Row 1 elInts (fun b => w.heap.size < b) wr w.heap.size 70 xs.length (xs.take k) ∧ Below w.heap.size w wr) (fun i _ => xs.length - (intOf i).toNat)
  case atStart => exact ⟨0, by omega, rfl, Row.made w _ _ _ _ (by omega) xs, bel1 _ _⟩
  case round =>
    obtain ⟨k, hk, rfl, hrow, hbel⟩ := hrel
    have HR := Lib.hid hrow
    have HB := Lib.hid hbel
    have HS := Lib.hid (hs.below elInts_good hbel)
    have hsz := hbel.size
    clear hs hrow hbel
    by_cases hlt : k < xs.length
    · obtain ⟨b, off, rfl, A1, c1, hc1, hs1⟩ := HS.out.at_ hlt
      simp only [Nat.mul_one] at hc1
      have H1 := Lib.hid hs1
      clear hs1
      have hfk := mem_bulk List.length xs k hlt
      
      go_wp2_with fail
      refine (toInt64S_c D _ _ _ _ H1.out (by omega)).mono ?_
      rintro e w1 ⟨A2, c2, rfl, hs2, hb2⟩
      have HR1 := Lib.hid (HR.out.below elInts_good hb2)
      have HB1 := Lib.hid (HB.out.trans (hb2.mono hsz))
      have H2 := Lib.hid hs2
      have hne := HR.out.lt
      clear hs2 hb2
      obtain ⟨old, hold⟩ := HR1.out.cellOk (j := k) (by omega)
      have hfree := HR1.out.free k
      go_wp2_with fail
      
      go_roundw
      case rel => exact ⟨k + 1, by omega, by go_num, HR1.out.put elInts_good hlt (by simp) (by rw [Nat.mul_one]; exact turned_set _ _ _ _) ⟨A2, c2, by rw [Nat.mul_one]; exact cell_set hold, (H2.out.keep ints_good (same_set _ _ _ (fun h => by dsimp only at h; omega))).mono ints_good (fun _ hk _ => by omega)⟩, HB1.out.setCell (Nat.le_refl _) _⟩
      case measure => simp [intOf]; omega
    · go_wp2_with fail
      go_ret
      have hr := HR.out
      rw [List.take_of_length_le (by omega)] at hr
      exact ⟨_, _, rfl, hr.slice rfl (by unfold maxLen; omega) (Nat.le_refl _) elInts_good (fun k hk _ => Nat.le_of_lt hk), HB.out⟩

theorem info_toInt64SSS : (Tryz.prog.info? 30).map (fun i => (i.zero, i.size, i.bytes)) = some (some (.slice none 0 0), 1, 24) := by kernel_rfl
set_option maxHeartbeats 400000 in
theorem toInt64SSS_c (D : Dom) (A : Option Addr) (c : Nat) (xs : List (List (List Int))) (w : World) (hs : Sl 1 elIntss D w A c xs) (hn : bulkL (bulkL List.length) xs ≤ 1048576) :
    Calls Tryz.prog 64 #[.slice A xs.length c] w (RetSl 1 elIntss w xs) := by
  have hlen : xs.length ≤ 1048576 := by have := bulkL_def (bulkL List.length) xs; omega
  have hmk : ∀ W : World, (Instr.makeSlice 29 (.int .i64 (xs.length : Int)) (.int .i64 (xs.length : Int))).run Tryz.prog W = .ok (.slice (some ⟨W.heap.size, 0, none⟩) xs.length xs.length) (W.alloc (.cells (madeCells (Value.cells (.slice none 0 0)) (xs.length * 1)) 30)) := fun W => make_row 29 30 _ _ _ Tryz.underlying29 info_toInt64SSS xs.length (by omega) W
  go_enter Tryz.func64, Tryz.ntmps64
  go_wp2_with fail
  clear hmk
  go_loopw [4] (fun i wr => ∃ k : Nat, k ≤ xs.length ∧ i = .int .i64 k ∧ Row 1 elIntss (fun b => w.heap.size < b) wr w.heap.size 30 xs.length (xs.take k) ∧ Below w.heap.size w wr) (fun i _ => xs.length - (intOf i).toNat)
  case atStart => exact ⟨0, by omega, rfl, Row.made w _ _ _ _ (by omega) xs, bel1 _ _⟩
  case round =>
    obtain ⟨k, hk, rfl, hrow, hbel⟩ := hrel
    have HR := Lib.hid hrow
    have HB := Lib.hid hbel
    have HS := Lib.hid (hs.below elIntss_good hbel)
    have hsz := hbel.size
    clear hs hrow hbel
    by_cases hlt : k < xs.length
    · obtain ⟨b, off, rfl, A1, c1, hc1, hs1⟩ := HS.out.at_ hlt
      simp only [Nat.mul_one] at hc1
      have H1 := Lib.hid hs1
      clear hs1
      have hfk := mem_bulk (bulkL List.length) xs k hlt
      
      go_wp2_with fail
      refine (toInt64SS_c D _ _ _ _ H1.out (by omega)).mono ?_
      rintro e w1 ⟨A2, c2, rfl, hs2, hb2⟩
      have HR1 := Lib.hid (HR.out.below elIntss_good hb2)
      have HB1 := Lib.hid (HB.out.trans (hb2.mono hsz))
      have H2 := Lib.hid hs2
      have hne := HR.out.lt
      clear hs2 hb2
      obtain ⟨old, hold⟩ := HR1.out.cellOk (j := k) (by omega)
      have hfree := HR1.out.free k
      go_wp2_with fail
      
      go_roundw
      case rel => exact ⟨k + 1, by omega, by go_num, HR1.out.put elIntss_good hlt (by simp) (by rw [Nat.mul_one]; exact turned_set _ _ _ _) ⟨A2, c2, by rw [Nat.mul_one]; exact cell_set hold, (H2.out.keep elInts_good (same_set _ _ _ (fun h => by dsimp only at h; omega))).mono elInts_good (fun _ hk _ => by omega)⟩, HB1.out.setCell (Nat.le_refl _) _⟩
      case measure => simp [intOf]; omega
    · go_wp2_with fail
      go_ret
      have hr := HR.out
      rw [List.take_of_length_le (by omega)] at hr
      exact ⟨_, _, rfl, hr.slice rfl (by unfold maxLen; omega) (Nat.le_refl _) elIntss_good (fun k hk _ => Nat.le_of_lt hk), HB.out⟩
end Go.Proofs.YtcagdmaiemmfgaaGreat
