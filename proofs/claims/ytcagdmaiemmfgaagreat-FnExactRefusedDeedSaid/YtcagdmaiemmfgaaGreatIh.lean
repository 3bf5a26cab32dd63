/- The state and the stack behind a word, in the program; for all valid checkers and words. -/
import Derived.Test.YtcagdmaiemmfgaaGreatIg
namespace Go.Proofs.YtcagdmaiemmfgaaGreat
open Go.RowKit

set_option maxHeartbeats 4000000 in
set_option maxRecDepth 100000 in
theorem end_c (D : Dom) (A0 : Option Addr) (c0 : Nat) (A1 : Option Addr) (c1 : Nat) (A2 : Option Addr) (c2 : Nat) (A3 : Option Addr) (c3 : Nat) (d : Chk) (p : Int × List Int) (n : Nat) (A : Option Addr) (c : Nat) (wd : ByteArray) (w : World) (hs0 : ChkAt D w A0 c0 A1 c1 A2 c2 A3 c3 d) (hst : Sl 1 (elInt .i64) D w A c p.2) (hd : Dim d) (ha : At d p n) (hn : n + wd.size ≤ 1048576) (hb : ∀ (i : Nat) (h : i < wd.size), 0 ≤ symI wd[i]) :
    Calls Tryz.prog 74 #[.agg #[.int .i64 d.stack, .int .i64 d.start, .slice A0 d.acc.length c0, .slice A1 d.call.length c1, .slice A2 d.ret.length c2, .slice A3 d.inn.length c3], .int .i64 p.1, .slice A p.2.length c, .string wd] w (RetStep D w (goC d p.1 p.2 wd.data.toList)) := by
  obtain ⟨W, hWe⟩ : ∃ W, W = ((w.alloc (.cells #[.int .i64 d.stack, .int .i64 d.start, .slice A0 d.acc.length c0, .slice A1 d.call.length c1, .slice A2 d.ret.length c2, .slice A3 d.inn.length c3] 37)).alloc (.cells #[.int .i64 p.1] 2)).alloc (.cells #[.slice A p.2.length c] 70) := ⟨_, rfl⟩
  have hz1 : (w.alloc (.cells #[.int .i64 d.stack, .int .i64 d.start, .slice A0 d.acc.length c0, .slice A1 d.call.length c1, .slice A2 d.ret.length c2, .slice A3 d.inn.length c3] 37)).heap.size = w.heap.size + 1 := by simp
  have hz2 : ((w.alloc (.cells #[.int .i64 d.stack, .int .i64 d.start, .slice A0 d.acc.length c0, .slice A1 d.call.length c1, .slice A2 d.ret.length c2, .slice A3 d.inn.length c3] 37)).alloc (.cells #[.int .i64 p.1] 2)).heap.size = w.heap.size + 2 := by simp
  have HBW : Hid (Below w.heap.size w W) := Lib.hid (by rw [hWe]; exact ((bel1 w _).trans ((bel1 _ _).mono (by omega))).trans ((bel1 _ _).mono (by omega)))
  have g1 : W.cell? ⟨w.heap.size + 1, 0, none⟩ = some (.int .i64 p.1) := by rw [hWe, cell_old (by omega), ← hz1, cell_new]; rfl
  have g2 : W.cell? ⟨w.heap.size + 2, 0, none⟩ = some (.slice A p.2.length c) := by rw [hWe, ← hz2, cell_new]; rfl
  have g3 : W.frozen? ⟨w.heap.size + 1, 0, none⟩ = false := by
    have h := (bel1 ((w.alloc (.cells #[.int .i64 d.stack, .int .i64 d.start, .slice A0 d.acc.length c0, .slice A1 d.call.length c1, .slice A2 d.ret.length c2, .slice A3 d.inn.length c3] 37)).alloc (.cells #[.int .i64 p.1] 2)) (.cells #[.slice A p.2.length c] 70)).frozen (p := ⟨w.heap.size + 1, 0, none⟩) (by rw [hz2]; simp)
    rw [hWe, h, ← hz1]
    exact World.frozen?_alloc_new _ _ _ _
  have g4 : W.frozen? ⟨w.heap.size + 2, 0, none⟩ = false := by rw [hWe, ← hz2]; exact World.frozen?_alloc_new _ _ _ _
  have HC : Hid (ChkAt (fun k => D k ∧ k < w.heap.size) W A0 c0 A1 c1 A2 c2 A3 c3 d) := Lib.hid ((hs0.mono fun _ h hl => ⟨h, hl⟩).below HBW.out)
  have HS : Hid (Sl 1 (elInt .i64) (fun k => D k ∧ k < w.heap.size) W A c p.2) := Lib.hid ((hst.lt ints_good).below ints_good HBW.out)
  have hzW : W.heap.size = w.heap.size + 3 := by rw [hWe]; simp
  have HZ := Lib.hid hzW
  have HWe := Lib.hid hWe
  have HD := Lib.hid hd
  have HA := Lib.hid ha
  have HB := Lib.hid hb
  have G := Lib.hid (And.intro g1 (And.intro g2 (And.intro g3 g4)))
  clear hs0 hst hd ha hb hWe g1 g2 g3 g4 hz1 hz2 hzW
  go_enter Tryz.func74, Tryz.ntmps74
  go_wp2_with (go_at_call 155; rw [← HWe.out]; refine (run_c (fun k => D k ∧ k < w.heap.size) A0 c0 A1 c1 A2 c2 A3 c3 d p n A c wd (w.heap.size + 1) (w.heap.size + 2) W HC.out HS.out HD.out HA.out hn HB.out (by omega) ⟨_, G.out.1⟩ ⟨_, G.out.2.1⟩ G.out.2.2.1 G.out.2.2.2 (fun k hk => ⟨by omega, by omega⟩)).mono ?_; rintro e w1 ⟨rfl, ⟨c1', _, ⟨A9, c9, c2', s9⟩, _⟩, hb1⟩; have HS9 := Lib.hid s9; have HT := Lib.hid hb1; clear s9 hb1)
  go_quiet (fail)
  go_wp2_with fail
  go_ret2
  refine ⟨A9, c9, rfl, ((HS9.out.below ints_good (drewN_below w1 _)).mono ints_good fun k hk _ => hk.elim (fun h => .inl h.1) fun h => .inr (by have := HZ.out; omega)), ?_⟩
  exact (HBW.out.trans (HT.out.below HBW.out.size fun k hk => hk.elim (fun e => by omega) fun e => by omega)).trans ((drewN_below w1 _).mono (Nat.le_trans HBW.out.size HT.out.size))
end Go.Proofs.YtcagdmaiemmfgaaGreat
