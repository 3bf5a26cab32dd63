/- A word's run on a checker, in the program: it comes to where the plain run comes; for all valid checkers and words. -/
import Derived.Test.YtcagdmaiemmfgaaGreatIf
namespace Go.Proofs.YtcagdmaiemmfgaaGreat
open Go.RowKit

theorem Sl.but {α : Type} {sz : Nat} {e : El α} {D E : Dom} {w w' : World} {A : Option Addr} {c : Nat} {xs : List α} (g : El.Good sz e) (h : Sl sz e D w A c xs) (hb : But E w w') (hD : ∀ k, D k → ¬ E k) : Sl sz e D w' A c xs :=
  ((h.lt g).keep g fun k hk => hb.block k hk.2 (hD k hk.1)).mono g fun _ hk _ => hk.1
/-- The blocks of two variables. -/
def Two (p1 p2 : Nat) : Dom := fun k => k = p1 ∨ k = p2
set_option maxHeartbeats 1000000 in
theorem end1_c (s : Int) (V : Value) (A : Option Addr) (m c : Nat) (p1 p2 : Nat) (w : World) (hV : V = .slice A m c) (h1 : ∃ v, w.cell? ⟨p1, 0, none⟩ = some v) (h2 : ∃ v, w.cell? ⟨p2, 0, none⟩ = some v) (f1 : w.frozen? ⟨p1, 0, none⟩ = false) (f2 : w.frozen? ⟨p2, 0, none⟩ = false) (hne : p1 ≠ p2) :
    Calls Tryz.prog 156 #[.int .i64 s, V, .pointer (some ⟨p1, 0, none⟩), .pointer (some ⟨p2, 0, none⟩)] w fun e w' => e = .returned (.tuple #[]) ∧ (w.setCell ⟨p1, 0, none⟩ (.int .i64 s)).setCell ⟨p2, 0, none⟩ (.slice A m c) = w' := by
  subst hV
  obtain ⟨v1, h1⟩ := h1
  obtain ⟨v2, h2⟩ := h2
  have h3 : (w.setCell ⟨p1, 0, none⟩ (.int .i64 s)).cell? ⟨p2, 0, none⟩ = some v2 := (World.cell?_of_block (a := ⟨p2, 0, none⟩) (Below.heap_setCell w _ _ p2 (Ne.symm hne))).trans h2
  have f3 : (w.setCell ⟨p1, 0, none⟩ (.int .i64 s)).frozen? ⟨p2, 0, none⟩ = false := (World.frozen?_of_block (a := ⟨p2, 0, none⟩) (Below.heap_setCell w _ _ p2 (Ne.symm hne))).trans f2
  go_enter Tryz.func156, Tryz.ntmps156
  go_wp2_with fail
  exact Go.Great.bodyPost_end0 rfl rfl ⟨rfl, rfl⟩
theorem enters_end1 : Enters Tryz.prog 156 := fun args w => by kernel_rfl
/-- The two variables hold a state and a stack. -/
structure TwoAt (D : Dom) (w : World) (p1 p2 : Nat) (q : Int × List Int) : Prop where
  c1 : w.cell? ⟨p1, 0, none⟩ = some (.int .i64 q.1)
  f1 : w.frozen? ⟨p1, 0, none⟩ = false
  c2 : ∃ A c, w.cell? ⟨p2, 0, none⟩ = some (.slice A q.2.length c) ∧ Sl 1 (elInt .i64) D w A c q.2
  f2 : w.frozen? ⟨p2, 0, none⟩ = false
theorem TwoAt.put {D : Dom} {w : World} {p1 p2 : Nat} (hne : p1 ≠ p2) (h1 : ∃ v, w.cell? ⟨p1, 0, none⟩ = some v) (h2 : ∃ v, w.cell? ⟨p2, 0, none⟩ = some v) (f1 : w.frozen? ⟨p1, 0, none⟩ = false) (f2 : w.frozen? ⟨p2, 0, none⟩ = false) {s : Int} {st : List Int} {A : Option Addr} {c : Nat} (hs : Sl 1 (elInt .i64) D w A c st) (hD : ∀ k, D k → k ≠ p1 ∧ k ≠ p2) :
    TwoAt D ((w.setCell ⟨p1, 0, none⟩ (.int .i64 s)).setCell ⟨p2, 0, none⟩ (.slice A st.length c)) p1 p2 (s, st) := by
  have b1 : ∀ k, k ≠ p1 → k ≠ p2 → ((w.setCell ⟨p1, 0, none⟩ (.int .i64 s)).setCell ⟨p2, 0, none⟩ (.slice A st.length c)).heap[k]? = w.heap[k]? := fun k k1 k2 => (Below.heap_setCell _ _ _ k k2).trans (Below.heap_setCell w _ _ k k1)
  have hp1 : ((w.setCell ⟨p1, 0, none⟩ (.int .i64 s)).setCell ⟨p2, 0, none⟩ (.slice A st.length c)).heap[p1]? = (w.setCell ⟨p1, 0, none⟩ (.int .i64 s)).heap[p1]? := Below.heap_setCell _ _ _ p1 hne
  have hp2 : (w.setCell ⟨p1, 0, none⟩ (.int .i64 s)).heap[p2]? = w.heap[p2]? := Below.heap_setCell w _ _ p2 (Ne.symm hne)
  refine ⟨?_, ?_, ⟨A, c, ?_, hs.keep ints_good fun k hk => b1 k (hD k hk).1 (hD k hk).2⟩, ?_⟩
  · rw [World.cell?_of_block (a := ⟨p1, 0, none⟩) hp1]
    exact set_at h1
  · rw [World.frozen?_of_block (a := ⟨p1, 0, none⟩) hp1, World.frozen?_setCell]
    exact f1
  · refine set_at ?_
    rw [World.cell?_of_block (a := ⟨p2, 0, none⟩) hp2]
    exact h2
  · rw [World.frozen?_setCell, World.frozen?_of_block (a := ⟨p2, 0, none⟩) hp2]
    exact f2
/-- What such a run leaves. -/
def RetRun (D : Dom) (w : World) (p1 p2 : Nat) (q : Int × List Int) (e : Ending) (w' : World) : Prop :=
  e = .returned (.tuple #[]) ∧ TwoAt (fun b => D b ∨ w.heap.size ≤ b) w' p1 p2 q ∧ But (Two p1 p2) w w'
set_option maxHeartbeats 4000000 in
set_option maxRecDepth 100000 in
theorem run_c (D : Dom) (A0 : Option Addr) (c0 : Nat) (A1 : Option Addr) (c1 : Nat) (A2 : Option Addr) (c2 : Nat) (A3 : Option Addr) (c3 : Nat) (d : Chk) (p : Int × List Int) (n : Nat) (A : Option Addr) (c : Nat) (wd : ByteArray) (p1 p2 : Nat) (w : World) (hs0 : ChkAt D w A0 c0 A1 c1 A2 c2 A3 c3 d) (hst : Sl 1 (elInt .i64) D w A c p.2) (hd : Dim d) (ha : At d p n) (hn : n + wd.size ≤ 1048576) (hb : ∀ (i : Nat) (h : i < wd.size), 0 ≤ symI wd[i])
    (hne : p1 ≠ p2) (h1 : ∃ v, w.cell? ⟨p1, 0, none⟩ = some v) (h2 : ∃ v, w.cell? ⟨p2, 0, none⟩ = some v) (f1 : w.frozen? ⟨p1, 0, none⟩ = false) (f2 : w.frozen? ⟨p2, 0, none⟩ = false) (hDp : ∀ k, D k → k ≠ p1 ∧ k ≠ p2) :
    Calls Tryz.prog 155 #[.agg #[.int .i64 d.stack, .int .i64 d.start, .slice A0 d.acc.length c0, .slice A1 d.call.length c1, .slice A2 d.ret.length c2, .slice A3 d.inn.length c3], .int .i64 p.1, .slice A p.2.length c, .string wd, .func (.func 156) #[] #[.pointer (some ⟨p1, 0, none⟩), .pointer (some ⟨p2, 0, none⟩)]] w (RetRun D w p1 p2 (goC d p.1 p.2 wd.data.toList)) := by
  obtain ⟨q, hq⟩ : ∃ q, q = goC d p.1 p.2 wd.data.toList := ⟨_, rfl⟩
  rw [← hq]
  have HQ := Lib.hid hq
  have HD := Lib.hid hd
  have HA := Lib.hid ha
  have HB := Lib.hid hb
  have HNE := Lib.hid hne
  have l1 : wd.size ≤ 1048576 := by omega
  have hp1 : p1 < w.heap.size := by obtain ⟨v, hv⟩ := h1; exact lt_of_cell hv
  have hp2 : p2 < w.heap.size := by obtain ⟨v, hv⟩ := h2; exact lt_of_cell hv
  have HDP : Hid (∀ k, (D k ∨ w.heap.size ≤ k) → k ≠ p1 ∧ k ≠ p2) := Lib.hid fun k hk => hk.elim (hDp k) fun h => ⟨by omega, by omega⟩
  have hf := enters_end1
  unfold Enters at hf
  obtain ⟨W, hWe⟩ : ∃ W, W = w.alloc (.cells #[.int .i64 d.stack, .int .i64 d.start, .slice A0 d.acc.length c0, .slice A1 d.call.length c1, .slice A2 d.ret.length c2, .slice A3 d.inn.length c3] 37) := ⟨_, rfl⟩
  obtain ⟨bx, hbx⟩ : ∃ bx, bx = w.heap.size := ⟨_, rfl⟩
  have HBW : Hid (Below w.heap.size w W) := Lib.hid (hWe ▸ bel1 w _)
  have E0 : ∀ o, W.cell? ⟨bx, o, none⟩ = (#[.int .i64 d.stack, .int .i64 d.start, .slice A0 d.acc.length c0, .slice A1 d.call.length c1, .slice A2 d.ret.length c2, .slice A3 d.inn.length c3] : Array Value)[o]? := fun o => by rw [hWe, hbx, cell_new]
  have HE := Lib.hid E0
  have hbW : bx < W.heap.size := by rw [hWe, hbx]; simp
  have HC : Hid (ChkAt (fun k => D k ∧ k < w.heap.size) W A0 c0 A1 c1 A2 c2 A3 c3 d) := Lib.hid ((hs0.mono fun _ h hl => ⟨h, hl⟩).below HBW.out)
  have HSW : Hid (Sl 1 (elInt .i64) D W A c p.2) := Lib.hid (hst.below ints_good HBW.out)
  obtain ⟨q1, q2⟩ := bcell HBW.out (Nat.le_refl _)
  have g1 : ∃ v, W.cell? ⟨p1, 0, none⟩ = some v := by obtain ⟨v, hv⟩ := h1; exact ⟨v, (q1 _ _ hp1).trans hv⟩
  have g2 : ∃ v, W.cell? ⟨p2, 0, none⟩ = some v := by obtain ⟨v, hv⟩ := h2; exact ⟨v, (q1 _ _ hp2).trans hv⟩
  have g3 := (q2 p1 0 hp1).trans f1
  have g4 := (q2 p2 0 hp2).trans f2
  have G := Lib.hid (And.intro g1 (And.intro g2 (And.intro g3 g4)))
  have HWe := Lib.hid hWe
  have HBX := Lib.hid hbx
  have HBP : Hid (bx ≠ p1 ∧ bx ≠ p2) := Lib.hid ⟨by omega, by omega⟩
  clear hWe hbx hst hs0 hq hd ha hb E0 q1 q2 g1 g2 g3 g4 h1 h2 f1 f2 hne hDp
  go_enter Tryz.func155, Tryz.ntmps155
  go_wp2_with (go_at_call 156; rw [← HWe.out, ← HBX.out]; refine (end1_c p.1 _ A p.2.length c p1 p2 W rfl G.out.1 G.out.2.1 G.out.2.2.1 G.out.2.2.2 HNE.out).mono ?_; rintro e w1 ⟨rfl, hw1⟩; have H1 : Hid (TwoAt (fun b => D b ∨ w.heap.size ≤ b) w1 p1 p2 (p.1, p.2)) := Lib.hid (hw1 ▸ TwoAt.put HNE.out G.out.1 G.out.2.1 G.out.2.2.1 G.out.2.2.2 (HSW.out.mono ints_good fun _ h _ => .inl h) HDP.out); have HT1 : Hid (But (Two p1 p2) W w1) := Lib.hid (hw1 ▸ But.set (a := ⟨p2, 0, none⟩) (But.set (a := ⟨p1, 0, none⟩) (But.refl _ _) (.inr (.inl rfl))) (.inr (.inr rfl))); clear hw1)
  go_loopg [1, 2, 17] wd.size (fun z v1 v2 v3 wr => ∃ k : Nat, k ≤ wd.size ∧ z = wd.size - k ∧ v3 = .int .i64 k ∧ v1 = .int .i64 (goC d p.1 p.2 (wd.data.toList.take k)).1 ∧ (∃ A' c', v2 = .slice A' (goC d p.1 p.2 (wd.data.toList.take k)).2.length c' ∧ Sl 1 (elInt .i64) (fun b => D b ∨ w.heap.size ≤ b) wr A' c' (goC d p.1 p.2 (wd.data.toList.take k)).2) ∧ At d (goC d p.1 p.2 (wd.data.toList.take k)) (n + k) ∧ TwoAt (fun b => D b ∨ w.heap.size ≤ b) wr p1 p2 (goC d p.1 p.2 (wd.data.toList.take k)) ∧ But (Two p1 p2) W wr)
  case atStart => exact ⟨0, by omega, by omega, rfl, rfl, ⟨A, c, rfl, (HSW.out.but ints_good HT1.out fun k hk e => e.elim (HDP.out k (.inl hk)).1 (HDP.out k (.inl hk)).2).mono ints_good fun _ h _ => .inl h⟩, HA.out, H1.out, HT1.out⟩
  case round =>
    obtain ⟨k, hk, hz, rfl, rfl, ⟨A', c', rfl, hs'⟩, hat, htw, hbut⟩ := hrel
    have HZ := Lib.hid hz
    have HT := Lib.hid hat
    have HB1 := Lib.hid hbut
    have HS1 := Lib.hid hs'
    have HTW := Lib.hid htw
    clear hz hat hbut hs' htw
    by_cases hlt : k < wd.size
    · have HG := Lib.hid (goC_take (d := d) (s := p.1) (st := p.2) wd k hlt)
      generalize hr : goC d p.1 p.2 (wd.data.toList.take k) = r at *
      clear hr
      have HSD : Hid (Same (fun k => D k ∧ k < w.heap.size) W wr) := Lib.hid fun j hj => HB1.out.block j (Nat.lt_of_lt_of_le hj.2 HBW.out.size) fun e => e.elim (HDP.out j (.inl hj.1)).1 (HDP.out j (.inl hj.1)).2
      have hcell : ∀ o, wr.cell? ⟨bx, o, none⟩ = W.cell? ⟨bx, o, none⟩ := fun o => World.cell?_of_block (a := ⟨bx, o, none⟩) (HB1.out.block bx hbW fun e => e.elim HBP.out.1 HBP.out.2)
      have hbr : bx < wr.heap.size := Nat.lt_of_lt_of_le hbW HB1.out.size
      obtain ⟨S, hSI, hSE⟩ : ∃ S : World → Prop, (∀ w', S w' → w'.cell? ⟨bx, 0, none⟩ = some (.int .i64 d.stack) ∧ w'.cell? ⟨bx, 1, none⟩ = some (.int .i64 d.start) ∧ w'.cell? ⟨bx, 2, none⟩ = some (.slice A0 d.acc.length c0) ∧ w'.cell? ⟨bx, 3, none⟩ = some (.slice A1 d.call.length c1) ∧ w'.cell? ⟨bx, 4, none⟩ = some (.slice A2 d.ret.length c2) ∧ w'.cell? ⟨bx, 5, none⟩ = some (.slice A3 d.inn.length c3)) ∧ ∀ w2, Below wr.heap.size wr w2 → S w2 := by
        refine ⟨fun w' => Below wr.heap.size wr w', fun w' h => ?_, fun w2 h => h⟩
        have h2 := (bcell h (Nat.le_refl _)).1
        exact ⟨(h2 _ _ hbr).trans ((hcell 0).trans (HE.out 0)), (h2 _ _ hbr).trans ((hcell 1).trans (HE.out 1)), (h2 _ _ hbr).trans ((hcell 2).trans (HE.out 2)), (h2 _ _ hbr).trans ((hcell 3).trans (HE.out 3)), (h2 _ _ hbr).trans ((hcell 4).trans (HE.out 4)), (h2 _ _ hbr).trans ((hcell 5).trans (HE.out 5))⟩
      have HSI := Lib.hid hSI
      have HSE := Lib.hid hSE
      clear hSI hSE
      clear hcell
      go_wp2_with fail
      refine wp_region_L [] S (by kernel_rfl) (HSE.out _ (bel_drew (Below.refl _ _))) (fun hS => ?_)
      refine anyL_take (i := 0) (oi := ?or0) (v := ?vr0) ?hr0 (by kernel_rfl) (by kernel_rfl) (by kernel_rfl) (by kernel_rfl) (by kernel_rfl) (fun _ _ _ h => h) (Or.inl ⟨?wr0, ?yr0⟩) hS ?_
      case hr0 => simp only [List.getElem?_toArray, List.getElem?_cons_zero]; rfl
      case wr0 => rfl
      case yr0 => (intro w hSw; replace hSw := HSI.out _ hSw; go_simp; try with_reducible rfl)
      try simp only [Act.put, List.setIfInBounds_toArray, List.set_cons_zero, List.set_cons_succ]
      refine anyL_take0 (i := 1) (oi := ?or1) (v := ?vr1) ?hr1 (by kernel_rfl) (by kernel_rfl) (by kernel_rfl) (by kernel_rfl) (fun _ _ _ h => h) (Or.inl ⟨?wr1, ?yr1⟩) (Or.inr hS) ?_
      case hr1 => simp only [List.getElem?_toArray, List.getElem?_cons_succ, List.getElem?_cons_zero]; rfl
      case wr1 => rfl
      case yr1 => (intro w; go_simp; try with_reducible rfl)
      try simp only [Act.put, List.setIfInBounds_toArray, List.set_cons_zero, List.set_cons_succ]
      refine anyL_take0 (i := 2) (oi := ?or2) (v := ?vr2) ?hr2 (by kernel_rfl) (by kernel_rfl) (by kernel_rfl) (by kernel_rfl) (fun _ _ _ h => h) (Or.inl ⟨?wr2, ?yr2⟩) (Or.inr hS) ?_
      case hr2 => simp only [List.getElem?_toArray, List.getElem?_cons_succ, List.getElem?_cons_zero]; rfl
      case wr2 => rfl
      case yr2 => (intro w; go_simp; try with_reducible rfl)
      try simp only [Act.put, List.setIfInBounds_toArray, List.set_cons_zero, List.set_cons_succ]
      refine anyL_take0 (i := 3) (oi := ?or3) (v := ?vr3) ?hr3 (by kernel_rfl) (by kernel_rfl) (by kernel_rfl) (by kernel_rfl) (fun _ _ _ h => h) (Or.inl ⟨?wr3, ?yr3⟩) (Or.inr hS) ?_
      case hr3 => simp only [List.getElem?_toArray, List.getElem?_cons_succ, List.getElem?_cons_zero]; rfl
      case wr3 => rfl
      case yr3 => (intro w; go_simp; try with_reducible rfl)
      try simp only [Act.put, List.setIfInBounds_toArray, List.set_cons_zero, List.set_cons_succ]
      refine anyL_take0 (i := 4) (oi := ?or4) (v := ?vr4) ?hr4 (by kernel_rfl) (by kernel_rfl) (by kernel_rfl) (by kernel_rfl) (fun _ _ _ h => h) (Or.inl ⟨?wr4, ?yr4⟩) (Or.inr hS) ?_
      case hr4 => simp only [List.getElem?_toArray, List.getElem?_cons_succ, List.getElem?_cons_zero]; rfl
      case wr4 => rfl
      case yr4 => (intro w; go_simp; try with_reducible rfl)
      try simp only [Act.put, List.setIfInBounds_toArray, List.set_cons_zero, List.set_cons_succ]
      refine anyL_take0 (i := 5) (oi := ?or5) (v := ?vr5) ?hr5 (by kernel_rfl) (by kernel_rfl) (by kernel_rfl) (by kernel_rfl) (fun _ _ _ h => h) (Or.inl ⟨?wr5, ?yr5⟩) (Or.inr hS) ?_
      case hr5 => simp only [List.getElem?_toArray, List.getElem?_cons_succ, List.getElem?_cons_zero]; rfl
      case wr5 => rfl
      case yr5 => (intro w; go_simp; try with_reducible rfl)
      try simp only [Act.put, List.setIfInBounds_toArray, List.set_cons_zero, List.set_cons_succ]
      refine anyL_one (i := 6) (o := ?or6) (by kernel_rfl) ?hr6 ?wr6 (fun K hK => ?_)
      case hr6 => simp only [List.getElem?_toArray, List.getElem?_cons_succ, List.getElem?_cons_zero]; rfl
      case wr6 => rfl
      go_simp
      go_at_call 197
      refine (step_c (fun b => D b ∨ w.heap.size ≤ b) A0 c0 A1 c1 A2 c2 A3 c3 d r (n + k) A' c' wd[k] _ ((HC.out.keep HSD.out).mono (fun _ h _ => .inl h.1) |>.below (bel_drew (Below.refl _ _))) (HS1.out.below ints_good (bel_drew (Below.refl _ _))) HD.out HT.out (by omega) (HB.out k hlt)).mono ?_
      rintro e w1 ⟨A2', c2', rfl, hs2, hb2⟩
      have HS2 := Lib.hid hs2
      have HB2 : Hid (Below wr.heap.size wr w1) := Lib.hid (Below.trans (bel_drew (Below.refl _ _)) hb2)
      clear hs2 hb2
      go_wp2_with fail
      refine hK _ _ (fun _ => HSE.out _ HB2.out) ?_
      replace hS := HSE.out _ HB2.out
      clear hK K
      try simp only [Act.put, List.setIfInBounds_toArray, List.set_cons_zero, List.set_cons_succ]
      refine anyL_take0 (i := 7) (oi := ?or7) (v := ?vr7) ?hr7 (by kernel_rfl) (by kernel_rfl) (by kernel_rfl) (by kernel_rfl) (fun _ _ _ h => h) (Or.inl ⟨?wr7, ?yr7⟩) (Or.inr hS) ?_
      case hr7 => simp only [List.getElem?_toArray, List.getElem?_cons_succ, List.getElem?_cons_zero]; rfl
      case wr7 => rfl
      case yr7 => (intro w; go_simp; try with_reducible rfl)
      try simp only [Act.put, List.setIfInBounds_toArray, List.set_cons_zero, List.set_cons_succ]
      refine anyL_take0 (i := 8) (oi := ?or8) (v := ?vr8) ?hr8 (by kernel_rfl) (by kernel_rfl) (by kernel_rfl) (by kernel_rfl) (fun _ _ _ h => h) (Or.inl ⟨?wr8, ?yr8⟩) (Or.inr hS) ?_
      case hr8 => simp only [List.getElem?_toArray, List.getElem?_cons_succ, List.getElem?_cons_zero]; rfl
      case wr8 => rfl
      case yr8 => (intro w; go_simp; try with_reducible rfl)
      try simp only [Act.put, List.setIfInBounds_toArray, List.set_cons_zero, List.set_cons_succ]
      refine anyL_take0 (i := 9) (oi := ?or9) (v := ?vr9) ?hr9 (by kernel_rfl) (by kernel_rfl) (by kernel_rfl) (by kernel_rfl) (fun _ _ _ h => h) (Or.inl ⟨?wr9, ?yr9⟩) (Or.inr hS) ?_
      case hr9 => simp only [List.getElem?_toArray, List.getElem?_cons_succ, List.getElem?_cons_zero]; rfl
      case wr9 => rfl
      case yr9 => (intro w; go_simp; try with_reducible rfl)
      try simp only [Act.put, List.setIfInBounds_toArray, List.set_cons_zero, List.set_cons_succ]
      refine anyL_take0 (i := 10) (oi := ?or10) (v := ?vr10) ?hr10 (by kernel_rfl) (by kernel_rfl) (by kernel_rfl) (by kernel_rfl) (fun _ _ _ h => h) (Or.inl ⟨?wr10, ?yr10⟩) (Or.inr hS) ?_
      case hr10 => simp only [List.getElem?_toArray, List.getElem?_cons_succ, List.getElem?_cons_zero]; rfl
      case wr10 => rfl
      case yr10 => (intro w; go_simp; try with_reducible rfl)
      try simp only [Act.put, List.setIfInBounds_toArray, List.set_cons_zero, List.set_cons_succ]
      refine anyL_take0 (i := 11) (oi := ?or11) (v := ?vr11) ?hr11 (by kernel_rfl) (by kernel_rfl) (by kernel_rfl) (by kernel_rfl) (fun _ _ _ h => h) (Or.inl ⟨?wr11, ?yr11⟩) (Or.inr hS) ?_
      case hr11 => simp only [List.getElem?_toArray, List.getElem?_cons_succ, List.getElem?_cons_zero]; rfl
      case wr11 => rfl
      case yr11 => (intro w; go_simp; try with_reducible rfl)
      try simp only [Act.put, List.setIfInBounds_toArray, List.set_cons_zero, List.set_cons_succ]
      refine anyL_end (by kernel_rfl) ?_ _
      have HTQ : Hid ((∃ v, w1.cell? ⟨p1, 0, none⟩ = some v) ∧ (∃ v, w1.cell? ⟨p2, 0, none⟩ = some v) ∧ w1.frozen? ⟨p1, 0, none⟩ = false ∧ w1.frozen? ⟨p2, 0, none⟩ = false) := Lib.hid (by
        obtain ⟨c1', f1', ⟨_, _, c2', _⟩, f2'⟩ := HTW.out
        obtain ⟨q1, q2⟩ := bcell HB2.out (Nat.le_refl _)
        exact ⟨⟨_, (q1 _ _ (lt_of_cell c1')).trans c1'⟩, ⟨_, (q1 _ _ (lt_of_cell c2')).trans c2'⟩, (q2 _ _ (lt_of_cell c1')).trans f1', (q2 _ _ (lt_of_cell c2')).trans f2'⟩)
      have HSR : Hid (Sl 1 (elInt .i64) (fun b => D b ∨ w.heap.size ≤ b) w1 A2' c2' (stepC d r.1 r.2 wd[k]).2) := Lib.hid (HS2.out.mono ints_good fun b h _ => h.elim id fun h => .inr (Nat.le_trans (Nat.le_trans HBW.out.size HB1.out.size) h))
      have HG2 := Lib.hid (stepC_at HD.out HT.out (HB.out k hlt))
      generalize stepC d r.1 r.2 wd[k] = r2 at *
      go_wp2_with (go_at_call 156; refine (end1_c r2.1 _ A2' r2.2.length c2' p1 p2 w1 rfl HTQ.out.1 HTQ.out.2.1 HTQ.out.2.2.1 HTQ.out.2.2.2 HNE.out).mono ?_; rintro e w2 ⟨rfl, hw2⟩; have H2 : Hid (TwoAt (fun b => D b ∨ w.heap.size ≤ b) w2 p1 p2 (r2.1, r2.2)) := Lib.hid (hw2 ▸ TwoAt.put HNE.out HTQ.out.1 HTQ.out.2.1 HTQ.out.2.2.1 HTQ.out.2.2.2 HSR.out HDP.out); have HT2 : Hid (But (Two p1 p2) w1 w2) := Lib.hid (hw2 ▸ But.set (a := ⟨p2, 0, none⟩) (But.set (a := ⟨p1, 0, none⟩) (But.refl _ _) (.inr (.inl rfl))) (.inr (.inr rfl))); clear hw2)
      go_roundg (wd.size - (k + 1))
      case measure => have := HZ.out; omega
      case rel =>
        refine ⟨k + 1, by omega, rfl, by go_num, ?_⟩
        rw [HG.out]
        exact ⟨rfl, ⟨A2', c2', rfl, HSR.out.but ints_good HT2.out fun j hj e => e.elim (HDP.out j hj).1 (HDP.out j hj).2⟩, HG2.out, H2.out, (HB1.out.trans (E' := Two p1 p2) (But.of_below HB2.out) fun _ _ h => h).trans HT2.out fun _ _ h => h⟩
    · have HG := goC_all (d := d) (s := p.1) (st := p.2) wd k (by omega)
      rw [← HQ.out] at HG
      generalize goC d p.1 p.2 (wd.data.toList.take k) = r at *
      subst HG
      go_wp2_with fail
      exact Go.Great.bodyPost_end0 rfl rfl ⟨rfl, HTW.out, (But.of_below HBW.out).trans HB1.out fun _ _ h => h⟩
end Go.Proofs.YtcagdmaiemmfgaaGreat
