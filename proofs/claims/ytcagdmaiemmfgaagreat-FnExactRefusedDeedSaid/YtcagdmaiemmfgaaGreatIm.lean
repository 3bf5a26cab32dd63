/- The program's works: a deed; for all valid streams and deeds. -/
import Derived.Test.YtcagdmaiemmfgaaGreatIl
namespace Go.Proofs.YtcagdmaiemmfgaaGreat
open Go.RowKit

/-- What a deed does to the works. -/
def RetWork (B g : Nat) (d : Chk) (p : List ByteArray) (n : PlantP) (x : Deed) (w : World) (e : Ending) (w' : World) : Prop :=
  ∃ A' c' A2' c2', e = .returned (.int .i64 (doC d p n x).2) ∧ WorkS B w' g d p (doC d p n x).1 A' c' A2' c2' ∧ Below B w w'
set_option maxHeartbeats 8000000 in
set_option maxRecDepth 100000 in
theorem wsend_back (B : Nat) (g : Nat) (dk sv : DeskP) (ws : List ParcelP) (A : Option Addr) (c : Nat) (A2 : Option Addr) (c2 : Nat) (d : Chk) (p : List ByteArray) (an bn : Nat) (w : World) (h : WorkS B w g d p ⟨dk, sv, ws⟩ A c A2 c2) (hd : Dim d) (hw : ∀ s ∈ p, okWord s = true) (hp : p.length ≤ 20)
    (ho : PlantOk d p ⟨dk, sv, ws⟩) (hx : okDeed ⟨1, an, bn⟩ = true) (hab : bn < an) :
    Calls Tryz.prog 107 #[.pointer (some ⟨g, 0, none⟩), .agg #[.int .i64 1, .int .i64 an, .int .i64 bn]] w (RetWork B g d p ⟨dk, sv, ws⟩ ⟨1, an, bn⟩ w) := by
  have HR := Lib.hid h
  have HO := Lib.hid ho
  have HD := Lib.hid hd
  have HW := Lib.hid hw
  have HLo := Lib.hid h.lo
  have HBw : Hid (B ≤ w.heap.size) := Lib.hid (Nat.le_trans h.lo (Nat.le_of_lt h.lt))
  have hl12 : ws.length ≤ 12 := ho.len
  have lg := h.lt
  have b99 : bn ≤ 999 := by have := (okDeed_a hx).2.2; simp only at this; omega
  have a99 : an ≤ 999 := by have := (okDeed_a hx).1.2; simp only at this; omega
  clear h ho hd hw hx
  obtain ⟨W, hWe⟩ : ∃ W, W = w.alloc (.cells #[.int .i64 1, .int .i64 an, .int .i64 bn] 150) := ⟨_, rfl⟩
  obtain ⟨bd, hbd⟩ : ∃ bd, bd = w.heap.size := ⟨_, rfl⟩
  have HBW : Hid (Below w.heap.size w W) := Lib.hid (hWe ▸ bel1 w _)
  have HRW : Hid (WorkS B W g d p ⟨dk, sv, ws⟩ A c A2 c2) := Lib.hid (HR.out.below HBW.out)
  have E0 : W.cell? ⟨bd, 0, none⟩ = some (.int .i64 1) := by rw [hWe, hbd, cell_new]; rfl
  have E1 : W.cell? ⟨bd, 1, none⟩ = some (.int .i64 an) := by rw [hWe, hbd, cell_new]; rfl
  have E2 : W.cell? ⟨bd, 2, none⟩ = some (.int .i64 bn) := by rw [hWe, hbd, cell_new]; rfl
  have HWe := Lib.hid hWe
  have HBD := Lib.hid hbd
  clear hWe hbd
  have e8W : W.cell? ⟨g, 8, none⟩ = some (.slice A ws.length c) := HRW.out.wire
  obtain ⟨X0, y0, X1, y1, X2, y2, X3, y3, AP, cp, _, _, _, _, _, _, e15W, _, hpc⟩ := HRW.out.str.chk
  simp only [Nat.reduceAdd] at e15W
  have HPC := Lib.hid hpc
  have hcp : p.length ≤ cp := hpc.1
  have lp : p.length ≤ 9223372036854775807 := by omega
  clear hpc
  have HX : Hid (doC d p ⟨dk, sv, ws⟩ ⟨1, an, bn⟩ = (⟨dk, sv, ws⟩, 2)) := Lib.hid (by
    unfold doC
    rw [if_pos rfl, if_pos (Or.inl (by simp only; omega))])
  go_enter Tryz.func107, Tryz.ntmps107
  go_wp2_with fail
  rw [← HWe.out, ← HBD.out]
  go_quiet ((go_at_call 172; exact Calls.quiet_of_same ((sizeS_c _ _ _ _).mono fun _ _ h => ⟨h.1, h.2.symm⟩)))
  go_wp2_with fail
  go_ret
  refine ⟨A, c, A2, c2, by rw [HX.out]; rfl, ?_, ?_⟩
  · rw [HX.out]
    exact HRW.out.below (drewN_below _ _)
  · exact (HBW.out.trans ((drewN_below _ _).mono HBW.out.size)).mono HBw.out
set_option maxHeartbeats 8000000 in
set_option maxRecDepth 100000 in
theorem wsend_far (B : Nat) (g : Nat) (dk sv : DeskP) (ws : List ParcelP) (A : Option Addr) (c : Nat) (A2 : Option Addr) (c2 : Nat) (d : Chk) (p : List ByteArray) (an bn : Nat) (w : World) (h : WorkS B w g d p ⟨dk, sv, ws⟩ A c A2 c2) (hd : Dim d) (hw : ∀ s ∈ p, okWord s = true) (hp : p.length ≤ 20)
    (ho : PlantOk d p ⟨dk, sv, ws⟩) (hx : okDeed ⟨1, an, bn⟩ = true) (hab : an ≤ bn) (hbp : p.length ≤ bn) :
    Calls Tryz.prog 107 #[.pointer (some ⟨g, 0, none⟩), .agg #[.int .i64 1, .int .i64 an, .int .i64 bn]] w (RetWork B g d p ⟨dk, sv, ws⟩ ⟨1, an, bn⟩ w) := by
  have HR := Lib.hid h
  have HO := Lib.hid ho
  have HD := Lib.hid hd
  have HW := Lib.hid hw
  have HLo := Lib.hid h.lo
  have HBw : Hid (B ≤ w.heap.size) := Lib.hid (Nat.le_trans h.lo (Nat.le_of_lt h.lt))
  have hl12 : ws.length ≤ 12 := ho.len
  have lg := h.lt
  have b99 : bn ≤ 999 := by have := (okDeed_a hx).2.2; simp only at this; omega
  have a99 : an ≤ 999 := by have := (okDeed_a hx).1.2; simp only at this; omega
  clear h ho hd hw hx
  obtain ⟨W, hWe⟩ : ∃ W, W = w.alloc (.cells #[.int .i64 1, .int .i64 an, .int .i64 bn] 150) := ⟨_, rfl⟩
  obtain ⟨bd, hbd⟩ : ∃ bd, bd = w.heap.size := ⟨_, rfl⟩
  have HBW : Hid (Below w.heap.size w W) := Lib.hid (hWe ▸ bel1 w _)
  have HRW : Hid (WorkS B W g d p ⟨dk, sv, ws⟩ A c A2 c2) := Lib.hid (HR.out.below HBW.out)
  have E0 : W.cell? ⟨bd, 0, none⟩ = some (.int .i64 1) := by rw [hWe, hbd, cell_new]; rfl
  have E1 : W.cell? ⟨bd, 1, none⟩ = some (.int .i64 an) := by rw [hWe, hbd, cell_new]; rfl
  have E2 : W.cell? ⟨bd, 2, none⟩ = some (.int .i64 bn) := by rw [hWe, hbd, cell_new]; rfl
  have HWe := Lib.hid hWe
  have HBD := Lib.hid hbd
  clear hWe hbd
  have e8W : W.cell? ⟨g, 8, none⟩ = some (.slice A ws.length c) := HRW.out.wire
  obtain ⟨X0, y0, X1, y1, X2, y2, X3, y3, AP, cp, _, _, _, _, _, _, e15W, _, hpc⟩ := HRW.out.str.chk
  simp only [Nat.reduceAdd] at e15W
  have HPC := Lib.hid hpc
  have hcp : p.length ≤ cp := hpc.1
  have lp : p.length ≤ 9223372036854775807 := by omega
  clear hpc
  have HX : Hid (doC d p ⟨dk, sv, ws⟩ ⟨1, an, bn⟩ = (⟨dk, sv, ws⟩, 2)) := Lib.hid (by
    unfold doC
    rw [if_pos rfl, if_pos (Or.inr (by simp only; omega))])
  have hab2 : ¬ bn < an := by omega
  go_enter Tryz.func107, Tryz.ntmps107
  go_wp2_with fail
  rw [← HWe.out, ← HBD.out]
  go_quiet ((go_at_call 172; exact Calls.quiet_of_same ((sizeS_c _ _ _ _).mono fun _ _ h => ⟨h.1, h.2.symm⟩)))
  go_wp2_with fail
  go_ret
  refine ⟨A, c, A2, c2, by rw [HX.out]; rfl, ?_, ?_⟩
  · rw [HX.out]
    exact HRW.out.below (drewN_below _ _)
  · exact (HBW.out.trans ((drewN_below _ _).mono HBW.out.size)).mono HBw.out
set_option maxHeartbeats 8000000 in
set_option maxRecDepth 100000 in
theorem wsend_full (B : Nat) (g : Nat) (dk sv : DeskP) (ws : List ParcelP) (A : Option Addr) (c : Nat) (A2 : Option Addr) (c2 : Nat) (d : Chk) (p : List ByteArray) (an bn : Nat) (w : World) (h : WorkS B w g d p ⟨dk, sv, ws⟩ A c A2 c2) (hd : Dim d) (hw : ∀ s ∈ p, okWord s = true) (hp : p.length ≤ 20)
    (ho : PlantOk d p ⟨dk, sv, ws⟩) (hx : okDeed ⟨1, an, bn⟩ = true) (hab : an ≤ bn) (hbp : bn < p.length) (hf : ws.length = 12) :
    Calls Tryz.prog 107 #[.pointer (some ⟨g, 0, none⟩), .agg #[.int .i64 1, .int .i64 an, .int .i64 bn]] w (RetWork B g d p ⟨dk, sv, ws⟩ ⟨1, an, bn⟩ w) := by
  have HR := Lib.hid h
  have HO := Lib.hid ho
  have HD := Lib.hid hd
  have HW := Lib.hid hw
  have HLo := Lib.hid h.lo
  have HBw : Hid (B ≤ w.heap.size) := Lib.hid (Nat.le_trans h.lo (Nat.le_of_lt h.lt))
  have hl12 : ws.length ≤ 12 := ho.len
  have lg := h.lt
  have b99 : bn ≤ 999 := by have := (okDeed_a hx).2.2; simp only at this; omega
  have a99 : an ≤ 999 := by have := (okDeed_a hx).1.2; simp only at this; omega
  clear h ho hd hw hx
  obtain ⟨W, hWe⟩ : ∃ W, W = w.alloc (.cells #[.int .i64 1, .int .i64 an, .int .i64 bn] 150) := ⟨_, rfl⟩
  obtain ⟨bd, hbd⟩ : ∃ bd, bd = w.heap.size := ⟨_, rfl⟩
  have HBW : Hid (Below w.heap.size w W) := Lib.hid (hWe ▸ bel1 w _)
  have HRW : Hid (WorkS B W g d p ⟨dk, sv, ws⟩ A c A2 c2) := Lib.hid (HR.out.below HBW.out)
  have E0 : W.cell? ⟨bd, 0, none⟩ = some (.int .i64 1) := by rw [hWe, hbd, cell_new]; rfl
  have E1 : W.cell? ⟨bd, 1, none⟩ = some (.int .i64 an) := by rw [hWe, hbd, cell_new]; rfl
  have E2 : W.cell? ⟨bd, 2, none⟩ = some (.int .i64 bn) := by rw [hWe, hbd, cell_new]; rfl
  have HWe := Lib.hid hWe
  have HBD := Lib.hid hbd
  clear hWe hbd
  have e8W : W.cell? ⟨g, 8, none⟩ = some (.slice A ws.length c) := HRW.out.wire
  obtain ⟨X0, y0, X1, y1, X2, y2, X3, y3, AP, cp, _, _, _, _, _, _, e15W, _, hpc⟩ := HRW.out.str.chk
  simp only [Nat.reduceAdd] at e15W
  have HPC := Lib.hid hpc
  have hcp : p.length ≤ cp := hpc.1
  have lp : p.length ≤ 9223372036854775807 := by omega
  clear hpc
  have HX : Hid (doC d p ⟨dk, sv, ws⟩ ⟨1, an, bn⟩ = (⟨dk, sv, ws⟩, 3)) := Lib.hid (by
    unfold doC
    rw [if_pos rfl, if_neg (by simp only; omega), if_pos hf])
  have hab2 : ¬ bn < an := by omega
  have hbp2 : ¬ p.length ≤ bn := by omega
  have hf2 : ((ws.length : Int) == 12) = true := by rw [beq_iff_eq]; omega
  clear hf
  go_enter Tryz.func107, Tryz.ntmps107
  go_wp2_with fail
  rw [← HWe.out, ← HBD.out]
  go_quiet ((go_at_call 172; exact Calls.quiet_of_same ((sizeS_c _ _ _ _).mono fun _ _ h => ⟨h.1, h.2.symm⟩)))
  go_wp2_with fail
  go_ret
  refine ⟨A, c, A2, c2, by rw [HX.out]; rfl, ?_, ?_⟩
  · rw [HX.out]
    exact HRW.out.below (drewN_below _ _)
  · exact (HBW.out.trans ((drewN_below _ _).mono HBW.out.size)).mono HBw.out
set_option maxHeartbeats 8000000 in
set_option maxRecDepth 100000 in
theorem wsend_on (B : Nat) (g : Nat) (dk sv : DeskP) (ws : List ParcelP) (A : Option Addr) (c : Nat) (A2 : Option Addr) (c2 : Nat) (d : Chk) (p : List ByteArray) (an bn : Nat) (w : World) (h : WorkS B w g d p ⟨dk, sv, ws⟩ A c A2 c2) (hd : Dim d) (hw : ∀ s ∈ p, okWord s = true) (hp : p.length ≤ 20)
    (ho : PlantOk d p ⟨dk, sv, ws⟩) (hx : okDeed ⟨1, an, bn⟩ = true) (hab : an ≤ bn) (hbp : bn < p.length) (hf : ws.length ≠ 12) :
    Calls Tryz.prog 107 #[.pointer (some ⟨g, 0, none⟩), .agg #[.int .i64 1, .int .i64 an, .int .i64 bn]] w (RetWork B g d p ⟨dk, sv, ws⟩ ⟨1, an, bn⟩ w) := by
  have HR := Lib.hid h
  have HO := Lib.hid ho
  have HD := Lib.hid hd
  have HW := Lib.hid hw
  have HLo := Lib.hid h.lo
  have HBw : Hid (B ≤ w.heap.size) := Lib.hid (Nat.le_trans h.lo (Nat.le_of_lt h.lt))
  have hl12 : ws.length ≤ 12 := ho.len
  have lg := h.lt
  have b99 : bn ≤ 999 := by have := (okDeed_a hx).2.2; simp only at this; omega
  have a99 : an ≤ 999 := by have := (okDeed_a hx).1.2; simp only at this; omega
  clear h ho hd hw hx
  obtain ⟨W, hWe⟩ : ∃ W, W = w.alloc (.cells #[.int .i64 1, .int .i64 an, .int .i64 bn] 150) := ⟨_, rfl⟩
  obtain ⟨bd, hbd⟩ : ∃ bd, bd = w.heap.size := ⟨_, rfl⟩
  have HBW : Hid (Below w.heap.size w W) := Lib.hid (hWe ▸ bel1 w _)
  have HRW : Hid (WorkS B W g d p ⟨dk, sv, ws⟩ A c A2 c2) := Lib.hid (HR.out.below HBW.out)
  have E0 : W.cell? ⟨bd, 0, none⟩ = some (.int .i64 1) := by rw [hWe, hbd, cell_new]; rfl
  have E1 : W.cell? ⟨bd, 1, none⟩ = some (.int .i64 an) := by rw [hWe, hbd, cell_new]; rfl
  have E2 : W.cell? ⟨bd, 2, none⟩ = some (.int .i64 bn) := by rw [hWe, hbd, cell_new]; rfl
  have HWe := Lib.hid hWe
  have HBD := Lib.hid hbd
  clear hWe hbd
  have e8W : W.cell? ⟨g, 8, none⟩ = some (.slice A ws.length c) := HRW.out.wire
  obtain ⟨X0, y0, X1, y1, X2, y2, X3, y3, AP, cp, _, _, _, _, _, _, e15W, _, hpc⟩ := HRW.out.str.chk
  simp only [Nat.reduceAdd] at e15W
  have HPC := Lib.hid hpc
  have hcp : p.length ≤ cp := hpc.1
  have lp : p.length ≤ 9223372036854775807 := by omega
  clear hpc
  have hab2 : ¬ bn < an := by omega
  have hbp2 : ¬ p.length ≤ bn := by omega
  have hf2 : ((ws.length : Int) == 12) = false := beq_eq_false_iff_ne.2 (by omega)
  have HX : Hid (doC d p ⟨dk, sv, ws⟩ ⟨1, an, bn⟩ = (⟨dk, sv, ws ++ [⟨an, (p.drop an).take (bn + 1 - an)⟩]⟩, 0)) := Lib.hid (by
    unfold doC
    rw [if_pos rfl, if_neg (by simp only; omega), if_neg hf]
    simp only [Int.toNat_natCast]
    rw [show ((bn : Int) + 1 - an).toNat = bn + 1 - an by omega])
  clear hf
  have hws : IntKind.i64.wrap ((bn : Int) + 1) = (bn : Int) + 1 := by rw [IntKind.wrap_i64]; omega
  obtain ⟨tx, htx⟩ : ∃ tx, tx = (p.drop an).take (bn + 1 - an) := ⟨_, rfl⟩
  have HTX : Hid (tx.length = bn + 1 - an) := Lib.hid (by rw [htx]; simp; omega)
  have HTD : Hid (tx = (p.take (bn + 1)).drop an) := Lib.hid (by rw [htx, List.drop_take])
  rw [← htx] at HX
  have tx20 : tx.length ≤ 20 := by rw [HTX.out]; omega
  obtain ⟨AF, hAF⟩ : ∃ AF, AF = from_ AP cp an 1 := ⟨_, rfl⟩
  have HPW : Hid (∀ w', Below W.heap.size W w' → Sl 1 elStr (fun k => k < B) w' AF (cp - an) tx) := Lib.hid fun w' hb => by
    rw [hAF, HTD.out]
    exact (HPC.out.below elStr_good hb).part (by omega) (by omega)
  have hq1 : ∀ w, (Instr.slice 52 (.slice AP p.length cp) (some (.int .i64 (an : Int))) (some (.int .i64 ((bn : Int) + 1))) none).run Tryz.prog w = .ok (.slice AF tx.length (cp - an)) w := by
    intro w
    rw [hAF, HTX.out]
    exact run_part w _ _ _ _ _ _ _ _ _ _ rfl (by omega) Tryz.underlying52 (by kernel_rfl) (by omega) (by omega)
  clear hAF htx
  obtain ⟨S, hSI, hSE⟩ : ∃ S : World → Prop, (∀ w', S w' ↔ w'.cell? ⟨g, 8, none⟩ = some (.slice A ws.length c) ∧ w'.cell? ⟨g, 15, none⟩ = some (.slice AP p.length cp) ∧ w'.cell? ⟨bd, 1, none⟩ = some (.int .i64 an) ∧ w'.cell? ⟨bd, 2, none⟩ = some (.int .i64 bn)) ∧ ∀ w2, Below W.heap.size W w2 → S w2 := by
    refine ⟨fun w' => w'.cell? ⟨g, 8, none⟩ = some (.slice A ws.length c) ∧ w'.cell? ⟨g, 15, none⟩ = some (.slice AP p.length cp) ∧ w'.cell? ⟨bd, 1, none⟩ = some (.int .i64 an) ∧ w'.cell? ⟨bd, 2, none⟩ = some (.int .i64 bn), fun w' => Iff.rfl, fun w2 h => ?_⟩
    have h2 := (bcell h (Nat.le_refl _)).1
    exact ⟨(h2 _ _ HRW.out.lt).trans HRW.out.wire, (h2 _ _ HRW.out.lt).trans e15W, (h2 _ _ (lt_of_cell E1)).trans E1, (h2 _ _ (lt_of_cell E2)).trans E2⟩
  have HSC := Lib.hid fun w' => (hSI w').2
  have HSI := Lib.hid fun w' => (hSI w').1
  have HSE := Lib.hid hSE
  clear hSI hSE
  go_enter Tryz.func107, Tryz.ntmps107
  go_wp2_with fail
  rw [← HWe.out, ← HBD.out]
  go_quiet ((go_at_call 172; exact Calls.quiet_of_same ((sizeS_c _ _ _ _).mono fun _ _ h => ⟨h.1, h.2.symm⟩)))
  go_wp2_with fail
  refine wp_region_L [25] S (by kernel_rfl) (HSE.out _ (bel_drew (drewN_below _ _))) (fun hS => ?_)
  refine anyL_take0 (i := 0) (oi := ?os0) (v := ?vs0) ?hs0 (by kernel_rfl) (by kernel_rfl) (by kernel_rfl) (by kernel_rfl) (fun _ _ _ h => h) (Or.inl ⟨?ws0, ?ys0⟩) (Or.inr hS) ?_
  case hs0 => simp only [List.getElem?_toArray, List.getElem?_cons_zero]; rfl
  case ws0 => rfl
  case ys0 => (intro w; go_simp; try with_reducible rfl)
  try simp only [Act.put, List.setIfInBounds_toArray, List.set_cons_zero, List.set_cons_succ]
  refine anyL_take0 (i := 1) (oi := ?os1) (v := ?vs1) ?hs1 (by kernel_rfl) (by kernel_rfl) (by kernel_rfl) (by kernel_rfl) (fun _ _ _ h => h) (Or.inl ⟨?ws1, ?ys1⟩) (Or.inr hS) ?_
  case hs1 => simp only [List.getElem?_toArray, List.getElem?_cons_succ, List.getElem?_cons_zero]; rfl
  case ws1 => rfl
  case ys1 => (intro w; go_simp; try with_reducible rfl)
  try simp only [Act.put, List.setIfInBounds_toArray, List.set_cons_zero, List.set_cons_succ]
  refine anyL_take0 (i := 2) (oi := ?os2) (v := ?vs2) ?hs2 (by kernel_rfl) (by kernel_rfl) (by kernel_rfl) (by kernel_rfl) (fun _ _ _ h => h) (Or.inl ⟨?ws2, ?ys2⟩) (Or.inr hS) ?_
  case hs2 => simp only [List.getElem?_toArray, List.getElem?_cons_succ, List.getElem?_cons_zero]; rfl
  case ws2 => rfl
  case ys2 => (intro w; go_simp; try with_reducible rfl)
  try simp only [Act.put, List.setIfInBounds_toArray, List.set_cons_zero, List.set_cons_succ]
  refine anyL_take0 (i := 3) (oi := ?os3) (v := ?vs3) ?hs3 (by kernel_rfl) (by kernel_rfl) (by kernel_rfl) (by kernel_rfl) (fun _ _ _ h => h) (Or.inl ⟨?ws3, ?ys3⟩) (Or.inr hS) ?_
  case hs3 => simp only [List.getElem?_toArray, List.getElem?_cons_succ, List.getElem?_cons_zero]; rfl
  case ws3 => rfl
  case ys3 => (intro w; go_simp; try with_reducible rfl)
  try simp only [Act.put, List.setIfInBounds_toArray, List.set_cons_zero, List.set_cons_succ]
  refine anyL_take0 (i := 4) (oi := ?os4) (v := ?vs4) ?hs4 (by kernel_rfl) (by kernel_rfl) (by kernel_rfl) (by kernel_rfl) (fun _ _ _ h => h) (Or.inl ⟨?ws4, ?ys4⟩) (Or.inr hS) ?_
  case hs4 => simp only [List.getElem?_toArray, List.getElem?_cons_succ, List.getElem?_cons_zero]; rfl
  case ws4 => rfl
  case ys4 => (intro w; go_simp; try with_reducible rfl)
  try simp only [Act.put, List.setIfInBounds_toArray, List.set_cons_zero, List.set_cons_succ]
  refine anyL_take (i := 5) (oi := ?os5) (v := ?vs5) ?hs5 (by kernel_rfl) (by kernel_rfl) (by kernel_rfl) (by kernel_rfl) (by kernel_rfl) (fun _ _ _ h => h) (Or.inl ⟨?ws5, ?ys5⟩) hS ?_
  case hs5 => simp only [List.getElem?_toArray, List.getElem?_cons_succ, List.getElem?_cons_zero]; rfl
  case ws5 => rfl
  case ys5 => (intro w hSw; replace hSw := HSI.out _ hSw; go_simp; try with_reducible rfl)
  try simp only [Act.put, List.setIfInBounds_toArray, List.set_cons_zero, List.set_cons_succ]
  refine anyL_take0 (i := 6) (oi := ?os6) (v := ?vs6) ?hs6 (by kernel_rfl) (by kernel_rfl) (by kernel_rfl) (by kernel_rfl) (fun _ _ _ h => h) (Or.inl ⟨?ws6, ?ys6⟩) (Or.inr hS) ?_
  case hs6 => simp only [List.getElem?_toArray, List.getElem?_cons_succ, List.getElem?_cons_zero]; rfl
  case ws6 => rfl
  case ys6 => (intro w; go_simp; try with_reducible rfl)
  try simp only [Act.put, List.setIfInBounds_toArray, List.set_cons_zero, List.set_cons_succ]
  refine anyL_take (i := 7) (oi := ?os7) (v := ?vs7) ?hs7 (by kernel_rfl) (by kernel_rfl) (by kernel_rfl) (by kernel_rfl) (by kernel_rfl) (fun _ _ _ h => h) (Or.inl ⟨?ws7, ?ys7⟩) hS ?_
  case hs7 => simp only [List.getElem?_toArray, List.getElem?_cons_succ, List.getElem?_cons_zero]; rfl
  case ws7 => rfl
  case ys7 => (intro w hSw; replace hSw := HSI.out _ hSw; go_simp; try with_reducible rfl)
  try simp only [Act.put, List.setIfInBounds_toArray, List.set_cons_zero, List.set_cons_succ]
  refine anyL_take0 (i := 8) (oi := ?os8) (v := ?vs8) ?hs8 (by kernel_rfl) (by kernel_rfl) (by kernel_rfl) (by kernel_rfl) (fun _ _ _ h => h) (Or.inl ⟨?ws8, ?ys8⟩) (Or.inr hS) ?_
  case hs8 => simp only [List.getElem?_toArray, List.getElem?_cons_succ, List.getElem?_cons_zero]; rfl
  case ws8 => rfl
  case ys8 => (intro w; go_simp; try with_reducible rfl)
  try simp only [Act.put, List.setIfInBounds_toArray, List.set_cons_zero, List.set_cons_succ]
  refine anyL_take0 (i := 9) (oi := ?os9) (v := ?vs9) ?hs9 (by kernel_rfl) (by kernel_rfl) (by kernel_rfl) (by kernel_rfl) (fun _ _ _ h => h) (Or.inl ⟨?ws9, ?ys9⟩) (Or.inr hS) ?_
  case hs9 => simp only [List.getElem?_toArray, List.getElem?_cons_succ, List.getElem?_cons_zero]; rfl
  case ws9 => rfl
  case ys9 => (intro w; go_simp; try with_reducible rfl)
  try simp only [Act.put, List.setIfInBounds_toArray, List.set_cons_zero, List.set_cons_succ]
  refine anyL_take0 (i := 10) (oi := ?os10) (v := ?vs10) ?hs10 (by kernel_rfl) (by kernel_rfl) (by kernel_rfl) (by kernel_rfl) (fun _ _ _ h => h) (Or.inl ⟨?ws10, ?ys10⟩) (Or.inr hS) ?_
  case hs10 => simp only [List.getElem?_toArray, List.getElem?_cons_succ, List.getElem?_cons_zero]; rfl
  case ws10 => rfl
  case ys10 => (intro w; go_simp; try with_reducible rfl)
  try simp only [Act.put, List.setIfInBounds_toArray, List.set_cons_zero, List.set_cons_succ]
  refine anyL_take0 (i := 11) (oi := ?os11) (v := ?vs11) ?hs11 (by kernel_rfl) (by kernel_rfl) (by kernel_rfl) (by kernel_rfl) (fun _ _ _ h => h) (Or.inl ⟨?ws11, ?ys11⟩) (Or.inr hS) ?_
  case hs11 => simp only [List.getElem?_toArray, List.getElem?_cons_succ, List.getElem?_cons_zero]; rfl
  case ws11 => rfl
  case ys11 => (intro w; go_simp; try with_reducible rfl)
  try simp only [Act.put, List.setIfInBounds_toArray, List.set_cons_zero, List.set_cons_succ]
  refine anyL_take (i := 12) (oi := ?os12) (v := ?vs12) ?hs12 (by kernel_rfl) (by kernel_rfl) (by kernel_rfl) (by kernel_rfl) (by kernel_rfl) (fun _ _ _ h => h) (Or.inl ⟨?ws12, ?ys12⟩) hS ?_
  case hs12 => simp only [List.getElem?_toArray, List.getElem?_cons_succ, List.getElem?_cons_zero]; rfl
  case ws12 => rfl
  case ys12 => (intro w hSw; replace hSw := HSI.out _ hSw; go_simp; try with_reducible rfl)
  try simp only [Act.put, List.setIfInBounds_toArray, List.set_cons_zero, List.set_cons_succ]
  refine anyL_take0 (i := 13) (oi := ?os13) (v := ?vs13) ?hs13 (by kernel_rfl) (by kernel_rfl) (by kernel_rfl) (by kernel_rfl) (fun _ _ _ h => h) (Or.inl ⟨?ws13, ?ys13⟩) (Or.inr hS) ?_
  case hs13 => simp only [List.getElem?_toArray, List.getElem?_cons_succ, List.getElem?_cons_zero]; rfl
  case ws13 => rfl
  case ys13 => (intro w; go_simp; try with_reducible rfl)
  try simp only [Act.put, List.setIfInBounds_toArray, List.set_cons_zero, List.set_cons_succ]
  refine anyL_take (i := 14) (oi := ?os14) (v := ?vs14) ?hs14 (by kernel_rfl) (by kernel_rfl) (by kernel_rfl) (by kernel_rfl) (by kernel_rfl) (fun _ _ _ h => h) (Or.inl ⟨?ws14, ?ys14⟩) hS ?_
  case hs14 => simp only [List.getElem?_toArray, List.getElem?_cons_succ, List.getElem?_cons_zero]; rfl
  case ws14 => rfl
  case ys14 => (intro w hSw; replace hSw := HSI.out _ hSw; go_simp; try with_reducible rfl)
  try simp only [Act.put, List.setIfInBounds_toArray, List.set_cons_zero, List.set_cons_succ]
  refine anyL_take0 (i := 15) (oi := ?os15) (v := ?vs15) ?hs15 (by kernel_rfl) (by kernel_rfl) (by kernel_rfl) (by kernel_rfl) (fun _ _ _ h => h) (Or.inl ⟨?ws15, ?ys15⟩) (Or.inr hS) ?_
  case hs15 => simp only [List.getElem?_toArray, List.getElem?_cons_succ, List.getElem?_cons_zero]; rfl
  case ws15 => rfl
  case ys15 => (intro w; go_simp; try with_reducible rfl)
  try simp only [Act.put, List.setIfInBounds_toArray, List.set_cons_zero, List.set_cons_succ]
  refine anyL_take (i := 16) (oi := ?os16) (v := ?vs16) ?hs16 (by kernel_rfl) (by kernel_rfl) (by kernel_rfl) (by kernel_rfl) (by kernel_rfl) (fun _ _ _ h => h) (Or.inl ⟨?ws16, ?ys16⟩) hS ?_
  case hs16 => simp only [List.getElem?_toArray, List.getElem?_cons_succ, List.getElem?_cons_zero]; rfl
  case ws16 => rfl
  case ys16 => (intro w hSw; replace hSw := HSI.out _ hSw; go_simp; try with_reducible rfl)
  try simp only [Act.put, List.setIfInBounds_toArray, List.set_cons_zero, List.set_cons_succ]
  refine anyL_take0 (i := 17) (oi := ?os17) (v := ?vs17) ?hs17 (by kernel_rfl) (by kernel_rfl) (by kernel_rfl) (by kernel_rfl) (fun _ _ _ h => h) (Or.inl ⟨?ws17, ?ys17⟩) (Or.inr hS) ?_
  case hs17 => simp only [List.getElem?_toArray, List.getElem?_cons_succ, List.getElem?_cons_zero]; rfl
  case ws17 => rfl
  case ys17 => (intro w; go_simp; try with_reducible rfl)
  try simp only [Act.put, List.setIfInBounds_toArray, List.set_cons_zero, List.set_cons_succ]
  refine anyL_take0 (i := 18) (oi := ?os18) (v := ?vs18) ?hs18 (by kernel_rfl) (by kernel_rfl) (by kernel_rfl) (by kernel_rfl) (fun _ _ _ h => h) (Or.inl ⟨?ws18, ?ys18⟩) (Or.inr hS) ?_
  case hs18 => simp only [List.getElem?_toArray, List.getElem?_cons_succ, List.getElem?_cons_zero]; rfl
  case ws18 => rfl
  case ys18 => (intro w; go_simp; try with_reducible rfl)
  try simp only [Act.put, List.setIfInBounds_toArray, List.set_cons_zero, List.set_cons_succ]
  refine anyL_take0 (i := 19) (oi := ?os19) (v := ?vs19) ?hs19 (by kernel_rfl) (by kernel_rfl) (by kernel_rfl) (by kernel_rfl) (fun _ _ _ h => h) (Or.inl ⟨?ws19, ?ys19⟩) (Or.inr hS) ?_
  case hs19 => simp only [List.getElem?_toArray, List.getElem?_cons_succ, List.getElem?_cons_zero]; rfl
  case ws19 => rfl
  case ys19 => (intro w; go_simp; try with_reducible rfl)
  try simp only [Act.put, List.setIfInBounds_toArray, List.set_cons_zero, List.set_cons_succ]
  refine anyL_one (i := 20) (o := ?os20) (by kernel_rfl) ?hs20 ?ws20 (fun K hK => ?_)
  case hs20 => simp only [List.getElem?_toArray, List.getElem?_cons_succ, List.getElem?_cons_zero]; rfl
  case ws20 => rfl
  go_simp
  refine hK _ _ (fun _ => HSE.out _ (drewA_below _ _ _)) ?_
  replace hS := HSE.out _ (drewA_below W (nq + 1) (.cells #[.int .i64 an, .slice AF tx.length (cp - an)] 170))
  generalize hW6 : (W.drewN (nq + 1)).alloc (.cells #[.int .i64 an, .slice AF tx.length (cp - an)] 170) = W6 at hS ⊢
  have n0 : W6.cell? ⟨W.heap.size, 0, none⟩ = some (.int .i64 an) := by rw [← hW6]; exact cell_new (W.drewN (nq + 1)) _ _ 0
  have n1 : W6.cell? ⟨W.heap.size, 1, none⟩ = some (.slice AF tx.length (cp - an)) := by rw [← hW6]; exact cell_new (W.drewN (nq + 1)) _ _ 1
  have HB6 : Hid (Below W.heap.size W W6) := Lib.hid (by rw [← hW6]; exact drewA_below _ _ _)
  have hz6 : W6.heap.size = W.heap.size + 1 := by rw [← hW6]; simp
  have HZ6 := Lib.hid hz6
  have HR6 : Hid (WorkS B W6 g d p ⟨dk, sv, ws⟩ A c A2 c2) := Lib.hid (HRW.out.below HB6.out)
  have HLY : Hid (Lies 2 elParcel (WorkD W6 g A c A2 c2) W6 (some ⟨W.heap.size, 0, none⟩) [⟨an, tx⟩]) := Lib.hid fun _ => by
    refine ⟨W.heap.size, 0, rfl, fun i y hy => ?_⟩
    have hi : i = 0 := by
      have := (List.getElem?_eq_some_iff.1 hy).1
      simp at this
      exact this
    subst hi
    simp only [List.getElem?_cons_zero, Option.some.injEq] at hy
    subst hy
    exact ⟨n0, AF, cp - an, n1, (HPW.out W6 HB6.out).mono elStr_good fun k hk hl => ⟨hl, fun e => by have := HLo.out; omega, fun e => by have := (HR6.out.ownLo k e).1; omega, fun e => by have := (HR6.out.ownLo2 k e).1; omega⟩⟩
  clear hW6 hz6 n0 n1
  clear hK K
  try simp only [Act.put, List.setIfInBounds_toArray, List.set_cons_zero, List.set_cons_succ]
  refine anyL_one (i := 21) (o := ?os21) (by kernel_rfl) ?hs21 ?ws21 (fun K hK => ?_)
  case hs21 => simp only [List.getElem?_toArray, List.getElem?_cons_succ, List.getElem?_cons_zero]; rfl
  case ws21 => rfl
  refine wp_own _ K elParcel_good elParcel_one (.tmp 82) (.tmp 97) 81 170 rfl Tryz.underlying81 info_toParcel rfl (D := WorkD W6 g A c A2 c2) (A := A) (c := c) (xs := ws) rfl HR6.out.own (ys := [⟨an, tx⟩]) rfl HLY.out (by simp only [maxLen, List.length_singleton]; omega) (by simp only [List.length_singleton]; omega) (fun k hk => hk.1) ?_
  intro A7 c7 w7 ho7 hg7 hor7
  have HR7 : Hid (WorkS B (w7.setCell ⟨g, 8, none⟩ (.slice A7 (ws ++ [(⟨an, tx⟩ : ParcelP)]).length c7)) g d p ⟨dk, sv, ws ++ [⟨an, tx⟩]⟩ A7 c7 A2 c2) := Lib.hid (HR6.out.putWire (fun k hk hne => hg7.block k hk fun e => hne e.symm) hg7.size ho7 fun b hb => hor7.elim (fun h => .inl (h ▸ hb)) fun h => .inr (by rw [h] at hb; injection hb with hb; omega))
  have HB7 : Hid (Below B w w7) := Lib.hid (((HBW.out.trans (HB6.out.mono HBW.out.size)).mono HBw.out).grown hg7 (Nat.le_trans HBw.out (Nat.le_trans HBW.out.size HB6.out.size)) fun b hb => (HR6.out.ownLo b hb).1)
  have hb7 := hg7.block g HR6.out.lt fun e => (HR6.out.ownLo g e.symm).2 rfl
  have z9 := (World.frozen?_of_block (a := ⟨g, 8, none⟩) hb7).trans (HR6.out.free 8)
  have y9 := (World.cell?_of_block (a := ⟨g, 8, none⟩) hb7).trans HR6.out.wire
  have hold : ∀ b o, b < W.heap.size → ownB A c ≠ some b → w7.cell? ⟨b, o, none⟩ = W.cell? ⟨b, o, none⟩ := fun b o hb hne =>
    (World.cell?_of_block (a := ⟨b, o, none⟩) (hg7.block b (Nat.lt_of_lt_of_le hb HB6.out.size) fun e => hne e.symm)).trans (HB6.out.cell (p := ⟨b, o, none⟩) hb)
  have hS7 := HSC.out w7 ⟨y9, (hold _ _ (lt_of_cell e15W) fun e => (HRW.out.ownLo g e).2 rfl).trans e15W, (hold _ _ (lt_of_cell E1) fun e => absurd (HR.out.own.own e).1 (by have := HBD.out; omega)).trans E1, (hold _ _ (lt_of_cell E2) fun e => absurd (HR.out.own.own e).1 (by have := HBD.out; omega)).trans E2⟩
  clear ho7 hg7 hor7 hold hb7
  refine hK _ _ (fun _ => hS7) ?_
  replace hS := hS7
  clear hK K
  try simp only [Act.put, List.setIfInBounds_toArray, List.set_cons_zero, List.set_cons_succ]
  refine anyL_take0 (i := 22) (oi := ?os22) (v := ?vs22) ?hs22 (by kernel_rfl) (by kernel_rfl) (by kernel_rfl) (by kernel_rfl) (fun _ _ _ h => h) (Or.inl ⟨?ws22, ?ys22⟩) (Or.inr hS) ?_
  case hs22 => simp only [List.getElem?_toArray, List.getElem?_cons_succ, List.getElem?_cons_zero]; rfl
  case ws22 => rfl
  case ys22 => (intro w; go_simp; try with_reducible rfl)
  try simp only [Act.put, List.setIfInBounds_toArray, List.set_cons_zero, List.set_cons_succ]
  refine anyL_take0 (i := 23) (oi := ?os23) (v := ?vs23) ?hs23 (by kernel_rfl) (by kernel_rfl) (by kernel_rfl) (by kernel_rfl) (fun _ _ _ h => h) (Or.inl ⟨?ws23, ?ys23⟩) (Or.inr hS) ?_
  case hs23 => simp only [List.getElem?_toArray, List.getElem?_cons_succ, List.getElem?_cons_zero]; rfl
  case ws23 => rfl
  case ys23 => (intro w; go_simp; try with_reducible rfl)
  try simp only [Act.put, List.setIfInBounds_toArray, List.set_cons_zero, List.set_cons_succ]
  refine anyL_take0 (i := 24) (oi := ?os24) (v := ?vs24) ?hs24 (by kernel_rfl) (by kernel_rfl) (by kernel_rfl) (by kernel_rfl) (fun _ _ _ h => h) (Or.inl ⟨?ws24, ?ys24⟩) (Or.inr hS) ?_
  case hs24 => simp only [List.getElem?_toArray, List.getElem?_cons_succ, List.getElem?_cons_zero]; rfl
  case ws24 => rfl
  case ys24 => (intro w; go_simp; try with_reducible rfl)
  try simp only [Act.put, List.setIfInBounds_toArray, List.set_cons_zero, List.set_cons_succ]
  refine anyL_late (i := 25) (o := ?os25) (by kernel_rfl) ?hs25 ?ws25 (by kernel_rfl) (fun K hK => ?_)
  case hs25 => simp only [List.getElem?_toArray, List.getElem?_cons_succ, List.getElem?_cons_zero]; rfl
  case ws25 => rfl
  go_simp
  refine hK _ _ ?_
  clear hK K
  try simp only [Act.put, List.setIfInBounds_toArray, List.set_cons_zero, List.set_cons_succ]
  refine anyL_end (by kernel_rfl) ?_ _
  go_wp2_with fail
  go_ret
  refine ⟨A7, c7, A2, c2, by rw [HX.out]; rfl, by rw [HX.out]; have hf := HR7.out; simp only [List.length_append, List.length_singleton] at hf; exact hf, HB7.out.setCell HLo.out _⟩
set_option maxHeartbeats 8000000 in
set_option maxRecDepth 100000 in
theorem wsave (B : Nat) (g : Nat) (dk sv : DeskP) (ws : List ParcelP) (A : Option Addr) (c : Nat) (A2 : Option Addr) (c2 : Nat) (d : Chk) (p : List ByteArray) (an bn : Nat) (w : World) (h : WorkS B w g d p ⟨dk, sv, ws⟩ A c A2 c2) (hd : Dim d) (hw : ∀ s ∈ p, okWord s = true) (hp : p.length ≤ 20)
    (ho : PlantOk d p ⟨dk, sv, ws⟩) (hx : okDeed ⟨5, an, bn⟩ = true)  :
    Calls Tryz.prog 107 #[.pointer (some ⟨g, 0, none⟩), .agg #[.int .i64 5, .int .i64 an, .int .i64 bn]] w (RetWork B g d p ⟨dk, sv, ws⟩ ⟨5, an, bn⟩ w) := by
  have HR := Lib.hid h
  have HO := Lib.hid ho
  have HD := Lib.hid hd
  have HW := Lib.hid hw
  have HLo := Lib.hid h.lo
  have HBw : Hid (B ≤ w.heap.size) := Lib.hid (Nat.le_trans h.lo (Nat.le_of_lt h.lt))
  have hl12 : ws.length ≤ 12 := ho.len
  have lg := h.lt
  have b99 : bn ≤ 999 := by have := (okDeed_a hx).2.2; simp only at this; omega
  have a99 : an ≤ 999 := by have := (okDeed_a hx).1.2; simp only at this; omega
  clear h ho hd hw hx
  obtain ⟨W, hWe⟩ : ∃ W, W = w.alloc (.cells #[.int .i64 5, .int .i64 an, .int .i64 bn] 150) := ⟨_, rfl⟩
  obtain ⟨bd, hbd⟩ : ∃ bd, bd = w.heap.size := ⟨_, rfl⟩
  have HBW : Hid (Below w.heap.size w W) := Lib.hid (hWe ▸ bel1 w _)
  have HRW : Hid (WorkS B W g d p ⟨dk, sv, ws⟩ A c A2 c2) := Lib.hid (HR.out.below HBW.out)
  have E0 : W.cell? ⟨bd, 0, none⟩ = some (.int .i64 5) := by rw [hWe, hbd, cell_new]; rfl
  have E1 : W.cell? ⟨bd, 1, none⟩ = some (.int .i64 an) := by rw [hWe, hbd, cell_new]; rfl
  have E2 : W.cell? ⟨bd, 2, none⟩ = some (.int .i64 bn) := by rw [hWe, hbd, cell_new]; rfl
  have HWe := Lib.hid hWe
  have HBD := Lib.hid hbd
  clear hWe hbd
  have e8W : W.cell? ⟨g, 8, none⟩ = some (.slice A ws.length c) := HRW.out.wire
  obtain ⟨X0, y0, X1, y1, X2, y2, X3, y3, AP, cp, _, _, _, _, _, _, e15W, _, hpc⟩ := HRW.out.str.chk
  simp only [Nat.reduceAdd] at e15W
  have HPC := Lib.hid hpc
  have hcp : p.length ≤ cp := hpc.1
  have lp : p.length ≤ 9223372036854775807 := by omega
  clear hpc
  have HX : Hid (doC d p ⟨dk, sv, ws⟩ ⟨5, an, bn⟩ = (⟨dk, dk, ws⟩, 0)) := Lib.hid (by
    unfold doC
    simp)
  have ls : dk.stack.length ≤ 1048576 := by have h1 := HO.out.desk.at_.len; have h2 := HO.out.desk.r1; simp only at h1 h2; omega
  have lw : dk.waiting.length ≤ 1048576 := by have h1 := HO.out.desk.waits.length HO.out.desk.r1; have h2 := HO.out.desk.r0; simp only at h1 h2; omega
  have q0 : W.cell? ⟨g, 0, none⟩ = some (.int .i64 dk.read) := HRW.out.read
  have q1 : W.cell? ⟨g, 1, none⟩ = some (.int .i64 dk.state) := HRW.out.state
  obtain ⟨A3, c3, q2, s3⟩ := HRW.out.stack
  have q3 : W.cell? ⟨g, 3, none⟩ = some (.slice A2 dk.waiting.length c2) := HRW.out.wait
  simp only at q2 s3
  have S3 := Lib.hid s3
  have S4 : Hid (Sl 1 (elInt .i64) (fun k => k < W.heap.size) W A2 c2 dk.waiting) := Lib.hid (HRW.out.waitOwn.sl ints_good (fun _ _ hl => hl) fun b _ hl => hl)
  clear s3
  rw [HWe.out] at q0 q1 q2 q3
  go_enter Tryz.func107, Tryz.ntmps107
  go_wp2_with (go_at_call 114; rw [← HWe.out]; refine (copied_c (fun k => k < W.heap.size) A3 c3 A2 c2 dk W (S3.out.mono ints_good fun k hk _ => hk.1) S4.out ls lw).mono ?_; rintro e w1 ⟨A5, c5, A6, c6, rfl, hs1, ho1, hb1⟩; have HS1 := Lib.hid hs1; obtain ⟨A6', c6', hv6, hs6⟩ := ho1.sl; have HS6 := Lib.hid (And.intro hv6 hs6); have HB1 := Lib.hid hb1; have HR1 := Lib.hid (HRW.out.below hb1); obtain ⟨z1, hz1⟩ := HR1.out.cell16 (j := 4) (by omega); obtain ⟨z2, hz2⟩ := HR1.out.cell16 (j := 5) (by omega); obtain ⟨z3, hz3⟩ := HR1.out.cell16 (j := 6) (by omega); obtain ⟨z4, hz4⟩ := HR1.out.cell16 (j := 7) (by omega); have f1 := HR1.out.free 4; have f2 := HR1.out.free 5; have f3 := HR1.out.free 6; have f4 := HR1.out.free 7; clear hs1 ho1 hb1 hv6 hs6)
  go_ret
  obtain ⟨hv6, hs6⟩ := HS6.out
  simp only [Value.slice.injEq] at hv6
  obtain ⟨rfl, _, rfl⟩ := hv6
  refine ⟨A, c, A2, c2, by rw [HX.out]; rfl, by rw [HX.out]; exact HR1.out.putSaved dk (HS1.out.mono ints_good fun k hk hl => HRW.out.new hk.1 hl) (hs6.mono ints_good fun k hk hl => HRW.out.new hk hl), ?_⟩
  exact (((((HBW.out.trans (HB1.out.mono HBW.out.size)).mono HBw.out).setCell HLo.out _).setCell HLo.out _).setCell HLo.out _).setCell HLo.out _
set_option maxHeartbeats 8000000 in
set_option maxRecDepth 100000 in
theorem wcrash (B : Nat) (g : Nat) (dk sv : DeskP) (ws : List ParcelP) (A : Option Addr) (c : Nat) (A2 : Option Addr) (c2 : Nat) (d : Chk) (p : List ByteArray) (an bn : Nat) (w : World) (h : WorkS B w g d p ⟨dk, sv, ws⟩ A c A2 c2) (hd : Dim d) (hw : ∀ s ∈ p, okWord s = true) (hp : p.length ≤ 20)
    (ho : PlantOk d p ⟨dk, sv, ws⟩) (hx : okDeed ⟨6, an, bn⟩ = true)  :
    Calls Tryz.prog 107 #[.pointer (some ⟨g, 0, none⟩), .agg #[.int .i64 6, .int .i64 an, .int .i64 bn]] w (RetWork B g d p ⟨dk, sv, ws⟩ ⟨6, an, bn⟩ w) := by
  have HR := Lib.hid h
  have HO := Lib.hid ho
  have HD := Lib.hid hd
  have HW := Lib.hid hw
  have HLo := Lib.hid h.lo
  have HBw : Hid (B ≤ w.heap.size) := Lib.hid (Nat.le_trans h.lo (Nat.le_of_lt h.lt))
  have hl12 : ws.length ≤ 12 := ho.len
  have lg := h.lt
  have b99 : bn ≤ 999 := by have := (okDeed_a hx).2.2; simp only at this; omega
  have a99 : an ≤ 999 := by have := (okDeed_a hx).1.2; simp only at this; omega
  clear h ho hd hw hx
  obtain ⟨W, hWe⟩ : ∃ W, W = w.alloc (.cells #[.int .i64 6, .int .i64 an, .int .i64 bn] 150) := ⟨_, rfl⟩
  obtain ⟨bd, hbd⟩ : ∃ bd, bd = w.heap.size := ⟨_, rfl⟩
  have HBW : Hid (Below w.heap.size w W) := Lib.hid (hWe ▸ bel1 w _)
  have HRW : Hid (WorkS B W g d p ⟨dk, sv, ws⟩ A c A2 c2) := Lib.hid (HR.out.below HBW.out)
  have E0 : W.cell? ⟨bd, 0, none⟩ = some (.int .i64 6) := by rw [hWe, hbd, cell_new]; rfl
  have E1 : W.cell? ⟨bd, 1, none⟩ = some (.int .i64 an) := by rw [hWe, hbd, cell_new]; rfl
  have E2 : W.cell? ⟨bd, 2, none⟩ = some (.int .i64 bn) := by rw [hWe, hbd, cell_new]; rfl
  have HWe := Lib.hid hWe
  have HBD := Lib.hid hbd
  clear hWe hbd
  have e8W : W.cell? ⟨g, 8, none⟩ = some (.slice A ws.length c) := HRW.out.wire
  obtain ⟨X0, y0, X1, y1, X2, y2, X3, y3, AP, cp, _, _, _, _, _, _, e15W, _, hpc⟩ := HRW.out.str.chk
  simp only [Nat.reduceAdd] at e15W
  have HPC := Lib.hid hpc
  have hcp : p.length ≤ cp := hpc.1
  have lp : p.length ≤ 9223372036854775807 := by omega
  clear hpc
  have HX : Hid (doC d p ⟨dk, sv, ws⟩ ⟨6, an, bn⟩ = (⟨sv, sv, ws⟩, 0)) := Lib.hid (by
    unfold doC
    simp)
  have ls : sv.stack.length ≤ 1048576 := by have h1 := HO.out.saved.at_.len; have h2 := HO.out.saved.r1; simp only at h1 h2; omega
  have lw : sv.waiting.length ≤ 1048576 := by have h1 := HO.out.saved.waits.length HO.out.saved.r1; have h2 := HO.out.saved.r0; simp only at h1 h2; omega
  obtain ⟨q0, q1, ⟨A3, c3, q2, s3⟩, A4, c4, q3, s4⟩ := HRW.out.saved
  simp only [Nat.reduceAdd] at q0 q1 q2 q3
  have S3 := Lib.hid s3
  have S4 := Lib.hid s4
  clear s3 s4
  rw [HWe.out] at q0 q1 q2 q3
  go_enter Tryz.func107, Tryz.ntmps107
  go_wp2_with (go_at_call 114; rw [← HWe.out]; refine (copied_c (WorkD W g A c A2 c2) A3 c3 A4 c4 sv W S3.out S4.out ls lw).mono ?_; rintro e w1 ⟨A5, c5, A6, c6, rfl, hs1, ho1, hb1⟩; have HS1 := Lib.hid hs1; have HO1 := Lib.hid ho1; have HB1 := Lib.hid hb1; have HR1 := Lib.hid (HRW.out.below hb1); obtain ⟨z1, hz1⟩ := HR1.out.cell16 (j := 0) (by omega); obtain ⟨z2, hz2⟩ := HR1.out.cell16 (j := 1) (by omega); obtain ⟨z3, hz3⟩ := HR1.out.cell16 (j := 2) (by omega); obtain ⟨z4, hz4⟩ := HR1.out.cell16 (j := 3) (by omega); have f1 := HR1.out.free 0; have f2 := HR1.out.free 1; have f3 := HR1.out.free 2; have f4 := HR1.out.free 3; clear hs1 ho1 hb1)
  go_ret
  have HN6 : ∀ b, ownB A6 c6 = some b → W.heap.size ≤ b ∧ b < w1.heap.size := fun b hb => by
    have hw : OwnSl 1 (elInt .i64) (fun k => k < W.heap.size) w1 A6 c6 sv.waiting := HO1.out.own fun k hk _ => Nat.not_lt.2 hk
    exact ⟨Nat.not_lt.1 (hw.own hb).2, (hw.own hb).1⟩
  have hWD : ∀ k, WorkD W g A c A2 c2 k → WorkD w1 g A c A6 c6 k := fun k hk => ⟨Nat.lt_of_lt_of_le hk.1 HB1.out.size, hk.2.1, hk.2.2.1, fun e => by have := (HN6 k e).1; have := hk.1; omega⟩
  have hSm : Same (WorkD W g A c A2 c2) W w1 := fun k hk => HB1.out.block k hk.1
  refine ⟨A, c, A6, c6, by rw [HX.out]; rfl, ?_, ?_⟩
  · rw [HX.out]
    refine HR1.out.putDesk sv ?_ ((HO1.out.own (D := fun _ => False) fun _ _ _ h => h).mono ints_good (fun _ h _ => h.elim) fun b hb hd => hd.2.2.2 hb) ?_ ?_ (fun b hb => ?_)
    · exact HS1.out.mono ints_good fun k hk hl => by
        have hw := HRW.out.new (w1 := w1) hk.1 hl
        exact ⟨hw.1, hw.2.1, hw.2.2.1, hk.2⟩
    · exact elDesk_move HRW.out.saved (fun j _ => HB1.out.cell (p := ⟨g, 4 + j, none⟩) HRW.out.lt) hSm hWD
    · exact (HRW.out.own.keep elParcel_good hSm HB1.out.size fun b hb => HB1.out.block b (HRW.out.own.own hb).1).mono elParcel_good (fun k hk _ => hWD k hk) fun b hb hd => hd.2.2.1 hb
    · have h1 := (HN6 b hb).1
      have h2 := HRW.out.lt
      have h3 := HLo.out
      exact ⟨by omega, by omega, fun e => by have := (HRW.out.own.own e).1; omega⟩
  · exact (((((HBW.out.trans (HB1.out.mono HBW.out.size)).mono HBw.out).setCell HLo.out _).setCell HLo.out _).setCell HLo.out _).setCell HLo.out _
set_option maxHeartbeats 8000000 in
set_option maxRecDepth 100000 in
theorem wfar2 (B : Nat) (g : Nat) (dk sv : DeskP) (ws : List ParcelP) (A : Option Addr) (c : Nat) (A2 : Option Addr) (c2 : Nat) (d : Chk) (p : List ByteArray) (an bn : Nat) (w : World) (h : WorkS B w g d p ⟨dk, sv, ws⟩ A c A2 c2) (hd : Dim d) (hw : ∀ s ∈ p, okWord s = true) (hp : p.length ≤ 20)
    (ho : PlantOk d p ⟨dk, sv, ws⟩) (hx : okDeed ⟨2, an, bn⟩ = true) (hlt : ws.length ≤ an) :
    Calls Tryz.prog 107 #[.pointer (some ⟨g, 0, none⟩), .agg #[.int .i64 2, .int .i64 an, .int .i64 bn]] w (RetWork B g d p ⟨dk, sv, ws⟩ ⟨2, an, bn⟩ w) := by
  have HR := Lib.hid h
  have HO := Lib.hid ho
  have HD := Lib.hid hd
  have HW := Lib.hid hw
  have HLo := Lib.hid h.lo
  have HBw : Hid (B ≤ w.heap.size) := Lib.hid (Nat.le_trans h.lo (Nat.le_of_lt h.lt))
  have hl12 : ws.length ≤ 12 := ho.len
  have lg := h.lt
  have b99 : bn ≤ 999 := by have := (okDeed_a hx).2.2; simp only at this; omega
  have a99 : an ≤ 999 := by have := (okDeed_a hx).1.2; simp only at this; omega
  clear h ho hd hw hx
  obtain ⟨W, hWe⟩ : ∃ W, W = w.alloc (.cells #[.int .i64 2, .int .i64 an, .int .i64 bn] 150) := ⟨_, rfl⟩
  obtain ⟨bd, hbd⟩ : ∃ bd, bd = w.heap.size := ⟨_, rfl⟩
  have HBW : Hid (Below w.heap.size w W) := Lib.hid (hWe ▸ bel1 w _)
  have HRW : Hid (WorkS B W g d p ⟨dk, sv, ws⟩ A c A2 c2) := Lib.hid (HR.out.below HBW.out)
  have E0 : W.cell? ⟨bd, 0, none⟩ = some (.int .i64 2) := by rw [hWe, hbd, cell_new]; rfl
  have E1 : W.cell? ⟨bd, 1, none⟩ = some (.int .i64 an) := by rw [hWe, hbd, cell_new]; rfl
  have E2 : W.cell? ⟨bd, 2, none⟩ = some (.int .i64 bn) := by rw [hWe, hbd, cell_new]; rfl
  have HWe := Lib.hid hWe
  have HBD := Lib.hid hbd
  clear hWe hbd
  have e8W : W.cell? ⟨g, 8, none⟩ = some (.slice A ws.length c) := HRW.out.wire
  obtain ⟨X0, y0, X1, y1, X2, y2, X3, y3, AP, cp, _, _, _, _, _, _, e15W, _, hpc⟩ := HRW.out.str.chk
  simp only [Nat.reduceAdd] at e15W
  have HPC := Lib.hid hpc
  have hcp : p.length ≤ cp := hpc.1
  have lp : p.length ≤ 9223372036854775807 := by omega
  clear hpc
  have HX : Hid (doC d p ⟨dk, sv, ws⟩ ⟨2, an, bn⟩ = (⟨dk, sv, ws⟩, 2)) := Lib.hid (by
    unfold doC
    rw [if_neg (by simp), if_neg (by simp), if_neg (by simp), if_pos (by simp only; omega)])
  go_enter Tryz.func107, Tryz.ntmps107
  go_wp2_with fail
  rw [← HWe.out, ← HBD.out]
  go_quiet ((go_at_call 173; exact Calls.quiet_of_same ((sizeR_c _ _ _ _).mono fun _ _ h => ⟨h.1, h.2.symm⟩)))
  go_wp2_with fail
  go_ret
  refine ⟨A, c, A2, c2, by rw [HX.out]; rfl, ?_, ?_⟩
  · rw [HX.out]
    exact HRW.out.below (drewN_below _ _)
  · exact (HBW.out.trans ((drewN_below _ _).mono HBW.out.size)).mono HBw.out
set_option maxHeartbeats 8000000 in
set_option maxRecDepth 100000 in
theorem wfar3 (B : Nat) (g : Nat) (dk sv : DeskP) (ws : List ParcelP) (A : Option Addr) (c : Nat) (A2 : Option Addr) (c2 : Nat) (d : Chk) (p : List ByteArray) (an bn : Nat) (w : World) (h : WorkS B w g d p ⟨dk, sv, ws⟩ A c A2 c2) (hd : Dim d) (hw : ∀ s ∈ p, okWord s = true) (hp : p.length ≤ 20)
    (ho : PlantOk d p ⟨dk, sv, ws⟩) (hx : okDeed ⟨3, an, bn⟩ = true) (hlt : ws.length ≤ an) :
    Calls Tryz.prog 107 #[.pointer (some ⟨g, 0, none⟩), .agg #[.int .i64 3, .int .i64 an, .int .i64 bn]] w (RetWork B g d p ⟨dk, sv, ws⟩ ⟨3, an, bn⟩ w) := by
  have HR := Lib.hid h
  have HO := Lib.hid ho
  have HD := Lib.hid hd
  have HW := Lib.hid hw
  have HLo := Lib.hid h.lo
  have HBw : Hid (B ≤ w.heap.size) := Lib.hid (Nat.le_trans h.lo (Nat.le_of_lt h.lt))
  have hl12 : ws.length ≤ 12 := ho.len
  have lg := h.lt
  have b99 : bn ≤ 999 := by have := (okDeed_a hx).2.2; simp only at this; omega
  have a99 : an ≤ 999 := by have := (okDeed_a hx).1.2; simp only at this; omega
  clear h ho hd hw hx
  obtain ⟨W, hWe⟩ : ∃ W, W = w.alloc (.cells #[.int .i64 3, .int .i64 an, .int .i64 bn] 150) := ⟨_, rfl⟩
  obtain ⟨bd, hbd⟩ : ∃ bd, bd = w.heap.size := ⟨_, rfl⟩
  have HBW : Hid (Below w.heap.size w W) := Lib.hid (hWe ▸ bel1 w _)
  have HRW : Hid (WorkS B W g d p ⟨dk, sv, ws⟩ A c A2 c2) := Lib.hid (HR.out.below HBW.out)
  have E0 : W.cell? ⟨bd, 0, none⟩ = some (.int .i64 3) := by rw [hWe, hbd, cell_new]; rfl
  have E1 : W.cell? ⟨bd, 1, none⟩ = some (.int .i64 an) := by rw [hWe, hbd, cell_new]; rfl
  have E2 : W.cell? ⟨bd, 2, none⟩ = some (.int .i64 bn) := by rw [hWe, hbd, cell_new]; rfl
  have HWe := Lib.hid hWe
  have HBD := Lib.hid hbd
  clear hWe hbd
  have e8W : W.cell? ⟨g, 8, none⟩ = some (.slice A ws.length c) := HRW.out.wire
  obtain ⟨X0, y0, X1, y1, X2, y2, X3, y3, AP, cp, _, _, _, _, _, _, e15W, _, hpc⟩ := HRW.out.str.chk
  simp only [Nat.reduceAdd] at e15W
  have HPC := Lib.hid hpc
  have hcp : p.length ≤ cp := hpc.1
  have lp : p.length ≤ 9223372036854775807 := by omega
  clear hpc
  have HX : Hid (doC d p ⟨dk, sv, ws⟩ ⟨3, an, bn⟩ = (⟨dk, sv, ws⟩, 2)) := Lib.hid (by
    unfold doC
    rw [if_neg (by simp), if_neg (by simp), if_neg (by simp), if_pos (by simp only; omega)])
  go_enter Tryz.func107, Tryz.ntmps107
  go_wp2_with fail
  rw [← HWe.out, ← HBD.out]
  go_quiet ((go_at_call 173; exact Calls.quiet_of_same ((sizeR_c _ _ _ _).mono fun _ _ h => ⟨h.1, h.2.symm⟩)))
  go_wp2_with fail
  go_ret
  refine ⟨A, c, A2, c2, by rw [HX.out]; rfl, ?_, ?_⟩
  · rw [HX.out]
    exact HRW.out.below (drewN_below _ _)
  · exact (HBW.out.trans ((drewN_below _ _).mono HBW.out.size)).mono HBw.out
set_option maxHeartbeats 8000000 in
set_option maxRecDepth 100000 in
theorem wfar4 (B : Nat) (g : Nat) (dk sv : DeskP) (ws : List ParcelP) (A : Option Addr) (c : Nat) (A2 : Option Addr) (c2 : Nat) (d : Chk) (p : List ByteArray) (an bn : Nat) (w : World) (h : WorkS B w g d p ⟨dk, sv, ws⟩ A c A2 c2) (hd : Dim d) (hw : ∀ s ∈ p, okWord s = true) (hp : p.length ≤ 20)
    (ho : PlantOk d p ⟨dk, sv, ws⟩) (hx : okDeed ⟨4, an, bn⟩ = true) (hlt : ws.length ≤ an) :
    Calls Tryz.prog 107 #[.pointer (some ⟨g, 0, none⟩), .agg #[.int .i64 4, .int .i64 an, .int .i64 bn]] w (RetWork B g d p ⟨dk, sv, ws⟩ ⟨4, an, bn⟩ w) := by
  have HR := Lib.hid h
  have HO := Lib.hid ho
  have HD := Lib.hid hd
  have HW := Lib.hid hw
  have HLo := Lib.hid h.lo
  have HBw : Hid (B ≤ w.heap.size) := Lib.hid (Nat.le_trans h.lo (Nat.le_of_lt h.lt))
  have hl12 : ws.length ≤ 12 := ho.len
  have lg := h.lt
  have b99 : bn ≤ 999 := by have := (okDeed_a hx).2.2; simp only at this; omega
  have a99 : an ≤ 999 := by have := (okDeed_a hx).1.2; simp only at this; omega
  clear h ho hd hw hx
  obtain ⟨W, hWe⟩ : ∃ W, W = w.alloc (.cells #[.int .i64 4, .int .i64 an, .int .i64 bn] 150) := ⟨_, rfl⟩
  obtain ⟨bd, hbd⟩ : ∃ bd, bd = w.heap.size := ⟨_, rfl⟩
  have HBW : Hid (Below w.heap.size w W) := Lib.hid (hWe ▸ bel1 w _)
  have HRW : Hid (WorkS B W g d p ⟨dk, sv, ws⟩ A c A2 c2) := Lib.hid (HR.out.below HBW.out)
  have E0 : W.cell? ⟨bd, 0, none⟩ = some (.int .i64 4) := by rw [hWe, hbd, cell_new]; rfl
  have E1 : W.cell? ⟨bd, 1, none⟩ = some (.int .i64 an) := by rw [hWe, hbd, cell_new]; rfl
  have E2 : W.cell? ⟨bd, 2, none⟩ = some (.int .i64 bn) := by rw [hWe, hbd, cell_new]; rfl
  have HWe := Lib.hid hWe
  have HBD := Lib.hid hbd
  clear hWe hbd
  have e8W : W.cell? ⟨g, 8, none⟩ = some (.slice A ws.length c) := HRW.out.wire
  obtain ⟨X0, y0, X1, y1, X2, y2, X3, y3, AP, cp, _, _, _, _, _, _, e15W, _, hpc⟩ := HRW.out.str.chk
  simp only [Nat.reduceAdd] at e15W
  have HPC := Lib.hid hpc
  have hcp : p.length ≤ cp := hpc.1
  have lp : p.length ≤ 9223372036854775807 := by omega
  clear hpc
  have HX : Hid (doC d p ⟨dk, sv, ws⟩ ⟨4, an, bn⟩ = (⟨dk, sv, ws⟩, 2)) := Lib.hid (by
    unfold doC
    rw [if_neg (by simp), if_neg (by simp), if_neg (by simp), if_pos (by simp only; omega)])
  go_enter Tryz.func107, Tryz.ntmps107
  go_wp2_with fail
  rw [← HWe.out, ← HBD.out]
  go_quiet ((go_at_call 173; exact Calls.quiet_of_same ((sizeR_c _ _ _ _).mono fun _ _ h => ⟨h.1, h.2.symm⟩)))
  go_wp2_with fail
  go_ret
  refine ⟨A, c, A2, c2, by rw [HX.out]; rfl, ?_, ?_⟩
  · rw [HX.out]
    exact HRW.out.below (drewN_below _ _)
  · exact (HBW.out.trans ((drewN_below _ _).mono HBW.out.size)).mono HBw.out
set_option maxHeartbeats 8000000 in
set_option maxRecDepth 100000 in
theorem wcopy (B : Nat) (g : Nat) (dk sv : DeskP) (ws : List ParcelP) (A : Option Addr) (c : Nat) (A2 : Option Addr) (c2 : Nat) (d : Chk) (p : List ByteArray) (an bn : Nat) (w : World) (h : WorkS B w g d p ⟨dk, sv, ws⟩ A c A2 c2) (hd : Dim d) (hw : ∀ s ∈ p, okWord s = true) (hp : p.length ≤ 20)
    (ho : PlantOk d p ⟨dk, sv, ws⟩) (hx : okDeed ⟨3, an, bn⟩ = true) (hlt : an < ws.length) :
    Calls Tryz.prog 107 #[.pointer (some ⟨g, 0, none⟩), .agg #[.int .i64 3, .int .i64 an, .int .i64 bn]] w (RetWork B g d p ⟨dk, sv, ws⟩ ⟨3, an, bn⟩ w) := by
  have HR := Lib.hid h
  have HO := Lib.hid ho
  have HD := Lib.hid hd
  have HW := Lib.hid hw
  have HLo := Lib.hid h.lo
  have HBw : Hid (B ≤ w.heap.size) := Lib.hid (Nat.le_trans h.lo (Nat.le_of_lt h.lt))
  have hl12 : ws.length ≤ 12 := ho.len
  have lg := h.lt
  have b99 : bn ≤ 999 := by have := (okDeed_a hx).2.2; simp only at this; omega
  have a99 : an ≤ 999 := by have := (okDeed_a hx).1.2; simp only at this; omega
  clear h ho hd hw hx
  obtain ⟨W, hWe⟩ : ∃ W, W = w.alloc (.cells #[.int .i64 3, .int .i64 an, .int .i64 bn] 150) := ⟨_, rfl⟩
  obtain ⟨bd, hbd⟩ : ∃ bd, bd = w.heap.size := ⟨_, rfl⟩
  have HBW : Hid (Below w.heap.size w W) := Lib.hid (hWe ▸ bel1 w _)
  have HRW : Hid (WorkS B W g d p ⟨dk, sv, ws⟩ A c A2 c2) := Lib.hid (HR.out.below HBW.out)
  have E0 : W.cell? ⟨bd, 0, none⟩ = some (.int .i64 3) := by rw [hWe, hbd, cell_new]; rfl
  have E1 : W.cell? ⟨bd, 1, none⟩ = some (.int .i64 an) := by rw [hWe, hbd, cell_new]; rfl
  have E2 : W.cell? ⟨bd, 2, none⟩ = some (.int .i64 bn) := by rw [hWe, hbd, cell_new]; rfl
  have HWe := Lib.hid hWe
  have HBD := Lib.hid hbd
  clear hWe hbd
  have e8W : W.cell? ⟨g, 8, none⟩ = some (.slice A ws.length c) := HRW.out.wire
  obtain ⟨X0, y0, X1, y1, X2, y2, X3, y3, AP, cp, _, _, _, _, _, _, e15W, _, hpc⟩ := HRW.out.str.chk
  simp only [Nat.reduceAdd] at e15W
  have HPC := Lib.hid hpc
  have hcp : p.length ≤ cp := hpc.1
  have lp : p.length ≤ 9223372036854775807 := by omega
  clear hpc
  obtain ⟨bw, ow, hAw, he⟩ : ∃ bw ow, A = some ⟨bw, ow, none⟩ ∧ elParcel (WorkD W g A c A2 c2) W bw (ow + an * 2) ws[an] := by
    obtain ⟨bw, ow, ha, _, _, he, _⟩ := HRW.out.own.at_ (by have := HRW.out.own.le; simp only at this; omega)
    exact ⟨bw, ow, ha, he an _ (List.getElem?_eq_getElem hlt)⟩
  obtain ⟨q0, A4, c4, q1, _⟩ := he
  have HQO : Hid (ParcelOk p ws[an]) := Lib.hid (HO.out.wire _ (List.getElem_mem hlt))
  have HGD := Lib.hid (getD_at ws ⟨0, []⟩ hlt)
  generalize ws[an] = pc at *
  have hi0 : (0 : Int) ≤ an := by omega
  have hi1 : (an : Int) < ws.length := by omega
  have hwc : 0 < c := by have := HRW.out.own.le; simp only at this; omega
  obtain ⟨er, her⟩ : ∃ er, er = ws.eraseIdx an := ⟨_, rfl⟩
  have HER := Lib.hid her
  clear her
  have hws : IntKind.i64.wrap ((an : Int) + 1) = (an : Int) + 1 := by rw [IntKind.wrap_i64]; omega
  obtain ⟨S, hSI, hSE⟩ : ∃ S : World → Prop, (∀ w', S w' → w'.cell? ⟨g, 8, none⟩ = some (.slice A ws.length c) ∧ w'.cell? ⟨bd, 0, none⟩ = some (.int .i64 3) ∧ w'.cell? ⟨bd, 1, none⟩ = some (.int .i64 an) ∧ w'.cell? ⟨bw, ow + an * 2, none⟩ = some (.int .i64 pc.first) ∧ w'.cell? ⟨bw, ow + an * 2 + 1, none⟩ = some (.slice A4 pc.texts.length c4)) ∧ ∀ w2, Below W.heap.size W w2 → S w2 := by
    refine ⟨fun w' => Below W.heap.size W w', fun w' h => ?_, fun w2 h => h⟩
    have h2 := (bcell h (Nat.le_refl _)).1
    exact ⟨(h2 _ _ HRW.out.lt).trans HRW.out.wire, (h2 _ _ (lt_of_cell E0)).trans E0, (h2 _ _ (lt_of_cell E1)).trans E1, (h2 _ _ (lt_of_cell q0)).trans q0, (h2 _ _ (lt_of_cell q1)).trans q1⟩
  have HSI := Lib.hid hSI
  have HSE := Lib.hid hSE
  clear hSI hSE
  subst hAw
  have HX : Hid (doC d p ⟨dk, sv, ws⟩ ⟨3, an, bn⟩ = (⟨comeC d p dk pc, sv, ws⟩, 0)) := Lib.hid (by
    unfold doC
    rw [if_neg (by simp), if_neg (by simp), if_neg (by simp), if_neg (by simp only; omega)]
    simp only [Int.toNat_natCast, HGD.out]
    simp)
  go_enter Tryz.func107, Tryz.ntmps107
  go_wp2_with fail
  rw [← HWe.out, ← HBD.out]
  go_quiet ((go_at_call 173; exact Calls.quiet_of_same ((sizeR_c _ _ _ _).mono fun _ _ h => ⟨h.1, h.2.symm⟩)))
  go_wp2_with fail
  refine wp_region_L [10] S (by kernel_rfl) (HSE.out _ (bel_drew (drewN_below _ _))) (fun hS => ?_)
  refine anyL_take0 (i := 0) (oi := ?op0) (v := ?vp0) ?hp0 (by kernel_rfl) (by kernel_rfl) (by kernel_rfl) (by kernel_rfl) (fun _ _ _ h => h) (Or.inl ⟨?wp0, ?yp0⟩) (Or.inr hS) ?_
  case hp0 => simp only [List.getElem?_toArray, List.getElem?_cons_zero]; rfl
  case wp0 => rfl
  case yp0 => (intro w; go_simp; try with_reducible rfl)
  try simp only [Act.put, List.setIfInBounds_toArray, List.set_cons_zero, List.set_cons_succ]
  refine anyL_take0 (i := 1) (oi := ?op1) (v := ?vp1) ?hp1 (by kernel_rfl) (by kernel_rfl) (by kernel_rfl) (by kernel_rfl) (fun _ _ _ h => h) (Or.inl ⟨?wp1, ?yp1⟩) (Or.inr hS) ?_
  case hp1 => simp only [List.getElem?_toArray, List.getElem?_cons_succ, List.getElem?_cons_zero]; rfl
  case wp1 => rfl
  case yp1 => (intro w; go_simp; try with_reducible rfl)
  try simp only [Act.put, List.setIfInBounds_toArray, List.set_cons_zero, List.set_cons_succ]
  refine anyL_take0 (i := 2) (oi := ?op2) (v := ?vp2) ?hp2 (by kernel_rfl) (by kernel_rfl) (by kernel_rfl) (by kernel_rfl) (fun _ _ _ h => h) (Or.inl ⟨?wp2, ?yp2⟩) (Or.inr hS) ?_
  case hp2 => simp only [List.getElem?_toArray, List.getElem?_cons_succ, List.getElem?_cons_zero]; rfl
  case wp2 => rfl
  case yp2 => (intro w; go_simp; try with_reducible rfl)
  try simp only [Act.put, List.setIfInBounds_toArray, List.set_cons_zero, List.set_cons_succ]
  refine anyL_take0 (i := 3) (oi := ?op3) (v := ?vp3) ?hp3 (by kernel_rfl) (by kernel_rfl) (by kernel_rfl) (by kernel_rfl) (fun _ _ _ h => h) (Or.inl ⟨?wp3, ?yp3⟩) (Or.inr hS) ?_
  case hp3 => simp only [List.getElem?_toArray, List.getElem?_cons_succ, List.getElem?_cons_zero]; rfl
  case wp3 => rfl
  case yp3 => (intro w; go_simp; try with_reducible rfl)
  try simp only [Act.put, List.setIfInBounds_toArray, List.set_cons_zero, List.set_cons_succ]
  refine anyL_take (i := 4) (oi := ?op4) (v := ?vp4) ?hp4 (by kernel_rfl) (by kernel_rfl) (by kernel_rfl) (by kernel_rfl) (by kernel_rfl) (fun _ _ _ h => h) (Or.inl ⟨?wp4, ?yp4⟩) hS ?_
  case hp4 => simp only [List.getElem?_toArray, List.getElem?_cons_succ, List.getElem?_cons_zero]; rfl
  case wp4 => rfl
  case yp4 => (intro w hSw; replace hSw := HSI.out _ hSw; go_simp; try with_reducible rfl)
  try simp only [Act.put, List.setIfInBounds_toArray, List.set_cons_zero, List.set_cons_succ]
  refine anyL_take0 (i := 5) (oi := ?op5) (v := ?vp5) ?hp5 (by kernel_rfl) (by kernel_rfl) (by kernel_rfl) (by kernel_rfl) (fun _ _ _ h => h) (Or.inl ⟨?wp5, ?yp5⟩) (Or.inr hS) ?_
  case hp5 => simp only [List.getElem?_toArray, List.getElem?_cons_succ, List.getElem?_cons_zero]; rfl
  case wp5 => rfl
  case yp5 => (intro w; go_simp; try with_reducible rfl)
  try simp only [Act.put, List.setIfInBounds_toArray, List.set_cons_zero, List.set_cons_succ]
  refine anyL_take (i := 6) (oi := ?op6) (v := ?vp6) ?hp6 (by kernel_rfl) (by kernel_rfl) (by kernel_rfl) (by kernel_rfl) (by kernel_rfl) (fun _ _ _ h => h) (Or.inl ⟨?wp6, ?yp6⟩) hS ?_
  case hp6 => simp only [List.getElem?_toArray, List.getElem?_cons_succ, List.getElem?_cons_zero]; rfl
  case wp6 => rfl
  case yp6 => (intro w hSw; replace hSw := HSI.out _ hSw; go_simp; try with_reducible rfl)
  try simp only [Act.put, List.setIfInBounds_toArray, List.set_cons_zero, List.set_cons_succ]
  refine anyL_take0 (i := 7) (oi := ?op7) (v := ?vp7) ?hp7 (by kernel_rfl) (by kernel_rfl) (by kernel_rfl) (by kernel_rfl) (fun _ _ _ h => h) (Or.inl ⟨?wp7, ?yp7⟩) (Or.inr hS) ?_
  case hp7 => simp only [List.getElem?_toArray, List.getElem?_cons_succ, List.getElem?_cons_zero]; rfl
  case wp7 => rfl
  case yp7 => (intro w; go_simp; try with_reducible rfl)
  try simp only [Act.put, List.setIfInBounds_toArray, List.set_cons_zero, List.set_cons_succ]
  refine anyL_take (i := 8) (oi := ?op8) (v := ?vp8) ?hp8 (by kernel_rfl) (by kernel_rfl) (by kernel_rfl) (by kernel_rfl) (by kernel_rfl) (fun _ _ _ h => h) (Or.inl ⟨?wp8, ?yp8⟩) hS ?_
  case hp8 => simp only [List.getElem?_toArray, List.getElem?_cons_succ, List.getElem?_cons_zero]; rfl
  case wp8 => rfl
  case yp8 => (intro w hSw; replace hSw := HSI.out _ hSw; go_simp; try with_reducible rfl)
  try simp only [Act.put, List.setIfInBounds_toArray, List.set_cons_zero, List.set_cons_succ]
  refine anyL_one (i := 9) (o := ?op9) (by kernel_rfl) ?hp9 ?wp9 (fun K hK => ?_)
  case hp9 => simp only [List.getElem?_toArray, List.getElem?_cons_succ, List.getElem?_cons_zero]; rfl
  case wp9 => rfl
  go_simp
  refine hK _ _ (fun _ => HSE.out _ (drewA_below _ _ _)) ?_
  generalize hW2 : (W.drewN (nq + 1)).alloc (.cells #[.int .i64 0, .slice none 0 0] 170) = W2
  have n0 : W2.cell? ⟨W.heap.size, 0, none⟩ = some (.int .i64 0) := by rw [← hW2]; exact cell_new (W.drewN (nq + 1)) _ _ 0
  have n1 : W2.cell? ⟨W.heap.size, 1, none⟩ = some (.slice none 0 0) := by rw [← hW2]; exact cell_new (W.drewN (nq + 1)) _ _ 1
  have n2 : W2.frozen? ⟨W.heap.size, 0, none⟩ = false := by rw [← hW2]; exact World.frozen?_alloc_new (W.drewN (nq + 1)) _ _ _
  have n3 : W2.frozen? ⟨W.heap.size, 1, none⟩ = false := by rw [← hW2]; exact World.frozen?_alloc_new (W.drewN (nq + 1)) _ _ _
  have HN4 : Hid (Below W.heap.size W W2) := Lib.hid (by rw [← hW2]; exact drewA_below _ _ _)
  clear hW2 hS
  clear hK K
  try simp only [Act.put, List.setIfInBounds_toArray, List.set_cons_zero, List.set_cons_succ]
  refine anyL_late (i := 10) (o := ?op10) (by kernel_rfl) ?hp10 ?wp10 (by kernel_rfl) (fun K hK => ?_)
  case hp10 => simp only [List.getElem?_toArray, List.getElem?_cons_succ, List.getElem?_cons_zero]; rfl
  case wp10 => rfl
  go_simp
  refine hK _ _ ?_
  clear hK K
  try simp only [Act.put, List.setIfInBounds_toArray, List.set_cons_zero, List.set_cons_succ]
  refine anyL_end (by kernel_rfl) ?_ _
  have HR3 : Hid (WorkS B ((W2.setCell ⟨W.heap.size, 0, none⟩ (.int .i64 pc.first)).setCell ⟨W.heap.size, 1, none⟩ (.slice A4 pc.texts.length c4)) g d p ⟨dk, sv, ws⟩ (some ⟨bw, ow, none⟩) c A2 c2) := Lib.hid (HRW.out.below ((HN4.out.setCell (Nat.le_refl _) _).setCell (Nat.le_refl _) _))
  have HB3 : Hid (Below W.heap.size W ((W2.setCell ⟨W.heap.size, 0, none⟩ (.int .i64 pc.first)).setCell ⟨W.heap.size, 1, none⟩ (.slice A4 pc.texts.length c4))) := Lib.hid ((HN4.out.setCell (Nat.le_refl _) _).setCell (Nat.le_refl _) _)
  have p0 : ((W2.setCell ⟨W.heap.size, 0, none⟩ (.int .i64 pc.first)).setCell ⟨W.heap.size, 1, none⟩ (.slice A4 pc.texts.length c4)).cell? ⟨W.heap.size, 0, none⟩ = some (.int .i64 pc.first) := by rw [cell_set_ne (by omega)]; exact cell_set n0
  have p1 : ((W2.setCell ⟨W.heap.size, 0, none⟩ (.int .i64 pc.first)).setCell ⟨W.heap.size, 1, none⟩ (.slice A4 pc.texts.length c4)).cell? ⟨W.heap.size, 1, none⟩ = some (.slice A4 pc.texts.length c4) := cell_set (old := .slice none 0 0) (by rw [cell_set_ne (by omega)]; exact n1)
  clear n0 n1 n2 n3 hi0 hi1 q0 q1
  generalize ((W2.setCell ⟨W.heap.size, 0, none⟩ (.int .i64 pc.first)).setCell ⟨W.heap.size, 1, none⟩ (.slice A4 pc.texts.length c4)) = W3 at *
  have F0 := ((bcell HB3.out (Nat.le_refl _)).1 _ _ (lt_of_cell E0)).trans E0
  have F1 := ((bcell HB3.out (Nat.le_refl _)).1 _ _ (lt_of_cell E1)).trans E1
  have HPO : Hid (ownB (some (⟨bw, ow, none⟩ : Addr)) c ≠ some W.heap.size) := Lib.hid fun e => by have := (HRW.out.own.own e).1; omega
  have HPD : Hid (ownB (some (⟨bw, ow, none⟩ : Addr)) c ≠ some bd) := Lib.hid fun e => by have := (HR.out.own.own e).1; have := HBD.out; omega
  have HPN : Hid (W.heap.size ≠ g) := Lib.hid (by have := HRW.out.lt; omega)
  have HPG : Hid (bd ≠ g) := Lib.hid (by have := HBD.out; omega)
  obtain ⟨bp, hbp⟩ : ∃ bp, bp = W.heap.size := ⟨_, rfl⟩
  rw [← hbp] at p0 p1 HPO HPN ⊢
  have HB3w : Hid (Below B w W3) := Lib.hid ((HBW.out.trans (HB3.out.mono HBW.out.size)).mono HBw.out)
  clear E0 E1 hbp e8W HSI HSE HN4
  go_wp2_with (go_at_call 175; refine (comeIn_c B g d p ⟨dk, sv, ws⟩ (some ⟨bw, ow, none⟩) c A2 c2 pc A4 c4 _ HR3.out HD.out HW.out hp HO.out.desk HQO.out).mono ?_; rintro e w7 ⟨A7, c7, rfl, hr7, hb7⟩; have HR7 := Lib.hid hr7; have HB7 : Hid (Below B w w7) := Lib.hid (HB3w.out.trans hb7); clear hr7 hb7)
  go_ret
  exact ⟨some ⟨bw, ow, none⟩, c, A7, c7, by rw [HX.out]; rfl, by rw [HX.out]; exact HR7.out, HB7.out⟩
set_option maxHeartbeats 8000000 in
set_option maxRecDepth 100000 in
theorem wdrop (B : Nat) (g : Nat) (dk sv : DeskP) (ws : List ParcelP) (A : Option Addr) (c : Nat) (A2 : Option Addr) (c2 : Nat) (d : Chk) (p : List ByteArray) (an bn : Nat) (w : World) (h : WorkS B w g d p ⟨dk, sv, ws⟩ A c A2 c2) (hd : Dim d) (hw : ∀ s ∈ p, okWord s = true) (hp : p.length ≤ 20)
    (ho : PlantOk d p ⟨dk, sv, ws⟩) (hx : okDeed ⟨4, an, bn⟩ = true) (hlt : an < ws.length) :
    Calls Tryz.prog 107 #[.pointer (some ⟨g, 0, none⟩), .agg #[.int .i64 4, .int .i64 an, .int .i64 bn]] w (RetWork B g d p ⟨dk, sv, ws⟩ ⟨4, an, bn⟩ w) := by
  have HR := Lib.hid h
  have HO := Lib.hid ho
  have HD := Lib.hid hd
  have HW := Lib.hid hw
  have HLo := Lib.hid h.lo
  have HBw : Hid (B ≤ w.heap.size) := Lib.hid (Nat.le_trans h.lo (Nat.le_of_lt h.lt))
  have hl12 : ws.length ≤ 12 := ho.len
  have lg := h.lt
  have b99 : bn ≤ 999 := by have := (okDeed_a hx).2.2; simp only at this; omega
  have a99 : an ≤ 999 := by have := (okDeed_a hx).1.2; simp only at this; omega
  clear h ho hd hw hx
  obtain ⟨W, hWe⟩ : ∃ W, W = w.alloc (.cells #[.int .i64 4, .int .i64 an, .int .i64 bn] 150) := ⟨_, rfl⟩
  obtain ⟨bd, hbd⟩ : ∃ bd, bd = w.heap.size := ⟨_, rfl⟩
  have HBW : Hid (Below w.heap.size w W) := Lib.hid (hWe ▸ bel1 w _)
  have HRW : Hid (WorkS B W g d p ⟨dk, sv, ws⟩ A c A2 c2) := Lib.hid (HR.out.below HBW.out)
  have E0 : W.cell? ⟨bd, 0, none⟩ = some (.int .i64 4) := by rw [hWe, hbd, cell_new]; rfl
  have E1 : W.cell? ⟨bd, 1, none⟩ = some (.int .i64 an) := by rw [hWe, hbd, cell_new]; rfl
  have E2 : W.cell? ⟨bd, 2, none⟩ = some (.int .i64 bn) := by rw [hWe, hbd, cell_new]; rfl
  have HWe := Lib.hid hWe
  have HBD := Lib.hid hbd
  clear hWe hbd
  have e8W : W.cell? ⟨g, 8, none⟩ = some (.slice A ws.length c) := HRW.out.wire
  obtain ⟨X0, y0, X1, y1, X2, y2, X3, y3, AP, cp, _, _, _, _, _, _, e15W, _, hpc⟩ := HRW.out.str.chk
  simp only [Nat.reduceAdd] at e15W
  have HPC := Lib.hid hpc
  have hcp : p.length ≤ cp := hpc.1
  have lp : p.length ≤ 9223372036854775807 := by omega
  clear hpc
  obtain ⟨bw, ow, hAw, he⟩ : ∃ bw ow, A = some ⟨bw, ow, none⟩ ∧ elParcel (WorkD W g A c A2 c2) W bw (ow + an * 2) ws[an] := by
    obtain ⟨bw, ow, ha, _, _, he, _⟩ := HRW.out.own.at_ (by have := HRW.out.own.le; simp only at this; omega)
    exact ⟨bw, ow, ha, he an _ (List.getElem?_eq_getElem hlt)⟩
  obtain ⟨q0, A4, c4, q1, _⟩ := he
  have HQO : Hid (ParcelOk p ws[an]) := Lib.hid (HO.out.wire _ (List.getElem_mem hlt))
  have HGD := Lib.hid (getD_at ws ⟨0, []⟩ hlt)
  generalize ws[an] = pc at *
  have hi0 : (0 : Int) ≤ an := by omega
  have hi1 : (an : Int) < ws.length := by omega
  have hwc : 0 < c := by have := HRW.out.own.le; simp only at this; omega
  obtain ⟨er, her⟩ : ∃ er, er = ws.eraseIdx an := ⟨_, rfl⟩
  have HER := Lib.hid her
  clear her
  have hws : IntKind.i64.wrap ((an : Int) + 1) = (an : Int) + 1 := by rw [IntKind.wrap_i64]; omega
  obtain ⟨S, hSI, hSE⟩ : ∃ S : World → Prop, (∀ w', S w' → w'.cell? ⟨g, 8, none⟩ = some (.slice A ws.length c) ∧ w'.cell? ⟨bd, 0, none⟩ = some (.int .i64 4) ∧ w'.cell? ⟨bd, 1, none⟩ = some (.int .i64 an) ∧ w'.cell? ⟨bw, ow + an * 2, none⟩ = some (.int .i64 pc.first) ∧ w'.cell? ⟨bw, ow + an * 2 + 1, none⟩ = some (.slice A4 pc.texts.length c4)) ∧ ∀ w2, Below W.heap.size W w2 → S w2 := by
    refine ⟨fun w' => Below W.heap.size W w', fun w' h => ?_, fun w2 h => h⟩
    have h2 := (bcell h (Nat.le_refl _)).1
    exact ⟨(h2 _ _ HRW.out.lt).trans HRW.out.wire, (h2 _ _ (lt_of_cell E0)).trans E0, (h2 _ _ (lt_of_cell E1)).trans E1, (h2 _ _ (lt_of_cell q0)).trans q0, (h2 _ _ (lt_of_cell q1)).trans q1⟩
  have HSI := Lib.hid hSI
  have HSE := Lib.hid hSE
  clear hSI hSE
  subst hAw
  have HX : Hid (doC d p ⟨dk, sv, ws⟩ ⟨4, an, bn⟩ = (⟨dk, sv, er⟩, 0)) := Lib.hid (by
    unfold doC
    rw [if_neg (by simp), if_neg (by simp), if_neg (by simp), if_neg (by simp only; omega), HER.out]
    simp only [Int.toNat_natCast, HGD.out]
    simp)
  go_enter Tryz.func107, Tryz.ntmps107
  go_wp2_with fail
  rw [← HWe.out, ← HBD.out]
  go_quiet ((go_at_call 173; exact Calls.quiet_of_same ((sizeR_c _ _ _ _).mono fun _ _ h => ⟨h.1, h.2.symm⟩)))
  go_wp2_with fail
  refine wp_region_L [10] S (by kernel_rfl) (HSE.out _ (bel_drew (drewN_below _ _))) (fun hS => ?_)
  refine anyL_take0 (i := 0) (oi := ?op0) (v := ?vp0) ?hp0 (by kernel_rfl) (by kernel_rfl) (by kernel_rfl) (by kernel_rfl) (fun _ _ _ h => h) (Or.inl ⟨?wp0, ?yp0⟩) (Or.inr hS) ?_
  case hp0 => simp only [List.getElem?_toArray, List.getElem?_cons_zero]; rfl
  case wp0 => rfl
  case yp0 => (intro w; go_simp; try with_reducible rfl)
  try simp only [Act.put, List.setIfInBounds_toArray, List.set_cons_zero, List.set_cons_succ]
  refine anyL_take0 (i := 1) (oi := ?op1) (v := ?vp1) ?hp1 (by kernel_rfl) (by kernel_rfl) (by kernel_rfl) (by kernel_rfl) (fun _ _ _ h => h) (Or.inl ⟨?wp1, ?yp1⟩) (Or.inr hS) ?_
  case hp1 => simp only [List.getElem?_toArray, List.getElem?_cons_succ, List.getElem?_cons_zero]; rfl
  case wp1 => rfl
  case yp1 => (intro w; go_simp; try with_reducible rfl)
  try simp only [Act.put, List.setIfInBounds_toArray, List.set_cons_zero, List.set_cons_succ]
  refine anyL_take0 (i := 2) (oi := ?op2) (v := ?vp2) ?hp2 (by kernel_rfl) (by kernel_rfl) (by kernel_rfl) (by kernel_rfl) (fun _ _ _ h => h) (Or.inl ⟨?wp2, ?yp2⟩) (Or.inr hS) ?_
  case hp2 => simp only [List.getElem?_toArray, List.getElem?_cons_succ, List.getElem?_cons_zero]; rfl
  case wp2 => rfl
  case yp2 => (intro w; go_simp; try with_reducible rfl)
  try simp only [Act.put, List.setIfInBounds_toArray, List.set_cons_zero, List.set_cons_succ]
  refine anyL_take0 (i := 3) (oi := ?op3) (v := ?vp3) ?hp3 (by kernel_rfl) (by kernel_rfl) (by kernel_rfl) (by kernel_rfl) (fun _ _ _ h => h) (Or.inl ⟨?wp3, ?yp3⟩) (Or.inr hS) ?_
  case hp3 => simp only [List.getElem?_toArray, List.getElem?_cons_succ, List.getElem?_cons_zero]; rfl
  case wp3 => rfl
  case yp3 => (intro w; go_simp; try with_reducible rfl)
  try simp only [Act.put, List.setIfInBounds_toArray, List.set_cons_zero, List.set_cons_succ]
  refine anyL_take (i := 4) (oi := ?op4) (v := ?vp4) ?hp4 (by kernel_rfl) (by kernel_rfl) (by kernel_rfl) (by kernel_rfl) (by kernel_rfl) (fun _ _ _ h => h) (Or.inl ⟨?wp4, ?yp4⟩) hS ?_
  case hp4 => simp only [List.getElem?_toArray, List.getElem?_cons_succ, List.getElem?_cons_zero]; rfl
  case wp4 => rfl
  case yp4 => (intro w hSw; replace hSw := HSI.out _ hSw; go_simp; try with_reducible rfl)
  try simp only [Act.put, List.setIfInBounds_toArray, List.set_cons_zero, List.set_cons_succ]
  refine anyL_take0 (i := 5) (oi := ?op5) (v := ?vp5) ?hp5 (by kernel_rfl) (by kernel_rfl) (by kernel_rfl) (by kernel_rfl) (fun _ _ _ h => h) (Or.inl ⟨?wp5, ?yp5⟩) (Or.inr hS) ?_
  case hp5 => simp only [List.getElem?_toArray, List.getElem?_cons_succ, List.getElem?_cons_zero]; rfl
  case wp5 => rfl
  case yp5 => (intro w; go_simp; try with_reducible rfl)
  try simp only [Act.put, List.setIfInBounds_toArray, List.set_cons_zero, List.set_cons_succ]
  refine anyL_take (i := 6) (oi := ?op6) (v := ?vp6) ?hp6 (by kernel_rfl) (by kernel_rfl) (by kernel_rfl) (by kernel_rfl) (by kernel_rfl) (fun _ _ _ h => h) (Or.inl ⟨?wp6, ?yp6⟩) hS ?_
  case hp6 => simp only [List.getElem?_toArray, List.getElem?_cons_succ, List.getElem?_cons_zero]; rfl
  case wp6 => rfl
  case yp6 => (intro w hSw; replace hSw := HSI.out _ hSw; go_simp; try with_reducible rfl)
  try simp only [Act.put, List.setIfInBounds_toArray, List.set_cons_zero, List.set_cons_succ]
  refine anyL_take0 (i := 7) (oi := ?op7) (v := ?vp7) ?hp7 (by kernel_rfl) (by kernel_rfl) (by kernel_rfl) (by kernel_rfl) (fun _ _ _ h => h) (Or.inl ⟨?wp7, ?yp7⟩) (Or.inr hS) ?_
  case hp7 => simp only [List.getElem?_toArray, List.getElem?_cons_succ, List.getElem?_cons_zero]; rfl
  case wp7 => rfl
  case yp7 => (intro w; go_simp; try with_reducible rfl)
  try simp only [Act.put, List.setIfInBounds_toArray, List.set_cons_zero, List.set_cons_succ]
  refine anyL_take (i := 8) (oi := ?op8) (v := ?vp8) ?hp8 (by kernel_rfl) (by kernel_rfl) (by kernel_rfl) (by kernel_rfl) (by kernel_rfl) (fun _ _ _ h => h) (Or.inl ⟨?wp8, ?yp8⟩) hS ?_
  case hp8 => simp only [List.getElem?_toArray, List.getElem?_cons_succ, List.getElem?_cons_zero]; rfl
  case wp8 => rfl
  case yp8 => (intro w hSw; replace hSw := HSI.out _ hSw; go_simp; try with_reducible rfl)
  try simp only [Act.put, List.setIfInBounds_toArray, List.set_cons_zero, List.set_cons_succ]
  refine anyL_one (i := 9) (o := ?op9) (by kernel_rfl) ?hp9 ?wp9 (fun K hK => ?_)
  case hp9 => simp only [List.getElem?_toArray, List.getElem?_cons_succ, List.getElem?_cons_zero]; rfl
  case wp9 => rfl
  go_simp
  refine hK _ _ (fun _ => HSE.out _ (drewA_below _ _ _)) ?_
  generalize hW2 : (W.drewN (nq + 1)).alloc (.cells #[.int .i64 0, .slice none 0 0] 170) = W2
  have n0 : W2.cell? ⟨W.heap.size, 0, none⟩ = some (.int .i64 0) := by rw [← hW2]; exact cell_new (W.drewN (nq + 1)) _ _ 0
  have n1 : W2.cell? ⟨W.heap.size, 1, none⟩ = some (.slice none 0 0) := by rw [← hW2]; exact cell_new (W.drewN (nq + 1)) _ _ 1
  have n2 : W2.frozen? ⟨W.heap.size, 0, none⟩ = false := by rw [← hW2]; exact World.frozen?_alloc_new (W.drewN (nq + 1)) _ _ _
  have n3 : W2.frozen? ⟨W.heap.size, 1, none⟩ = false := by rw [← hW2]; exact World.frozen?_alloc_new (W.drewN (nq + 1)) _ _ _
  have HN4 : Hid (Below W.heap.size W W2) := Lib.hid (by rw [← hW2]; exact drewA_below _ _ _)
  clear hW2 hS
  clear hK K
  try simp only [Act.put, List.setIfInBounds_toArray, List.set_cons_zero, List.set_cons_succ]
  refine anyL_late (i := 10) (o := ?op10) (by kernel_rfl) ?hp10 ?wp10 (by kernel_rfl) (fun K hK => ?_)
  case hp10 => simp only [List.getElem?_toArray, List.getElem?_cons_succ, List.getElem?_cons_zero]; rfl
  case wp10 => rfl
  go_simp
  refine hK _ _ ?_
  clear hK K
  try simp only [Act.put, List.setIfInBounds_toArray, List.set_cons_zero, List.set_cons_succ]
  refine anyL_end (by kernel_rfl) ?_ _
  have HR3 : Hid (WorkS B ((W2.setCell ⟨W.heap.size, 0, none⟩ (.int .i64 pc.first)).setCell ⟨W.heap.size, 1, none⟩ (.slice A4 pc.texts.length c4)) g d p ⟨dk, sv, ws⟩ (some ⟨bw, ow, none⟩) c A2 c2) := Lib.hid (HRW.out.below ((HN4.out.setCell (Nat.le_refl _) _).setCell (Nat.le_refl _) _))
  have HB3 : Hid (Below W.heap.size W ((W2.setCell ⟨W.heap.size, 0, none⟩ (.int .i64 pc.first)).setCell ⟨W.heap.size, 1, none⟩ (.slice A4 pc.texts.length c4))) := Lib.hid ((HN4.out.setCell (Nat.le_refl _) _).setCell (Nat.le_refl _) _)
  have p0 : ((W2.setCell ⟨W.heap.size, 0, none⟩ (.int .i64 pc.first)).setCell ⟨W.heap.size, 1, none⟩ (.slice A4 pc.texts.length c4)).cell? ⟨W.heap.size, 0, none⟩ = some (.int .i64 pc.first) := by rw [cell_set_ne (by omega)]; exact cell_set n0
  have p1 : ((W2.setCell ⟨W.heap.size, 0, none⟩ (.int .i64 pc.first)).setCell ⟨W.heap.size, 1, none⟩ (.slice A4 pc.texts.length c4)).cell? ⟨W.heap.size, 1, none⟩ = some (.slice A4 pc.texts.length c4) := cell_set (old := .slice none 0 0) (by rw [cell_set_ne (by omega)]; exact n1)
  clear n0 n1 n2 n3 hi0 hi1 q0 q1
  generalize ((W2.setCell ⟨W.heap.size, 0, none⟩ (.int .i64 pc.first)).setCell ⟨W.heap.size, 1, none⟩ (.slice A4 pc.texts.length c4)) = W3 at *
  have F0 := ((bcell HB3.out (Nat.le_refl _)).1 _ _ (lt_of_cell E0)).trans E0
  have F1 := ((bcell HB3.out (Nat.le_refl _)).1 _ _ (lt_of_cell E1)).trans E1
  have HPO : Hid (ownB (some (⟨bw, ow, none⟩ : Addr)) c ≠ some W.heap.size) := Lib.hid fun e => by have := (HRW.out.own.own e).1; omega
  have HPD : Hid (ownB (some (⟨bw, ow, none⟩ : Addr)) c ≠ some bd) := Lib.hid fun e => by have := (HR.out.own.own e).1; have := HBD.out; omega
  have HPN : Hid (W.heap.size ≠ g) := Lib.hid (by have := HRW.out.lt; omega)
  have HPG : Hid (bd ≠ g) := Lib.hid (by have := HBD.out; omega)
  obtain ⟨bp, hbp⟩ : ∃ bp, bp = W.heap.size := ⟨_, rfl⟩
  rw [← hbp] at p0 p1 HPO HPN ⊢
  have HB3w : Hid (Below B w W3) := Lib.hid ((HBW.out.trans (HB3.out.mono HBW.out.size)).mono HBw.out)
  clear E0 E1 hbp e8W HSI HSE HN4
  go_wp2_with fail
  obtain ⟨S, hSI, hSE⟩ : ∃ S : World → Prop, (∀ w', S w' ↔ w'.cell? ⟨g, 8, none⟩ = some (.slice (some ⟨bw, ow, none⟩) ws.length c) ∧ w'.cell? ⟨bd, 1, none⟩ = some (.int .i64 an)) ∧ ∀ w2, Below W3.heap.size W3 w2 → S w2 := by
    refine ⟨fun w' => w'.cell? ⟨g, 8, none⟩ = some (.slice (some ⟨bw, ow, none⟩) ws.length c) ∧ w'.cell? ⟨bd, 1, none⟩ = some (.int .i64 an), fun w' => Iff.rfl, fun w2 h => ?_⟩
    have h2 := (bcell h (Nat.le_refl _)).1
    exact ⟨(h2 _ _ HR3.out.lt).trans HR3.out.wire, (h2 _ _ (lt_of_cell F1)).trans F1⟩
  have HSC := Lib.hid fun w' => (hSI w').2
  have HSI := Lib.hid fun w' => (hSI w').1
  have HSE := Lib.hid hSE
  clear hSI hSE
  refine wp_region_L [15] S (by kernel_rfl) (HSE.out _ (bel_drew (Below.refl _ _))) (fun hS => ?_)
  refine anyL_take0 (i := 0) (oi := ?od0) (v := ?vd0) ?hd0 (by kernel_rfl) (by kernel_rfl) (by kernel_rfl) (by kernel_rfl) (fun _ _ _ h => h) (Or.inl ⟨?wd0, ?yd0⟩) (Or.inr hS) ?_
  case hd0 => simp only [List.getElem?_toArray, List.getElem?_cons_zero]; rfl
  case wd0 => rfl
  case yd0 => (intro w; go_simp; try with_reducible rfl)
  try simp only [Act.put, List.setIfInBounds_toArray, List.set_cons_zero, List.set_cons_succ]
  refine anyL_take0 (i := 1) (oi := ?od1) (v := ?vd1) ?hd1 (by kernel_rfl) (by kernel_rfl) (by kernel_rfl) (by kernel_rfl) (fun _ _ _ h => h) (Or.inl ⟨?wd1, ?yd1⟩) (Or.inr hS) ?_
  case hd1 => simp only [List.getElem?_toArray, List.getElem?_cons_succ, List.getElem?_cons_zero]; rfl
  case wd1 => rfl
  case yd1 => (intro w; go_simp; try with_reducible rfl)
  try simp only [Act.put, List.setIfInBounds_toArray, List.set_cons_zero, List.set_cons_succ]
  refine anyL_take0 (i := 2) (oi := ?od2) (v := ?vd2) ?hd2 (by kernel_rfl) (by kernel_rfl) (by kernel_rfl) (by kernel_rfl) (fun _ _ _ h => h) (Or.inl ⟨?wd2, ?yd2⟩) (Or.inr hS) ?_
  case hd2 => simp only [List.getElem?_toArray, List.getElem?_cons_succ, List.getElem?_cons_zero]; rfl
  case wd2 => rfl
  case yd2 => (intro w; go_simp; try with_reducible rfl)
  try simp only [Act.put, List.setIfInBounds_toArray, List.set_cons_zero, List.set_cons_succ]
  refine anyL_take0 (i := 3) (oi := ?od3) (v := ?vd3) ?hd3 (by kernel_rfl) (by kernel_rfl) (by kernel_rfl) (by kernel_rfl) (fun _ _ _ h => h) (Or.inl ⟨?wd3, ?yd3⟩) (Or.inr hS) ?_
  case hd3 => simp only [List.getElem?_toArray, List.getElem?_cons_succ, List.getElem?_cons_zero]; rfl
  case wd3 => rfl
  case yd3 => (intro w; go_simp; try with_reducible rfl)
  try simp only [Act.put, List.setIfInBounds_toArray, List.set_cons_zero, List.set_cons_succ]
  refine anyL_take0 (i := 4) (oi := ?od4) (v := ?vd4) ?hd4 (by kernel_rfl) (by kernel_rfl) (by kernel_rfl) (by kernel_rfl) (fun _ _ _ h => h) (Or.inl ⟨?wd4, ?yd4⟩) (Or.inr hS) ?_
  case hd4 => simp only [List.getElem?_toArray, List.getElem?_cons_succ, List.getElem?_cons_zero]; rfl
  case wd4 => rfl
  case yd4 => (intro w; go_simp; try with_reducible rfl)
  try simp only [Act.put, List.setIfInBounds_toArray, List.set_cons_zero, List.set_cons_succ]
  refine anyL_take (i := 5) (oi := ?od5) (v := ?vd5) ?hd5 (by kernel_rfl) (by kernel_rfl) (by kernel_rfl) (by kernel_rfl) (by kernel_rfl) (fun _ _ _ h => h) (Or.inl ⟨?wd5, ?yd5⟩) hS ?_
  case hd5 => simp only [List.getElem?_toArray, List.getElem?_cons_succ, List.getElem?_cons_zero]; rfl
  case wd5 => rfl
  case yd5 => (intro w hSw; replace hSw := HSI.out _ hSw; go_simp; try with_reducible rfl)
  try simp only [Act.put, List.setIfInBounds_toArray, List.set_cons_zero, List.set_cons_succ]
  refine anyL_take0 (i := 6) (oi := ?od6) (v := ?vd6) ?hd6 (by kernel_rfl) (by kernel_rfl) (by kernel_rfl) (by kernel_rfl) (fun _ _ _ h => h) (Or.inl ⟨?wd6, ?yd6⟩) (Or.inr hS) ?_
  case hd6 => simp only [List.getElem?_toArray, List.getElem?_cons_succ, List.getElem?_cons_zero]; rfl
  case wd6 => rfl
  case yd6 => (intro w; go_simp; try with_reducible rfl)
  try simp only [Act.put, List.setIfInBounds_toArray, List.set_cons_zero, List.set_cons_succ]
  refine anyL_take (i := 7) (oi := ?od7) (v := ?vd7) ?hd7 (by kernel_rfl) (by kernel_rfl) (by kernel_rfl) (by kernel_rfl) (by kernel_rfl) (fun _ _ _ h => h) (Or.inl ⟨?wd7, ?yd7⟩) hS ?_
  case hd7 => simp only [List.getElem?_toArray, List.getElem?_cons_succ, List.getElem?_cons_zero]; rfl
  case wd7 => rfl
  case yd7 => (intro w hSw; replace hSw := HSI.out _ hSw; go_simp; try with_reducible rfl)
  try simp only [Act.put, List.setIfInBounds_toArray, List.set_cons_zero, List.set_cons_succ]
  refine anyL_take0 (i := 8) (oi := ?od8) (v := ?vd8) ?hd8 (by kernel_rfl) (by kernel_rfl) (by kernel_rfl) (by kernel_rfl) (fun _ _ _ h => h) (Or.inl ⟨?wd8, ?yd8⟩) (Or.inr hS) ?_
  case hd8 => simp only [List.getElem?_toArray, List.getElem?_cons_succ, List.getElem?_cons_zero]; rfl
  case wd8 => rfl
  case yd8 => (intro w; go_simp; try with_reducible rfl)
  try simp only [Act.put, List.setIfInBounds_toArray, List.set_cons_zero, List.set_cons_succ]
  refine anyL_take (i := 9) (oi := ?od9) (v := ?vd9) ?hd9 (by kernel_rfl) (by kernel_rfl) (by kernel_rfl) (by kernel_rfl) (by kernel_rfl) (fun _ _ _ h => h) (Or.inl ⟨?wd9, ?yd9⟩) hS ?_
  case hd9 => simp only [List.getElem?_toArray, List.getElem?_cons_succ, List.getElem?_cons_zero]; rfl
  case wd9 => rfl
  case yd9 => (intro w hSw; replace hSw := HSI.out _ hSw; go_simp; try with_reducible rfl)
  try simp only [Act.put, List.setIfInBounds_toArray, List.set_cons_zero, List.set_cons_succ]
  refine anyL_take0 (i := 10) (oi := ?od10) (v := ?vd10) ?hd10 (by kernel_rfl) (by kernel_rfl) (by kernel_rfl) (by kernel_rfl) (fun _ _ _ h => h) (Or.inl ⟨?wd10, ?yd10⟩) (Or.inr hS) ?_
  case hd10 => simp only [List.getElem?_toArray, List.getElem?_cons_succ, List.getElem?_cons_zero]; rfl
  case wd10 => rfl
  case yd10 => (intro w; go_simp; try with_reducible rfl)
  try simp only [Act.put, List.setIfInBounds_toArray, List.set_cons_zero, List.set_cons_succ]
  refine anyL_one (i := 11) (o := ?od11) (by kernel_rfl) ?hd11 ?wd11 (fun K hK => ?_)
  case hd11 => simp only [List.getElem?_toArray, List.getElem?_cons_succ, List.getElem?_cons_zero]; rfl
  case wd11 => rfl
  go_simp
  go_at_call 174
  refine (delete_c (WorkD W3 g (some ⟨bw, ow, none⟩) c A2 c2) (some ⟨bw, ow, none⟩) c ws an _ (HR3.out.own.drewO elParcel_good 1) hlt hl12 (fun k hk => hk.1)).mono ?_
  rintro e w5 ⟨he5, ho5, hg5⟩
  rw [← HER.out] at he5 ho5
  subst he5
  replace hg5 := drew_grown hg5
  have HG5 := Lib.hid hg5
  have HR5 : Hid (WorkS B (w5.setCell ⟨g, 8, none⟩ (.slice (some ⟨bw, ow, none⟩) er.length c)) g d p ⟨dk, sv, er⟩ (some ⟨bw, ow, none⟩) c A2 c2) := Lib.hid (HR3.out.putWire (fun k hk hne => hg5.block k hk fun e => hne e.symm) hg5.size ho5 fun b hb => .inl hb)
  have HB5 : Hid (Below B w w5) := Lib.hid (HB3w.out.grown hg5 (Nat.le_trans HBw.out HB3w.out.size) fun b hb => (HR3.out.ownLo b hb).1)
  have hold : ∀ b o v, W3.cell? ⟨b, o, none⟩ = some v → ownB (some (⟨bw, ow, none⟩ : Addr)) c ≠ some b → w5.cell? ⟨b, o, none⟩ = some v := fun b o v h hne => (World.cell?_of_block (a := ⟨b, o, none⟩) (hg5.block b (lt_of_cell h) fun e => hne e.symm)).trans h
  have y9 := hold _ _ _ HR3.out.wire fun e => (HR3.out.ownLo g e).2 rfl
  have z9 := (World.frozen?_of_block (a := ⟨g, 8, none⟩) (hg5.block g HR3.out.lt fun e => (HR3.out.ownLo g e.symm).2 rfl)).trans (HR3.out.free 8)
  replace p0 := hold _ _ _ p0 HPO.out
  replace p1 := hold _ _ _ p1 HPO.out
  replace F0 := hold _ _ _ F0 HPD.out
  replace F1 := hold _ _ _ F1 HPD.out
  have hS5 := HSC.out w5 ⟨y9, F1⟩
  clear ho5 hg5 hold
  go_wp2_with fail
  refine hK _ _ (fun _ => hS5) ?_
  replace hS := hS5
  clear hK K
  try simp only [Act.put, List.setIfInBounds_toArray, List.set_cons_zero, List.set_cons_succ]
  refine anyL_take0 (i := 12) (oi := ?od12) (v := ?vd12) ?hd12 (by kernel_rfl) (by kernel_rfl) (by kernel_rfl) (by kernel_rfl) (fun _ _ _ h => h) (Or.inl ⟨?wd12, ?yd12⟩) (Or.inr hS) ?_
  case hd12 => simp only [List.getElem?_toArray, List.getElem?_cons_succ, List.getElem?_cons_zero]; rfl
  case wd12 => rfl
  case yd12 => (intro w; go_simp; try with_reducible rfl)
  try simp only [Act.put, List.setIfInBounds_toArray, List.set_cons_zero, List.set_cons_succ]
  refine anyL_take0 (i := 13) (oi := ?od13) (v := ?vd13) ?hd13 (by kernel_rfl) (by kernel_rfl) (by kernel_rfl) (by kernel_rfl) (fun _ _ _ h => h) (Or.inl ⟨?wd13, ?yd13⟩) (Or.inr hS) ?_
  case hd13 => simp only [List.getElem?_toArray, List.getElem?_cons_succ, List.getElem?_cons_zero]; rfl
  case wd13 => rfl
  case yd13 => (intro w; go_simp; try with_reducible rfl)
  try simp only [Act.put, List.setIfInBounds_toArray, List.set_cons_zero, List.set_cons_succ]
  refine anyL_take0 (i := 14) (oi := ?od14) (v := ?vd14) ?hd14 (by kernel_rfl) (by kernel_rfl) (by kernel_rfl) (by kernel_rfl) (fun _ _ _ h => h) (Or.inl ⟨?wd14, ?yd14⟩) (Or.inr hS) ?_
  case hd14 => simp only [List.getElem?_toArray, List.getElem?_cons_succ, List.getElem?_cons_zero]; rfl
  case wd14 => rfl
  case yd14 => (intro w; go_simp; try with_reducible rfl)
  try simp only [Act.put, List.setIfInBounds_toArray, List.set_cons_zero, List.set_cons_succ]
  refine anyL_late (i := 15) (o := ?od15) (by kernel_rfl) ?hd15 ?wd15 (by kernel_rfl) (fun K hK => ?_)
  case hd15 => simp only [List.getElem?_toArray, List.getElem?_cons_succ, List.getElem?_cons_zero]; rfl
  case wd15 => rfl
  go_simp
  refine hK _ _ ?_
  clear hK K
  try simp only [Act.put, List.setIfInBounds_toArray, List.set_cons_zero, List.set_cons_succ]
  refine anyL_end (by kernel_rfl) ?_ _
  go_wp2_with fail
  go_ret
  exact ⟨some ⟨bw, ow, none⟩, c, A2, c2, by rw [HX.out]; rfl, by rw [HX.out]; exact HR5.out, HB5.out.setCell HLo.out _⟩
set_option maxHeartbeats 8000000 in
set_option maxRecDepth 100000 in
theorem wtake (B : Nat) (g : Nat) (dk sv : DeskP) (ws : List ParcelP) (A : Option Addr) (c : Nat) (A2 : Option Addr) (c2 : Nat) (d : Chk) (p : List ByteArray) (an bn : Nat) (w : World) (h : WorkS B w g d p ⟨dk, sv, ws⟩ A c A2 c2) (hd : Dim d) (hw : ∀ s ∈ p, okWord s = true) (hp : p.length ≤ 20)
    (ho : PlantOk d p ⟨dk, sv, ws⟩) (hx : okDeed ⟨2, an, bn⟩ = true) (hlt : an < ws.length) :
    Calls Tryz.prog 107 #[.pointer (some ⟨g, 0, none⟩), .agg #[.int .i64 2, .int .i64 an, .int .i64 bn]] w (RetWork B g d p ⟨dk, sv, ws⟩ ⟨2, an, bn⟩ w) := by
  have HR := Lib.hid h
  have HO := Lib.hid ho
  have HD := Lib.hid hd
  have HW := Lib.hid hw
  have HLo := Lib.hid h.lo
  have HBw : Hid (B ≤ w.heap.size) := Lib.hid (Nat.le_trans h.lo (Nat.le_of_lt h.lt))
  have hl12 : ws.length ≤ 12 := ho.len
  have lg := h.lt
  have b99 : bn ≤ 999 := by have := (okDeed_a hx).2.2; simp only at this; omega
  have a99 : an ≤ 999 := by have := (okDeed_a hx).1.2; simp only at this; omega
  clear h ho hd hw hx
  obtain ⟨W, hWe⟩ : ∃ W, W = w.alloc (.cells #[.int .i64 2, .int .i64 an, .int .i64 bn] 150) := ⟨_, rfl⟩
  obtain ⟨bd, hbd⟩ : ∃ bd, bd = w.heap.size := ⟨_, rfl⟩
  have HBW : Hid (Below w.heap.size w W) := Lib.hid (hWe ▸ bel1 w _)
  have HRW : Hid (WorkS B W g d p ⟨dk, sv, ws⟩ A c A2 c2) := Lib.hid (HR.out.below HBW.out)
  have E0 : W.cell? ⟨bd, 0, none⟩ = some (.int .i64 2) := by rw [hWe, hbd, cell_new]; rfl
  have E1 : W.cell? ⟨bd, 1, none⟩ = some (.int .i64 an) := by rw [hWe, hbd, cell_new]; rfl
  have E2 : W.cell? ⟨bd, 2, none⟩ = some (.int .i64 bn) := by rw [hWe, hbd, cell_new]; rfl
  have HWe := Lib.hid hWe
  have HBD := Lib.hid hbd
  clear hWe hbd
  have e8W : W.cell? ⟨g, 8, none⟩ = some (.slice A ws.length c) := HRW.out.wire
  obtain ⟨X0, y0, X1, y1, X2, y2, X3, y3, AP, cp, _, _, _, _, _, _, e15W, _, hpc⟩ := HRW.out.str.chk
  simp only [Nat.reduceAdd] at e15W
  have HPC := Lib.hid hpc
  have hcp : p.length ≤ cp := hpc.1
  have lp : p.length ≤ 9223372036854775807 := by omega
  clear hpc
  obtain ⟨bw, ow, hAw, he⟩ : ∃ bw ow, A = some ⟨bw, ow, none⟩ ∧ elParcel (WorkD W g A c A2 c2) W bw (ow + an * 2) ws[an] := by
    obtain ⟨bw, ow, ha, _, _, he, _⟩ := HRW.out.own.at_ (by have := HRW.out.own.le; simp only at this; omega)
    exact ⟨bw, ow, ha, he an _ (List.getElem?_eq_getElem hlt)⟩
  obtain ⟨q0, A4, c4, q1, _⟩ := he
  have HQO : Hid (ParcelOk p ws[an]) := Lib.hid (HO.out.wire _ (List.getElem_mem hlt))
  have HGD := Lib.hid (getD_at ws ⟨0, []⟩ hlt)
  generalize ws[an] = pc at *
  have hi0 : (0 : Int) ≤ an := by omega
  have hi1 : (an : Int) < ws.length := by omega
  have hwc : 0 < c := by have := HRW.out.own.le; simp only at this; omega
  obtain ⟨er, her⟩ : ∃ er, er = ws.eraseIdx an := ⟨_, rfl⟩
  have HER := Lib.hid her
  clear her
  have hws : IntKind.i64.wrap ((an : Int) + 1) = (an : Int) + 1 := by rw [IntKind.wrap_i64]; omega
  obtain ⟨S, hSI, hSE⟩ : ∃ S : World → Prop, (∀ w', S w' → w'.cell? ⟨g, 8, none⟩ = some (.slice A ws.length c) ∧ w'.cell? ⟨bd, 0, none⟩ = some (.int .i64 2) ∧ w'.cell? ⟨bd, 1, none⟩ = some (.int .i64 an) ∧ w'.cell? ⟨bw, ow + an * 2, none⟩ = some (.int .i64 pc.first) ∧ w'.cell? ⟨bw, ow + an * 2 + 1, none⟩ = some (.slice A4 pc.texts.length c4)) ∧ ∀ w2, Below W.heap.size W w2 → S w2 := by
    refine ⟨fun w' => Below W.heap.size W w', fun w' h => ?_, fun w2 h => h⟩
    have h2 := (bcell h (Nat.le_refl _)).1
    exact ⟨(h2 _ _ HRW.out.lt).trans HRW.out.wire, (h2 _ _ (lt_of_cell E0)).trans E0, (h2 _ _ (lt_of_cell E1)).trans E1, (h2 _ _ (lt_of_cell q0)).trans q0, (h2 _ _ (lt_of_cell q1)).trans q1⟩
  have HSI := Lib.hid hSI
  have HSE := Lib.hid hSE
  clear hSI hSE
  subst hAw
  have HX : Hid (doC d p ⟨dk, sv, ws⟩ ⟨2, an, bn⟩ = (⟨comeC d p dk pc, sv, er⟩, 0)) := Lib.hid (by
    unfold doC
    rw [if_neg (by simp), if_neg (by simp), if_neg (by simp), if_neg (by simp only; omega), HER.out]
    simp only [Int.toNat_natCast, HGD.out]
    simp)
  go_enter Tryz.func107, Tryz.ntmps107
  go_wp2_with fail
  rw [← HWe.out, ← HBD.out]
  go_quiet ((go_at_call 173; exact Calls.quiet_of_same ((sizeR_c _ _ _ _).mono fun _ _ h => ⟨h.1, h.2.symm⟩)))
  go_wp2_with fail
  refine wp_region_L [10] S (by kernel_rfl) (HSE.out _ (bel_drew (drewN_below _ _))) (fun hS => ?_)
  refine anyL_take0 (i := 0) (oi := ?op0) (v := ?vp0) ?hp0 (by kernel_rfl) (by kernel_rfl) (by kernel_rfl) (by kernel_rfl) (fun _ _ _ h => h) (Or.inl ⟨?wp0, ?yp0⟩) (Or.inr hS) ?_
  case hp0 => simp only [List.getElem?_toArray, List.getElem?_cons_zero]; rfl
  case wp0 => rfl
  case yp0 => (intro w; go_simp; try with_reducible rfl)
  try simp only [Act.put, List.setIfInBounds_toArray, List.set_cons_zero, List.set_cons_succ]
  refine anyL_take0 (i := 1) (oi := ?op1) (v := ?vp1) ?hp1 (by kernel_rfl) (by kernel_rfl) (by kernel_rfl) (by kernel_rfl) (fun _ _ _ h => h) (Or.inl ⟨?wp1, ?yp1⟩) (Or.inr hS) ?_
  case hp1 => simp only [List.getElem?_toArray, List.getElem?_cons_succ, List.getElem?_cons_zero]; rfl
  case wp1 => rfl
  case yp1 => (intro w; go_simp; try with_reducible rfl)
  try simp only [Act.put, List.setIfInBounds_toArray, List.set_cons_zero, List.set_cons_succ]
  refine anyL_take0 (i := 2) (oi := ?op2) (v := ?vp2) ?hp2 (by kernel_rfl) (by kernel_rfl) (by kernel_rfl) (by kernel_rfl) (fun _ _ _ h => h) (Or.inl ⟨?wp2, ?yp2⟩) (Or.inr hS) ?_
  case hp2 => simp only [List.getElem?_toArray, List.getElem?_cons_succ, List.getElem?_cons_zero]; rfl
  case wp2 => rfl
  case yp2 => (intro w; go_simp; try with_reducible rfl)
  try simp only [Act.put, List.setIfInBounds_toArray, List.set_cons_zero, List.set_cons_succ]
  refine anyL_take0 (i := 3) (oi := ?op3) (v := ?vp3) ?hp3 (by kernel_rfl) (by kernel_rfl) (by kernel_rfl) (by kernel_rfl) (fun _ _ _ h => h) (Or.inl ⟨?wp3, ?yp3⟩) (Or.inr hS) ?_
  case hp3 => simp only [List.getElem?_toArray, List.getElem?_cons_succ, List.getElem?_cons_zero]; rfl
  case wp3 => rfl
  case yp3 => (intro w; go_simp; try with_reducible rfl)
  try simp only [Act.put, List.setIfInBounds_toArray, List.set_cons_zero, List.set_cons_succ]
  refine anyL_take (i := 4) (oi := ?op4) (v := ?vp4) ?hp4 (by kernel_rfl) (by kernel_rfl) (by kernel_rfl) (by kernel_rfl) (by kernel_rfl) (fun _ _ _ h => h) (Or.inl ⟨?wp4, ?yp4⟩) hS ?_
  case hp4 => simp only [List.getElem?_toArray, List.getElem?_cons_succ, List.getElem?_cons_zero]; rfl
  case wp4 => rfl
  case yp4 => (intro w hSw; replace hSw := HSI.out _ hSw; go_simp; try with_reducible rfl)
  try simp only [Act.put, List.setIfInBounds_toArray, List.set_cons_zero, List.set_cons_succ]
  refine anyL_take0 (i := 5) (oi := ?op5) (v := ?vp5) ?hp5 (by kernel_rfl) (by kernel_rfl) (by kernel_rfl) (by kernel_rfl) (fun _ _ _ h => h) (Or.inl ⟨?wp5, ?yp5⟩) (Or.inr hS) ?_
  case hp5 => simp only [List.getElem?_toArray, List.getElem?_cons_succ, List.getElem?_cons_zero]; rfl
  case wp5 => rfl
  case yp5 => (intro w; go_simp; try with_reducible rfl)
  try simp only [Act.put, List.setIfInBounds_toArray, List.set_cons_zero, List.set_cons_succ]
  refine anyL_take (i := 6) (oi := ?op6) (v := ?vp6) ?hp6 (by kernel_rfl) (by kernel_rfl) (by kernel_rfl) (by kernel_rfl) (by kernel_rfl) (fun _ _ _ h => h) (Or.inl ⟨?wp6, ?yp6⟩) hS ?_
  case hp6 => simp only [List.getElem?_toArray, List.getElem?_cons_succ, List.getElem?_cons_zero]; rfl
  case wp6 => rfl
  case yp6 => (intro w hSw; replace hSw := HSI.out _ hSw; go_simp; try with_reducible rfl)
  try simp only [Act.put, List.setIfInBounds_toArray, List.set_cons_zero, List.set_cons_succ]
  refine anyL_take0 (i := 7) (oi := ?op7) (v := ?vp7) ?hp7 (by kernel_rfl) (by kernel_rfl) (by kernel_rfl) (by kernel_rfl) (fun _ _ _ h => h) (Or.inl ⟨?wp7, ?yp7⟩) (Or.inr hS) ?_
  case hp7 => simp only [List.getElem?_toArray, List.getElem?_cons_succ, List.getElem?_cons_zero]; rfl
  case wp7 => rfl
  case yp7 => (intro w; go_simp; try with_reducible rfl)
  try simp only [Act.put, List.setIfInBounds_toArray, List.set_cons_zero, List.set_cons_succ]
  refine anyL_take (i := 8) (oi := ?op8) (v := ?vp8) ?hp8 (by kernel_rfl) (by kernel_rfl) (by kernel_rfl) (by kernel_rfl) (by kernel_rfl) (fun _ _ _ h => h) (Or.inl ⟨?wp8, ?yp8⟩) hS ?_
  case hp8 => simp only [List.getElem?_toArray, List.getElem?_cons_succ, List.getElem?_cons_zero]; rfl
  case wp8 => rfl
  case yp8 => (intro w hSw; replace hSw := HSI.out _ hSw; go_simp; try with_reducible rfl)
  try simp only [Act.put, List.setIfInBounds_toArray, List.set_cons_zero, List.set_cons_succ]
  refine anyL_one (i := 9) (o := ?op9) (by kernel_rfl) ?hp9 ?wp9 (fun K hK => ?_)
  case hp9 => simp only [List.getElem?_toArray, List.getElem?_cons_succ, List.getElem?_cons_zero]; rfl
  case wp9 => rfl
  go_simp
  refine hK _ _ (fun _ => HSE.out _ (drewA_below _ _ _)) ?_
  generalize hW2 : (W.drewN (nq + 1)).alloc (.cells #[.int .i64 0, .slice none 0 0] 170) = W2
  have n0 : W2.cell? ⟨W.heap.size, 0, none⟩ = some (.int .i64 0) := by rw [← hW2]; exact cell_new (W.drewN (nq + 1)) _ _ 0
  have n1 : W2.cell? ⟨W.heap.size, 1, none⟩ = some (.slice none 0 0) := by rw [← hW2]; exact cell_new (W.drewN (nq + 1)) _ _ 1
  have n2 : W2.frozen? ⟨W.heap.size, 0, none⟩ = false := by rw [← hW2]; exact World.frozen?_alloc_new (W.drewN (nq + 1)) _ _ _
  have n3 : W2.frozen? ⟨W.heap.size, 1, none⟩ = false := by rw [← hW2]; exact World.frozen?_alloc_new (W.drewN (nq + 1)) _ _ _
  have HN4 : Hid (Below W.heap.size W W2) := Lib.hid (by rw [← hW2]; exact drewA_below _ _ _)
  clear hW2 hS
  clear hK K
  try simp only [Act.put, List.setIfInBounds_toArray, List.set_cons_zero, List.set_cons_succ]
  refine anyL_late (i := 10) (o := ?op10) (by kernel_rfl) ?hp10 ?wp10 (by kernel_rfl) (fun K hK => ?_)
  case hp10 => simp only [List.getElem?_toArray, List.getElem?_cons_succ, List.getElem?_cons_zero]; rfl
  case wp10 => rfl
  go_simp
  refine hK _ _ ?_
  clear hK K
  try simp only [Act.put, List.setIfInBounds_toArray, List.set_cons_zero, List.set_cons_succ]
  refine anyL_end (by kernel_rfl) ?_ _
  have HR3 : Hid (WorkS B ((W2.setCell ⟨W.heap.size, 0, none⟩ (.int .i64 pc.first)).setCell ⟨W.heap.size, 1, none⟩ (.slice A4 pc.texts.length c4)) g d p ⟨dk, sv, ws⟩ (some ⟨bw, ow, none⟩) c A2 c2) := Lib.hid (HRW.out.below ((HN4.out.setCell (Nat.le_refl _) _).setCell (Nat.le_refl _) _))
  have HB3 : Hid (Below W.heap.size W ((W2.setCell ⟨W.heap.size, 0, none⟩ (.int .i64 pc.first)).setCell ⟨W.heap.size, 1, none⟩ (.slice A4 pc.texts.length c4))) := Lib.hid ((HN4.out.setCell (Nat.le_refl _) _).setCell (Nat.le_refl _) _)
  have p0 : ((W2.setCell ⟨W.heap.size, 0, none⟩ (.int .i64 pc.first)).setCell ⟨W.heap.size, 1, none⟩ (.slice A4 pc.texts.length c4)).cell? ⟨W.heap.size, 0, none⟩ = some (.int .i64 pc.first) := by rw [cell_set_ne (by omega)]; exact cell_set n0
  have p1 : ((W2.setCell ⟨W.heap.size, 0, none⟩ (.int .i64 pc.first)).setCell ⟨W.heap.size, 1, none⟩ (.slice A4 pc.texts.length c4)).cell? ⟨W.heap.size, 1, none⟩ = some (.slice A4 pc.texts.length c4) := cell_set (old := .slice none 0 0) (by rw [cell_set_ne (by omega)]; exact n1)
  clear n0 n1 n2 n3 hi0 hi1 q0 q1
  generalize ((W2.setCell ⟨W.heap.size, 0, none⟩ (.int .i64 pc.first)).setCell ⟨W.heap.size, 1, none⟩ (.slice A4 pc.texts.length c4)) = W3 at *
  have F0 := ((bcell HB3.out (Nat.le_refl _)).1 _ _ (lt_of_cell E0)).trans E0
  have F1 := ((bcell HB3.out (Nat.le_refl _)).1 _ _ (lt_of_cell E1)).trans E1
  have HPO : Hid (ownB (some (⟨bw, ow, none⟩ : Addr)) c ≠ some W.heap.size) := Lib.hid fun e => by have := (HRW.out.own.own e).1; omega
  have HPD : Hid (ownB (some (⟨bw, ow, none⟩ : Addr)) c ≠ some bd) := Lib.hid fun e => by have := (HR.out.own.own e).1; have := HBD.out; omega
  have HPN : Hid (W.heap.size ≠ g) := Lib.hid (by have := HRW.out.lt; omega)
  have HPG : Hid (bd ≠ g) := Lib.hid (by have := HBD.out; omega)
  obtain ⟨bp, hbp⟩ : ∃ bp, bp = W.heap.size := ⟨_, rfl⟩
  rw [← hbp] at p0 p1 HPO HPN ⊢
  have HB3w : Hid (Below B w W3) := Lib.hid ((HBW.out.trans (HB3.out.mono HBW.out.size)).mono HBw.out)
  clear E0 E1 hbp e8W HSI HSE HN4
  go_wp2_with fail
  obtain ⟨S, hSI, hSE⟩ : ∃ S : World → Prop, (∀ w', S w' ↔ w'.cell? ⟨g, 8, none⟩ = some (.slice (some ⟨bw, ow, none⟩) ws.length c) ∧ w'.cell? ⟨bd, 1, none⟩ = some (.int .i64 an)) ∧ ∀ w2, Below W3.heap.size W3 w2 → S w2 := by
    refine ⟨fun w' => w'.cell? ⟨g, 8, none⟩ = some (.slice (some ⟨bw, ow, none⟩) ws.length c) ∧ w'.cell? ⟨bd, 1, none⟩ = some (.int .i64 an), fun w' => Iff.rfl, fun w2 h => ?_⟩
    have h2 := (bcell h (Nat.le_refl _)).1
    exact ⟨(h2 _ _ HR3.out.lt).trans HR3.out.wire, (h2 _ _ (lt_of_cell F1)).trans F1⟩
  have HSC := Lib.hid fun w' => (hSI w').2
  have HSI := Lib.hid fun w' => (hSI w').1
  have HSE := Lib.hid hSE
  clear hSI hSE
  refine wp_region_L [15] S (by kernel_rfl) (HSE.out _ (bel_drew (Below.refl _ _))) (fun hS => ?_)
  refine anyL_take0 (i := 0) (oi := ?od0) (v := ?vd0) ?hd0 (by kernel_rfl) (by kernel_rfl) (by kernel_rfl) (by kernel_rfl) (fun _ _ _ h => h) (Or.inl ⟨?wd0, ?yd0⟩) (Or.inr hS) ?_
  case hd0 => simp only [List.getElem?_toArray, List.getElem?_cons_zero]; rfl
  case wd0 => rfl
  case yd0 => (intro w; go_simp; try with_reducible rfl)
  try simp only [Act.put, List.setIfInBounds_toArray, List.set_cons_zero, List.set_cons_succ]
  refine anyL_take0 (i := 1) (oi := ?od1) (v := ?vd1) ?hd1 (by kernel_rfl) (by kernel_rfl) (by kernel_rfl) (by kernel_rfl) (fun _ _ _ h => h) (Or.inl ⟨?wd1, ?yd1⟩) (Or.inr hS) ?_
  case hd1 => simp only [List.getElem?_toArray, List.getElem?_cons_succ, List.getElem?_cons_zero]; rfl
  case wd1 => rfl
  case yd1 => (intro w; go_simp; try with_reducible rfl)
  try simp only [Act.put, List.setIfInBounds_toArray, List.set_cons_zero, List.set_cons_succ]
  refine anyL_take0 (i := 2) (oi := ?od2) (v := ?vd2) ?hd2 (by kernel_rfl) (by kernel_rfl) (by kernel_rfl) (by kernel_rfl) (fun _ _ _ h => h) (Or.inl ⟨?wd2, ?yd2⟩) (Or.inr hS) ?_
  case hd2 => simp only [List.getElem?_toArray, List.getElem?_cons_succ, List.getElem?_cons_zero]; rfl
  case wd2 => rfl
  case yd2 => (intro w; go_simp; try with_reducible rfl)
  try simp only [Act.put, List.setIfInBounds_toArray, List.set_cons_zero, List.set_cons_succ]
  refine anyL_take0 (i := 3) (oi := ?od3) (v := ?vd3) ?hd3 (by kernel_rfl) (by kernel_rfl) (by kernel_rfl) (by kernel_rfl) (fun _ _ _ h => h) (Or.inl ⟨?wd3, ?yd3⟩) (Or.inr hS) ?_
  case hd3 => simp only [List.getElem?_toArray, List.getElem?_cons_succ, List.getElem?_cons_zero]; rfl
  case wd3 => rfl
  case yd3 => (intro w; go_simp; try with_reducible rfl)
  try simp only [Act.put, List.setIfInBounds_toArray, List.set_cons_zero, List.set_cons_succ]
  refine anyL_take0 (i := 4) (oi := ?od4) (v := ?vd4) ?hd4 (by kernel_rfl) (by kernel_rfl) (by kernel_rfl) (by kernel_rfl) (fun _ _ _ h => h) (Or.inl ⟨?wd4, ?yd4⟩) (Or.inr hS) ?_
  case hd4 => simp only [List.getElem?_toArray, List.getElem?_cons_succ, List.getElem?_cons_zero]; rfl
  case wd4 => rfl
  case yd4 => (intro w; go_simp; try with_reducible rfl)
  try simp only [Act.put, List.setIfInBounds_toArray, List.set_cons_zero, List.set_cons_succ]
  refine anyL_take (i := 5) (oi := ?od5) (v := ?vd5) ?hd5 (by kernel_rfl) (by kernel_rfl) (by kernel_rfl) (by kernel_rfl) (by kernel_rfl) (fun _ _ _ h => h) (Or.inl ⟨?wd5, ?yd5⟩) hS ?_
  case hd5 => simp only [List.getElem?_toArray, List.getElem?_cons_succ, List.getElem?_cons_zero]; rfl
  case wd5 => rfl
  case yd5 => (intro w hSw; replace hSw := HSI.out _ hSw; go_simp; try with_reducible rfl)
  try simp only [Act.put, List.setIfInBounds_toArray, List.set_cons_zero, List.set_cons_succ]
  refine anyL_take0 (i := 6) (oi := ?od6) (v := ?vd6) ?hd6 (by kernel_rfl) (by kernel_rfl) (by kernel_rfl) (by kernel_rfl) (fun _ _ _ h => h) (Or.inl ⟨?wd6, ?yd6⟩) (Or.inr hS) ?_
  case hd6 => simp only [List.getElem?_toArray, List.getElem?_cons_succ, List.getElem?_cons_zero]; rfl
  case wd6 => rfl
  case yd6 => (intro w; go_simp; try with_reducible rfl)
  try simp only [Act.put, List.setIfInBounds_toArray, List.set_cons_zero, List.set_cons_succ]
  refine anyL_take (i := 7) (oi := ?od7) (v := ?vd7) ?hd7 (by kernel_rfl) (by kernel_rfl) (by kernel_rfl) (by kernel_rfl) (by kernel_rfl) (fun _ _ _ h => h) (Or.inl ⟨?wd7, ?yd7⟩) hS ?_
  case hd7 => simp only [List.getElem?_toArray, List.getElem?_cons_succ, List.getElem?_cons_zero]; rfl
  case wd7 => rfl
  case yd7 => (intro w hSw; replace hSw := HSI.out _ hSw; go_simp; try with_reducible rfl)
  try simp only [Act.put, List.setIfInBounds_toArray, List.set_cons_zero, List.set_cons_succ]
  refine anyL_take0 (i := 8) (oi := ?od8) (v := ?vd8) ?hd8 (by kernel_rfl) (by kernel_rfl) (by kernel_rfl) (by kernel_rfl) (fun _ _ _ h => h) (Or.inl ⟨?wd8, ?yd8⟩) (Or.inr hS) ?_
  case hd8 => simp only [List.getElem?_toArray, List.getElem?_cons_succ, List.getElem?_cons_zero]; rfl
  case wd8 => rfl
  case yd8 => (intro w; go_simp; try with_reducible rfl)
  try simp only [Act.put, List.setIfInBounds_toArray, List.set_cons_zero, List.set_cons_succ]
  refine anyL_take (i := 9) (oi := ?od9) (v := ?vd9) ?hd9 (by kernel_rfl) (by kernel_rfl) (by kernel_rfl) (by kernel_rfl) (by kernel_rfl) (fun _ _ _ h => h) (Or.inl ⟨?wd9, ?yd9⟩) hS ?_
  case hd9 => simp only [List.getElem?_toArray, List.getElem?_cons_succ, List.getElem?_cons_zero]; rfl
  case wd9 => rfl
  case yd9 => (intro w hSw; replace hSw := HSI.out _ hSw; go_simp; try with_reducible rfl)
  try simp only [Act.put, List.setIfInBounds_toArray, List.set_cons_zero, List.set_cons_succ]
  refine anyL_take0 (i := 10) (oi := ?od10) (v := ?vd10) ?hd10 (by kernel_rfl) (by kernel_rfl) (by kernel_rfl) (by kernel_rfl) (fun _ _ _ h => h) (Or.inl ⟨?wd10, ?yd10⟩) (Or.inr hS) ?_
  case hd10 => simp only [List.getElem?_toArray, List.getElem?_cons_succ, List.getElem?_cons_zero]; rfl
  case wd10 => rfl
  case yd10 => (intro w; go_simp; try with_reducible rfl)
  try simp only [Act.put, List.setIfInBounds_toArray, List.set_cons_zero, List.set_cons_succ]
  refine anyL_one (i := 11) (o := ?od11) (by kernel_rfl) ?hd11 ?wd11 (fun K hK => ?_)
  case hd11 => simp only [List.getElem?_toArray, List.getElem?_cons_succ, List.getElem?_cons_zero]; rfl
  case wd11 => rfl
  go_simp
  go_at_call 174
  refine (delete_c (WorkD W3 g (some ⟨bw, ow, none⟩) c A2 c2) (some ⟨bw, ow, none⟩) c ws an _ (HR3.out.own.drewO elParcel_good 1) hlt hl12 (fun k hk => hk.1)).mono ?_
  rintro e w5 ⟨he5, ho5, hg5⟩
  rw [← HER.out] at he5 ho5
  subst he5
  replace hg5 := drew_grown hg5
  have HG5 := Lib.hid hg5
  have HR5 : Hid (WorkS B (w5.setCell ⟨g, 8, none⟩ (.slice (some ⟨bw, ow, none⟩) er.length c)) g d p ⟨dk, sv, er⟩ (some ⟨bw, ow, none⟩) c A2 c2) := Lib.hid (HR3.out.putWire (fun k hk hne => hg5.block k hk fun e => hne e.symm) hg5.size ho5 fun b hb => .inl hb)
  have HB5 : Hid (Below B w w5) := Lib.hid (HB3w.out.grown hg5 (Nat.le_trans HBw.out HB3w.out.size) fun b hb => (HR3.out.ownLo b hb).1)
  have hold : ∀ b o v, W3.cell? ⟨b, o, none⟩ = some v → ownB (some (⟨bw, ow, none⟩ : Addr)) c ≠ some b → w5.cell? ⟨b, o, none⟩ = some v := fun b o v h hne => (World.cell?_of_block (a := ⟨b, o, none⟩) (hg5.block b (lt_of_cell h) fun e => hne e.symm)).trans h
  have y9 := hold _ _ _ HR3.out.wire fun e => (HR3.out.ownLo g e).2 rfl
  have z9 := (World.frozen?_of_block (a := ⟨g, 8, none⟩) (hg5.block g HR3.out.lt fun e => (HR3.out.ownLo g e.symm).2 rfl)).trans (HR3.out.free 8)
  replace p0 := hold _ _ _ p0 HPO.out
  replace p1 := hold _ _ _ p1 HPO.out
  replace F0 := hold _ _ _ F0 HPD.out
  replace F1 := hold _ _ _ F1 HPD.out
  have hS5 := HSC.out w5 ⟨y9, F1⟩
  clear ho5 hg5 hold
  go_wp2_with fail
  refine hK _ _ (fun _ => hS5) ?_
  replace hS := hS5
  clear hK K
  try simp only [Act.put, List.setIfInBounds_toArray, List.set_cons_zero, List.set_cons_succ]
  refine anyL_take0 (i := 12) (oi := ?od12) (v := ?vd12) ?hd12 (by kernel_rfl) (by kernel_rfl) (by kernel_rfl) (by kernel_rfl) (fun _ _ _ h => h) (Or.inl ⟨?wd12, ?yd12⟩) (Or.inr hS) ?_
  case hd12 => simp only [List.getElem?_toArray, List.getElem?_cons_succ, List.getElem?_cons_zero]; rfl
  case wd12 => rfl
  case yd12 => (intro w; go_simp; try with_reducible rfl)
  try simp only [Act.put, List.setIfInBounds_toArray, List.set_cons_zero, List.set_cons_succ]
  refine anyL_take0 (i := 13) (oi := ?od13) (v := ?vd13) ?hd13 (by kernel_rfl) (by kernel_rfl) (by kernel_rfl) (by kernel_rfl) (fun _ _ _ h => h) (Or.inl ⟨?wd13, ?yd13⟩) (Or.inr hS) ?_
  case hd13 => simp only [List.getElem?_toArray, List.getElem?_cons_succ, List.getElem?_cons_zero]; rfl
  case wd13 => rfl
  case yd13 => (intro w; go_simp; try with_reducible rfl)
  try simp only [Act.put, List.setIfInBounds_toArray, List.set_cons_zero, List.set_cons_succ]
  refine anyL_take0 (i := 14) (oi := ?od14) (v := ?vd14) ?hd14 (by kernel_rfl) (by kernel_rfl) (by kernel_rfl) (by kernel_rfl) (fun _ _ _ h => h) (Or.inl ⟨?wd14, ?yd14⟩) (Or.inr hS) ?_
  case hd14 => simp only [List.getElem?_toArray, List.getElem?_cons_succ, List.getElem?_cons_zero]; rfl
  case wd14 => rfl
  case yd14 => (intro w; go_simp; try with_reducible rfl)
  try simp only [Act.put, List.setIfInBounds_toArray, List.set_cons_zero, List.set_cons_succ]
  refine anyL_late (i := 15) (o := ?od15) (by kernel_rfl) ?hd15 ?wd15 (by kernel_rfl) (fun K hK => ?_)
  case hd15 => simp only [List.getElem?_toArray, List.getElem?_cons_succ, List.getElem?_cons_zero]; rfl
  case wd15 => rfl
  go_simp
  refine hK _ _ ?_
  clear hK K
  try simp only [Act.put, List.setIfInBounds_toArray, List.set_cons_zero, List.set_cons_succ]
  refine anyL_end (by kernel_rfl) ?_ _
  have HB6 : Hid (Below B w (w5.setCell ⟨g, 8, none⟩ (.slice (some ⟨bw, ow, none⟩) er.length c))) := Lib.hid (HB5.out.setCell HLo.out _)
  replace p0 := (World.cell?_of_block (a := ⟨bp, 0, none⟩) (Below.heap_setCell w5 ⟨g, 8, none⟩ (.slice (some ⟨bw, ow, none⟩) er.length c) bp HPN.out)).trans p0
  replace p1 := (World.cell?_of_block (a := ⟨bp, 1, none⟩) (Below.heap_setCell w5 ⟨g, 8, none⟩ (.slice (some ⟨bw, ow, none⟩) er.length c) bp HPN.out)).trans p1
  replace F0 := (World.cell?_of_block (a := ⟨bd, 0, none⟩) (Below.heap_setCell w5 ⟨g, 8, none⟩ (.slice (some ⟨bw, ow, none⟩) er.length c) bd HPG.out)).trans F0
  clear F1 hS5 HSC y9 z9 HB5 HSI HSE
  generalize w5.setCell ⟨g, 8, none⟩ (.slice (some ⟨bw, ow, none⟩) er.length c) = w6 at *
  go_wp2_with (go_at_call 175; refine (comeIn_c B g d p ⟨dk, sv, er⟩ (some ⟨bw, ow, none⟩) c A2 c2 pc A4 c4 _ HR5.out HD.out HW.out hp HO.out.desk HQO.out).mono ?_; rintro e w7 ⟨A7, c7, rfl, hr7, hb7⟩; have HR7 := Lib.hid hr7; have HB7 : Hid (Below B w w7) := Lib.hid (HB6.out.trans hb7); clear hr7 hb7)
  go_ret
  exact ⟨some ⟨bw, ow, none⟩, c, A7, c7, by rw [HX.out]; rfl, by rw [HX.out]; exact HR7.out, HB7.out⟩
theorem okDeed_k6 {x : Deed} (h : okDeed x = true) : 1 ≤ x.kind ∧ x.kind ≤ 6 := by
  unfold okDeed at h
  simp only [Bool.and_eq_true, inB_iff] at h
  exact h.1
set_option maxHeartbeats 400000 in
theorem wdo_c (B : Nat) (g : Nat) (n : PlantP) (A : Option Addr) (c : Nat) (A2 : Option Addr) (c2 : Nat) (d : Chk) (p : List ByteArray) (x : Deed) (w : World) (h : WorkS B w g d p n A c A2 c2) (hd : Dim d) (hw : ∀ s ∈ p, okWord s = true) (hp : p.length ≤ 20)
    (ho : PlantOk d p n) (hx : okDeed x = true) :
    Calls Tryz.prog 107 #[.pointer (some ⟨g, 0, none⟩), .agg #[.int .i64 x.kind, .int .i64 x.a, .int .i64 x.b]] w (RetWork B g d p n x w) := by
  obtain ⟨⟨a0, a1⟩, b0, b1⟩ := okDeed_a hx
  obtain ⟨k0, k1⟩ := okDeed_k6 hx
  obtain ⟨k, a, b⟩ := x
  obtain ⟨dk, sv, ws⟩ := n
  simp only at a0 a1 b0 b1 k0 k1
  obtain ⟨an, rfl⟩ : ∃ an : Nat, a = an := ⟨a.toNat, by omega⟩
  obtain ⟨bn, rfl⟩ : ∃ bn : Nat, b = bn := ⟨b.toNat, by omega⟩
  obtain h1 | h1 | h1 | h1 | h1 | h1 : k = 1 ∨ k = 2 ∨ k = 3 ∨ k = 4 ∨ k = 5 ∨ k = 6 := by omega
  all_goals subst h1
  · rcases Nat.lt_or_ge bn an with h2 | h2
    · exact wsend_back B g dk sv ws A c A2 c2 d p an bn w h hd hw hp ho hx h2
    · rcases Nat.lt_or_ge bn p.length with h3 | h3
      · by_cases h4 : ws.length = 12
        · exact wsend_full B g dk sv ws A c A2 c2 d p an bn w h hd hw hp ho hx h2 h3 h4
        · exact wsend_on B g dk sv ws A c A2 c2 d p an bn w h hd hw hp ho hx h2 h3 h4
      · exact wsend_far B g dk sv ws A c A2 c2 d p an bn w h hd hw hp ho hx h2 h3
  · rcases Nat.lt_or_ge an ws.length with h2 | h2
    · exact wtake B g dk sv ws A c A2 c2 d p an bn w h hd hw hp ho hx h2
    · exact wfar2 B g dk sv ws A c A2 c2 d p an bn w h hd hw hp ho hx h2
  · rcases Nat.lt_or_ge an ws.length with h2 | h2
    · exact wcopy B g dk sv ws A c A2 c2 d p an bn w h hd hw hp ho hx h2
    · exact wfar3 B g dk sv ws A c A2 c2 d p an bn w h hd hw hp ho hx h2
  · rcases Nat.lt_or_ge an ws.length with h2 | h2
    · exact wdrop B g dk sv ws A c A2 c2 d p an bn w h hd hw hp ho hx h2
    · exact wfar4 B g dk sv ws A c A2 c2 d p an bn w h hd hw hp ho hx h2
  · exact wsave B g dk sv ws A c A2 c2 d p an bn w h hd hw hp ho hx
  · exact wcrash B g dk sv ws A c A2 c2 d p an bn w h hd hw hp ho hx
end Go.Proofs.YtcagdmaiemmfgaaGreat
