/- The reference's run: a deed with a parcel; for all valid streams and deeds. -/
import Derived.Test.YtcagdmaiemmfgaaGreatSl
namespace Go.Proofs.YtcagdmaiemmfgaaGreat
open Go.RowKit

theorem info_toParcel : (Tryz.prog.info? 170).map (fun i => (i.zero, i.size, i.bytes)) = some (some (.agg #[.int .i64 0, .slice none 0 0]), 2, 32) := by kernel_rfl
/-- The blocks that a deed may write. -/
def RunE (g : Nat) (A : Option Addr) (c : Nat) : Dom := fun k => k = g ∨ ownB A c = some k
/-- The wire's array is the same, or a new one. -/
def NewB (w : World) (A : Option Addr) (c : Nat) (A' : Option Addr) (c' : Nat) : Prop := ownB A' c' = ownB A c ∨ ∀ b, ownB A' c' = some b → w.heap.size ≤ b
/-- What a deed does to the run. -/
def RetDo (X : Dom) (B g vb vo : Nat) (A : Option Addr) (c : Nat) (d : Chk) (p : List ByteArray) (n : PlantP) (x : Deed) (w : World) (e : Ending) (w' : World) : Prop :=
  ∃ A' c', e = .returned (.int .i64 (doC d p n x).2) ∧ RunS X B w' g vb vo (doC d p n x).1 A' c' ∧ But (RunE g A c) w w' ∧ NewB w A c A' c'
theorem drewN_below (w : World) (m : Nat) : Below w.heap.size w (w.drewN m) := ⟨rfl, rfl, rfl, Nat.le_refl _, fun _ _ => rfl⟩
theorem drewA_below (w : World) (m : Nat) (o : Obj) : Below w.heap.size w ((w.drewN m).alloc o) := Below.trans (b := w.drewN m) (drewN_below w m) (bel1 (w.drewN m) o)
theorem okDeed_a {x : Deed} (h : okDeed x = true) : (0 ≤ x.a ∧ x.a ≤ 999) ∧ 0 ≤ x.b ∧ x.b ≤ 999 := by
  unfold okDeed at h
  simp only [Bool.and_eq_true, inB_iff] at h
  exact ⟨h.2.1, h.2.2.1⟩
set_option maxHeartbeats 8000000 in
set_option maxRecDepth 100000 in
theorem wire_far (X : Dom) (B : Nat) (g vb vo : Nat) (dk sv : DeskP) (ws : List ParcelP) (A : Option Addr) (c : Nat) (d : Chk) (p : List ByteArray) (k b : Int) (an : Nat) (D : Dom) (w : World) (h : RunS X B w g vb vo ⟨dk, sv, ws⟩ A c) (hv : StrPtr D w vb vo d p) (hD : ∀ k, D k → k < B) (hvb : vb < B) (hd : Dim d) (hw : ∀ s ∈ p, okWord s = true) (hp : p.length ≤ 20)
    (ho : PlantOk d p ⟨dk, sv, ws⟩) (hk : k ≠ 1 ∧ k ≠ 5 ∧ k ≠ 6) (hlt : ws.length ≤ an) :
    Calls Tryz.prog 203 #[.pointer (some ⟨g, 0, none⟩), .agg #[.int .i64 k, .int .i64 an, .int .i64 b]] w (RetDo X B g vb vo A c d p ⟨dk, sv, ws⟩ ⟨k, an, b⟩ w) := by
  have HR := Lib.hid h
  have HV := Lib.hid hv
  have HO := Lib.hid ho
  have HD := Lib.hid hd
  have HW := Lib.hid hw
  have HDB := Lib.hid hD
  have HLo := Lib.hid h.lo
  have HBw : Hid (B ≤ w.heap.size) := Lib.hid (Nat.le_trans h.lo (Nat.le_of_lt h.lt))
  have hl12 : ws.length ≤ 12 := ho.len
  have lg := h.lt
  have e9 : w.cell? ⟨g, 9, none⟩ = some (.slice A ws.length c) := h.wire
  have HK := Lib.hid hk
  clear h hv ho hd hw hD hk
  obtain ⟨W, hWe⟩ : ∃ W, W = w.alloc (.cells #[.int .i64 k, .int .i64 an, .int .i64 b] 150) := ⟨_, rfl⟩
  obtain ⟨bd, hbd⟩ : ∃ bd, bd = w.heap.size := ⟨_, rfl⟩
  have HBW : Hid (Below w.heap.size w W) := Lib.hid (hWe ▸ bel1 w _)
  have HRW : Hid (RunS X B W g vb vo ⟨dk, sv, ws⟩ A c) := Lib.hid (HR.out.below HBW.out)
  have E0 : W.cell? ⟨bd, 0, none⟩ = some (.int .i64 k) := by rw [hWe, hbd, cell_new]; rfl
  have E1 : W.cell? ⟨bd, 1, none⟩ = some (.int .i64 an) := by rw [hWe, hbd, cell_new]; rfl
  have HNE : Hid (bd ≠ g) := Lib.hid (by omega)
  have HWe := Lib.hid hWe
  have HBD := Lib.hid hbd
  clear hWe hbd
  have e9W : W.cell? ⟨g, 9, none⟩ = some (.slice A ws.length c) := HRW.out.wire
  have HX : Hid (doC d p ⟨dk, sv, ws⟩ ⟨k, an, b⟩ = (⟨dk, sv, ws⟩, 2)) := Lib.hid (by
    unfold doC
    rw [if_neg HK.out.1, if_neg HK.out.2.1, if_neg HK.out.2.2, if_pos (by simp only; omega)])
  go_enter Tryz.func203, Tryz.ntmps203
  go_wp2_with fail
  rw [← HWe.out, ← HBD.out]
  go_quiet (fail)
  go_wp2_with fail
  go_ret
  refine ⟨A, c, ?_, ?_, ?_, .inl rfl⟩
  · rw [HX.out]; rfl
  · rw [HX.out]
    exact HRW.out.below (drewN_below _ _)
  · exact But.of_below (HBW.out.trans ((drewN_below _ _).mono HBW.out.size))
set_option maxHeartbeats 8000000 in
set_option maxRecDepth 100000 in
theorem wire_drop (X : Dom) (B : Nat) (g vb vo : Nat) (dk sv : DeskP) (ws : List ParcelP) (A : Option Addr) (c : Nat) (d : Chk) (p : List ByteArray) (k b : Int) (an : Nat) (D : Dom) (w : World) (h : RunS X B w g vb vo ⟨dk, sv, ws⟩ A c) (hv : StrPtr D w vb vo d p) (hD : ∀ k, D k → k < B) (hvb : vb < B) (hd : Dim d) (hw : ∀ s ∈ p, okWord s = true) (hp : p.length ≤ 20)
    (ho : PlantOk d p ⟨dk, sv, ws⟩) (hk : k ≠ 1 ∧ k ≠ 5 ∧ k ≠ 6) (hlt : an < ws.length) (h4 : k = 4) :
    Calls Tryz.prog 203 #[.pointer (some ⟨g, 0, none⟩), .agg #[.int .i64 k, .int .i64 an, .int .i64 b]] w (RetDo X B g vb vo A c d p ⟨dk, sv, ws⟩ ⟨k, an, b⟩ w) := by
  subst h4
  have HR := Lib.hid h
  have HV := Lib.hid hv
  have HO := Lib.hid ho
  have HD := Lib.hid hd
  have HW := Lib.hid hw
  have HDB := Lib.hid hD
  have HLo := Lib.hid h.lo
  have HBw : Hid (B ≤ w.heap.size) := Lib.hid (Nat.le_trans h.lo (Nat.le_of_lt h.lt))
  have hl12 : ws.length ≤ 12 := ho.len
  have lg := h.lt
  have e9 : w.cell? ⟨g, 9, none⟩ = some (.slice A ws.length c) := h.wire
  have HK := Lib.hid hk
  clear h hv ho hd hw hD hk
  obtain ⟨W, hWe⟩ : ∃ W, W = w.alloc (.cells #[.int .i64 4, .int .i64 an, .int .i64 b] 150) := ⟨_, rfl⟩
  obtain ⟨bd, hbd⟩ : ∃ bd, bd = w.heap.size := ⟨_, rfl⟩
  have HBW : Hid (Below w.heap.size w W) := Lib.hid (hWe ▸ bel1 w _)
  have HRW : Hid (RunS X B W g vb vo ⟨dk, sv, ws⟩ A c) := Lib.hid (HR.out.below HBW.out)
  have E0 : W.cell? ⟨bd, 0, none⟩ = some (.int .i64 4) := by rw [hWe, hbd, cell_new]; rfl
  have E1 : W.cell? ⟨bd, 1, none⟩ = some (.int .i64 an) := by rw [hWe, hbd, cell_new]; rfl
  have HNE : Hid (bd ≠ g) := Lib.hid (by omega)
  have HWe := Lib.hid hWe
  have HBD := Lib.hid hbd
  clear hWe hbd
  have e9W : W.cell? ⟨g, 9, none⟩ = some (.slice A ws.length c) := HRW.out.wire
  have HX : Hid (doC d p ⟨dk, sv, ws⟩ ⟨4, an, b⟩ = (⟨dk, sv, ws.eraseIdx an⟩, 0)) := Lib.hid (by
    unfold doC
    rw [if_neg (by simp), if_neg (by simp), if_neg (by simp), if_neg (by simp only; omega)]
    simp)
  obtain ⟨bw, ow, hAw, he⟩ : ∃ bw ow, A = some ⟨bw, ow, none⟩ ∧ elParcel (RunD X W g A c) W bw (ow + an * 2) ws[an] := by
    obtain ⟨bw, ow, ha, _, _, he, _⟩ := HRW.out.own.at_ (by have := HRW.out.own.le; simp only at this; omega)
    exact ⟨bw, ow, ha, he an _ (List.getElem?_eq_getElem hlt)⟩
  obtain ⟨q0, A4, c4, q1, _⟩ := he
  have HQO : Hid (ParcelOk p ws[an]) := Lib.hid (HO.out.wire _ (List.getElem_mem hlt))
  have HGD := Lib.hid (getD_at ws ⟨0, []⟩ hlt)
  generalize ws[an] = pc at *
  have hi0 : (0 : Int) ≤ an := by omega
  have hi1 : (an : Int) < ws.length := by omega
  obtain ⟨S, hSI, hSE⟩ : ∃ S : World → Prop, (∀ w', S w' → w'.cell? ⟨g, 9, none⟩ = some (.slice A ws.length c) ∧ w'.cell? ⟨bd, 0, none⟩ = some (.int .i64 4) ∧ w'.cell? ⟨bd, 1, none⟩ = some (.int .i64 an) ∧ w'.cell? ⟨bw, ow + an * 2, none⟩ = some (.int .i64 pc.first) ∧ w'.cell? ⟨bw, ow + an * 2 + 1, none⟩ = some (.slice A4 pc.texts.length c4)) ∧ ∀ w2, Below W.heap.size W w2 → S w2 := by
    refine ⟨fun w' => Below W.heap.size W w', fun w' h => ?_, fun w2 h => h⟩
    have h2 := (bcell h (Nat.le_refl _)).1
    exact ⟨(h2 _ _ HRW.out.lt).trans HRW.out.wire, (h2 _ _ (lt_of_cell E0)).trans E0, (h2 _ _ (lt_of_cell E1)).trans E1, (h2 _ _ (lt_of_cell q0)).trans q0, (h2 _ _ (lt_of_cell q1)).trans q1⟩
  have HSI := Lib.hid hSI
  have HSE := Lib.hid hSE
  clear hSI hSE
  subst hAw
  go_enter Tryz.func203, Tryz.ntmps203
  go_wp2_with fail
  rw [← HWe.out, ← HBD.out]
  go_quiet (fail)
  go_wp2_with fail
  refine wp_region_L [10] S (by kernel_rfl) (HSE.out _ (bel_drew (drewN_below _ _))) (fun hS => ?_)
  refine anyL_take0 (i := 0) (oi := ?o0) (v := ?v0) ?h0 (by kernel_rfl) (by kernel_rfl) (by kernel_rfl) (by kernel_rfl) (fun _ _ _ h => h) (Or.inl ⟨?w0, ?y0⟩) (Or.inr hS) ?_
  case h0 => simp only [List.getElem?_toArray, List.getElem?_cons_zero]; rfl
  case w0 => rfl
  case y0 => (intro w; go_simp; try with_reducible rfl)
  try simp only [Act.put, List.setIfInBounds_toArray, List.set_cons_zero, List.set_cons_succ]
  refine anyL_take0 (i := 1) (oi := ?o1) (v := ?v1) ?h1 (by kernel_rfl) (by kernel_rfl) (by kernel_rfl) (by kernel_rfl) (fun _ _ _ h => h) (Or.inl ⟨?w1, ?y1⟩) (Or.inr hS) ?_
  case h1 => simp only [List.getElem?_toArray, List.getElem?_cons_succ, List.getElem?_cons_zero]; rfl
  case w1 => rfl
  case y1 => (intro w; go_simp; try with_reducible rfl)
  try simp only [Act.put, List.setIfInBounds_toArray, List.set_cons_zero, List.set_cons_succ]
  refine anyL_take0 (i := 2) (oi := ?o2) (v := ?v2) ?h2 (by kernel_rfl) (by kernel_rfl) (by kernel_rfl) (by kernel_rfl) (fun _ _ _ h => h) (Or.inl ⟨?w2, ?y2⟩) (Or.inr hS) ?_
  case h2 => simp only [List.getElem?_toArray, List.getElem?_cons_succ, List.getElem?_cons_zero]; rfl
  case w2 => rfl
  case y2 => (intro w; go_simp; try with_reducible rfl)
  try simp only [Act.put, List.setIfInBounds_toArray, List.set_cons_zero, List.set_cons_succ]
  refine anyL_take0 (i := 3) (oi := ?o3) (v := ?v3) ?h3 (by kernel_rfl) (by kernel_rfl) (by kernel_rfl) (by kernel_rfl) (fun _ _ _ h => h) (Or.inl ⟨?w3, ?y3⟩) (Or.inr hS) ?_
  case h3 => simp only [List.getElem?_toArray, List.getElem?_cons_succ, List.getElem?_cons_zero]; rfl
  case w3 => rfl
  case y3 => (intro w; go_simp; try with_reducible rfl)
  try simp only [Act.put, List.setIfInBounds_toArray, List.set_cons_zero, List.set_cons_succ]
  refine anyL_take (i := 4) (oi := ?o4) (v := ?v4) ?h4 (by kernel_rfl) (by kernel_rfl) (by kernel_rfl) (by kernel_rfl) (by kernel_rfl) (fun _ _ _ h => h) (Or.inl ⟨?w4, ?y4⟩) hS ?_
  case h4 => simp only [List.getElem?_toArray, List.getElem?_cons_succ, List.getElem?_cons_zero]; rfl
  case w4 => rfl
  case y4 => (intro w hSw; replace hSw := HSI.out _ hSw; go_simp; try with_reducible rfl)
  try simp only [Act.put, List.setIfInBounds_toArray, List.set_cons_zero, List.set_cons_succ]
  refine anyL_take0 (i := 5) (oi := ?o5) (v := ?v5) ?h5 (by kernel_rfl) (by kernel_rfl) (by kernel_rfl) (by kernel_rfl) (fun _ _ _ h => h) (Or.inl ⟨?w5, ?y5⟩) (Or.inr hS) ?_
  case h5 => simp only [List.getElem?_toArray, List.getElem?_cons_succ, List.getElem?_cons_zero]; rfl
  case w5 => rfl
  case y5 => (intro w; go_simp; try with_reducible rfl)
  try simp only [Act.put, List.setIfInBounds_toArray, List.set_cons_zero, List.set_cons_succ]
  refine anyL_take (i := 6) (oi := ?o6) (v := ?v6) ?h6 (by kernel_rfl) (by kernel_rfl) (by kernel_rfl) (by kernel_rfl) (by kernel_rfl) (fun _ _ _ h => h) (Or.inl ⟨?w6, ?y6⟩) hS ?_
  case h6 => simp only [List.getElem?_toArray, List.getElem?_cons_succ, List.getElem?_cons_zero]; rfl
  case w6 => rfl
  case y6 => (intro w hSw; replace hSw := HSI.out _ hSw; go_simp; try with_reducible rfl)
  try simp only [Act.put, List.setIfInBounds_toArray, List.set_cons_zero, List.set_cons_succ]
  refine anyL_take0 (i := 7) (oi := ?o7) (v := ?v7) ?h7 (by kernel_rfl) (by kernel_rfl) (by kernel_rfl) (by kernel_rfl) (fun _ _ _ h => h) (Or.inl ⟨?w7, ?y7⟩) (Or.inr hS) ?_
  case h7 => simp only [List.getElem?_toArray, List.getElem?_cons_succ, List.getElem?_cons_zero]; rfl
  case w7 => rfl
  case y7 => (intro w; go_simp; try with_reducible rfl)
  try simp only [Act.put, List.setIfInBounds_toArray, List.set_cons_zero, List.set_cons_succ]
  refine anyL_take (i := 8) (oi := ?o8) (v := ?v8) ?h8 (by kernel_rfl) (by kernel_rfl) (by kernel_rfl) (by kernel_rfl) (by kernel_rfl) (fun _ _ _ h => h) (Or.inl ⟨?w8, ?y8⟩) hS ?_
  case h8 => simp only [List.getElem?_toArray, List.getElem?_cons_succ, List.getElem?_cons_zero]; rfl
  case w8 => rfl
  case y8 => (intro w hSw; replace hSw := HSI.out _ hSw; go_simp; try with_reducible rfl)
  try simp only [Act.put, List.setIfInBounds_toArray, List.set_cons_zero, List.set_cons_succ]
  refine anyL_one (i := 9) (o := ?o9) (by kernel_rfl) ?h9 ?w9 (fun K hK => ?_)
  case h9 => simp only [List.getElem?_toArray, List.getElem?_cons_succ, List.getElem?_cons_zero]; rfl
  case w9 => rfl
  go_simp
  refine hK _ _ (fun _ => HSE.out _ (drewA_below _ _ _)) ?_
  generalize hW2 : (W.drewN (nq + 1)).alloc (.cells #[.int .i64 0, .slice none 0 0] 170) = W2
  have n0 : W2.cell? ⟨W.heap.size, 0, none⟩ = some (.int .i64 0) := by rw [← hW2]; exact cell_new (W.drewN (nq + 1)) _ _ 0
  have n1 : W2.cell? ⟨W.heap.size, 1, none⟩ = some (.slice none 0 0) := by rw [← hW2]; exact cell_new (W.drewN (nq + 1)) _ _ 1
  have n2 : W2.frozen? ⟨W.heap.size, 0, none⟩ = false := by rw [← hW2]; exact World.frozen?_alloc_new (W.drewN (nq + 1)) _ _ _
  have n3 : W2.frozen? ⟨W.heap.size, 1, none⟩ = false := by rw [← hW2]; exact World.frozen?_alloc_new (W.drewN (nq + 1)) _ _ _
  have HN4 : Hid (Below W.heap.size W W2) := Lib.hid (by rw [← hW2]; exact drewA_below _ _ _)
  clear hW2 hS
  clear hK K
  try simp only [Act.put, List.setIfInBounds_toArray, List.set_cons_zero, List.set_cons_succ]
  refine anyL_late (i := 10) (o := ?o10) (by kernel_rfl) ?h10 ?w10 (by kernel_rfl) (fun K hK => ?_)
  case h10 => simp only [List.getElem?_toArray, List.getElem?_cons_succ, List.getElem?_cons_zero]; rfl
  case w10 => rfl
  go_simp
  refine hK _ _ ?_
  clear hK K
  try simp only [Act.put, List.setIfInBounds_toArray, List.set_cons_zero, List.set_cons_succ]
  refine anyL_end (by kernel_rfl) ?_ _
  have HR3 : Hid (RunS X B ((W2.setCell ⟨W.heap.size, 0, none⟩ (.int .i64 pc.first)).setCell ⟨W.heap.size, 1, none⟩ (.slice A4 pc.texts.length c4)) g vb vo ⟨dk, sv, ws⟩ (some ⟨bw, ow, none⟩) c) := Lib.hid (HRW.out.below ((HN4.out.setCell (Nat.le_refl _) _).setCell (Nat.le_refl _) _))
  have HB3 : Hid (Below W.heap.size W ((W2.setCell ⟨W.heap.size, 0, none⟩ (.int .i64 pc.first)).setCell ⟨W.heap.size, 1, none⟩ (.slice A4 pc.texts.length c4))) := Lib.hid ((HN4.out.setCell (Nat.le_refl _) _).setCell (Nat.le_refl _) _)
  have p0 : ((W2.setCell ⟨W.heap.size, 0, none⟩ (.int .i64 pc.first)).setCell ⟨W.heap.size, 1, none⟩ (.slice A4 pc.texts.length c4)).cell? ⟨W.heap.size, 0, none⟩ = some (.int .i64 pc.first) := by rw [cell_set_ne (by omega)]; exact cell_set n0
  have p1 : ((W2.setCell ⟨W.heap.size, 0, none⟩ (.int .i64 pc.first)).setCell ⟨W.heap.size, 1, none⟩ (.slice A4 pc.texts.length c4)).cell? ⟨W.heap.size, 1, none⟩ = some (.slice A4 pc.texts.length c4) := cell_set (old := .slice none 0 0) (by rw [cell_set_ne (by omega)]; exact n1)
  clear n0 n1 n2 n3 hi0 hi1 q0 q1
  generalize ((W2.setCell ⟨W.heap.size, 0, none⟩ (.int .i64 pc.first)).setCell ⟨W.heap.size, 1, none⟩ (.slice A4 pc.texts.length c4)) = W3 at *
  have F0 := ((bcell HB3.out (Nat.le_refl _)).1 _ _ (lt_of_cell E0)).trans E0
  have F1 := ((bcell HB3.out (Nat.le_refl _)).1 _ _ (lt_of_cell E1)).trans E1
  have HPN : Hid (W.heap.size ≠ g) := Lib.hid (by have := HRW.out.lt; omega)
  have HPD : Hid (bd ≠ W.heap.size) := Lib.hid (by have := lt_of_cell E0; omega)
  obtain ⟨bp, hbp⟩ : ∃ bp, bp = W.heap.size := ⟨_, rfl⟩
  rw [← hbp] at p0 p1 HPN HPD ⊢
  have HB3w : Hid (Below B w W3) := Lib.hid ((HBW.out.trans (HB3.out.mono HBW.out.size)).mono HBw.out)
  have HB3x : Hid (Below w.heap.size w W3) := Lib.hid (HBW.out.trans (HB3.out.mono HBW.out.size))
  clear E0 E1 hbp e9W HSI HSE HN4
  go_wp2_with fail

  have hwc : ws.length ≤ c := HR3.out.own.le
  have hws : IntKind.i64.wrap ((an : Int) + 1) = (an : Int) + 1 := by rw [IntKind.wrap_i64]; omega
  obtain ⟨hd, hhd⟩ : ∃ hd, hd = ws.take an := ⟨_, rfl⟩
  obtain ⟨tl, htl⟩ : ∃ tl, tl = ws.drop (an + 1) := ⟨_, rfl⟩
  have HTK : Hid (hd.length = an) := Lib.hid (by rw [hhd]; simp; omega)
  have HDP : Hid (tl.length = ws.length - (an + 1)) := Lib.hid (by rw [htl]; simp)
  have HER : Hid (hd ++ tl = ws.eraseIdx an) := Lib.hid (by rw [hhd, htl, List.eraseIdx_eq_take_drop_succ])
  have hd12 : hd.length ≤ 12 := by rw [HTK.out]; omega
  have tl12 : tl.length ≤ 12 := by rw [HDP.out]; omega
  obtain ⟨AF, hAF⟩ : ∃ AF, AF = from_ (some ⟨bw, ow, none⟩) c (an + 1) 2 := ⟨_, rfl⟩
  have HL7 : Hid (∀ w', Below W3.heap.size W3 w' → Lies 2 elParcel (RunD X W3 g (some ⟨bw, ow, none⟩) c) w' AF tl) := Lib.hid fun w' hb => by
    rw [hAF, htl]
    exact (HR3.out.own.lies.drop (by simp only; omega) hwc).below elParcel_good hb fun k hk => hk.1
  have HL8 : Hid (∀ w', Below W3.heap.size W3 w' → Lies 2 elParcel (RunD X W3 g (some ⟨bw, ow, none⟩) c) w' (some ⟨bw, ow, none⟩) hd) := Lib.hid fun w' hb => by
    rw [hhd]
    exact (HR3.out.own.lies.take an).below elParcel_good hb fun k hk => hk.1
  have hq1 : ∀ w, (Instr.slice 81 (.slice (some ⟨bw, ow, none⟩) ws.length c) (some (.int .i64 ((an : Int) + 1))) none none).run Tryz.prog w = .ok (.slice AF tl.length (c - (an + 1))) w := by
    intro w
    rw [hAF, HDP.out]
    exact run_from w _ _ _ _ _ _ _ _ (by omega) Tryz.underlying81 (by kernel_rfl) (by omega)
  have hq2 : ∀ w, (Instr.slice 81 (.slice (some ⟨bw, ow, none⟩) ws.length c) none (some (.int .i64 (an : Int))) none).run Tryz.prog w = .ok (.slice (some ⟨bw, ow, none⟩) an c) w := by
    intro w
    exact run_upto w _ _ _ _ _ _ _ 2 Tryz.underlying81 (by kernel_rfl) (by omega) hwc
  clear hAF hhd htl
  obtain ⟨S, hSI, hSE⟩ : ∃ S : World → Prop, (∀ w', S w' → w'.cell? ⟨g, 9, none⟩ = some (.slice (some ⟨bw, ow, none⟩) ws.length c) ∧ w'.cell? ⟨bd, 1, none⟩ = some (.int .i64 an)) ∧ ∀ w2, Below W3.heap.size W3 w2 → S w2 := by
    refine ⟨fun w' => Below W3.heap.size W3 w', fun w' h => ?_, fun w2 h => h⟩
    have h2 := (bcell h (Nat.le_refl _)).1
    exact ⟨(h2 _ _ HR3.out.lt).trans HR3.out.wire, (h2 _ _ (lt_of_cell F1)).trans F1⟩
  have HSI := Lib.hid hSI
  have HSE := Lib.hid hSE
  clear hSI hSE
  refine wp_region_L [] S (by kernel_rfl) (HSE.out _ (bel_drew (Below.refl _ _))) (fun hS => ?_)
  refine anyL_take0 (i := 1) (oi := ?og1) (v := ?vg1) ?hg1 (by kernel_rfl) (by kernel_rfl) (by kernel_rfl) (by kernel_rfl) (fun _ _ _ h => h) (Or.inl ⟨?wg1, ?yg1⟩) (Or.inr hS) ?_
  case hg1 => simp only [List.getElem?_toArray, List.getElem?_cons_succ, List.getElem?_cons_zero]; rfl
  case wg1 => rfl
  case yg1 => (intro w; go_simp; try with_reducible rfl)
  try simp only [Act.put, List.setIfInBounds_toArray, List.set_cons_zero, List.set_cons_succ]
  refine anyL_take0 (i := 2) (oi := ?og2) (v := ?vg2) ?hg2 (by kernel_rfl) (by kernel_rfl) (by kernel_rfl) (by kernel_rfl) (fun _ _ _ h => h) (Or.inl ⟨?wg2, ?yg2⟩) (Or.inr hS) ?_
  case hg2 => simp only [List.getElem?_toArray, List.getElem?_cons_succ, List.getElem?_cons_zero]; rfl
  case wg2 => rfl
  case yg2 => (intro w; go_simp; try with_reducible rfl)
  try simp only [Act.put, List.setIfInBounds_toArray, List.set_cons_zero, List.set_cons_succ]
  refine anyL_take0 (i := 3) (oi := ?og3) (v := ?vg3) ?hg3 (by kernel_rfl) (by kernel_rfl) (by kernel_rfl) (by kernel_rfl) (fun _ _ _ h => h) (Or.inl ⟨?wg3, ?yg3⟩) (Or.inr hS) ?_
  case hg3 => simp only [List.getElem?_toArray, List.getElem?_cons_succ, List.getElem?_cons_zero]; rfl
  case wg3 => rfl
  case yg3 => (intro w; go_simp; try with_reducible rfl)
  try simp only [Act.put, List.setIfInBounds_toArray, List.set_cons_zero, List.set_cons_succ]
  refine anyL_take0 (i := 4) (oi := ?og4) (v := ?vg4) ?hg4 (by kernel_rfl) (by kernel_rfl) (by kernel_rfl) (by kernel_rfl) (fun _ _ _ h => h) (Or.inl ⟨?wg4, ?yg4⟩) (Or.inr hS) ?_
  case hg4 => simp only [List.getElem?_toArray, List.getElem?_cons_succ, List.getElem?_cons_zero]; rfl
  case wg4 => rfl
  case yg4 => (intro w; go_simp; try with_reducible rfl)
  try simp only [Act.put, List.setIfInBounds_toArray, List.set_cons_zero, List.set_cons_succ]
  refine anyL_take (i := 5) (oi := ?og5) (v := ?vg5) ?hg5 (by kernel_rfl) (by kernel_rfl) (by kernel_rfl) (by kernel_rfl) (by kernel_rfl) (fun _ _ _ h => h) (Or.inl ⟨?wg5, ?yg5⟩) hS ?_
  case hg5 => simp only [List.getElem?_toArray, List.getElem?_cons_succ, List.getElem?_cons_zero]; rfl
  case wg5 => rfl
  case yg5 => (intro w hSw; replace hSw := HSI.out _ hSw; go_simp; try with_reducible rfl)
  try simp only [Act.put, List.setIfInBounds_toArray, List.set_cons_zero, List.set_cons_succ]
  refine anyL_take0 (i := 6) (oi := ?og6) (v := ?vg6) ?hg6 (by kernel_rfl) (by kernel_rfl) (by kernel_rfl) (by kernel_rfl) (fun _ _ _ h => h) (Or.inl ⟨?wg6, ?yg6⟩) (Or.inr hS) ?_
  case hg6 => simp only [List.getElem?_toArray, List.getElem?_cons_succ, List.getElem?_cons_zero]; rfl
  case wg6 => rfl
  case yg6 => (intro w; go_simp; try with_reducible rfl)
  try simp only [Act.put, List.setIfInBounds_toArray, List.set_cons_zero, List.set_cons_succ]
  refine anyL_take (i := 7) (oi := ?og7) (v := ?vg7) ?hg7 (by kernel_rfl) (by kernel_rfl) (by kernel_rfl) (by kernel_rfl) (by kernel_rfl) (fun _ _ _ h => h) (Or.inl ⟨?wg7, ?yg7⟩) hS ?_
  case hg7 => simp only [List.getElem?_toArray, List.getElem?_cons_succ, List.getElem?_cons_zero]; rfl
  case wg7 => rfl
  case yg7 => (intro w hSw; replace hSw := HSI.out _ hSw; go_simp; try with_reducible rfl)
  try simp only [Act.put, List.setIfInBounds_toArray, List.set_cons_zero, List.set_cons_succ]
  refine anyL_take0 (i := 8) (oi := ?og8) (v := ?vg8) ?hg8 (by kernel_rfl) (by kernel_rfl) (by kernel_rfl) (by kernel_rfl) (fun _ _ _ h => h) (Or.inl ⟨?wg8, ?yg8⟩) (Or.inr hS) ?_
  case hg8 => simp only [List.getElem?_toArray, List.getElem?_cons_succ, List.getElem?_cons_zero]; rfl
  case wg8 => rfl
  case yg8 => (intro w; go_simp; try with_reducible rfl)
  try simp only [Act.put, List.setIfInBounds_toArray, List.set_cons_zero, List.set_cons_succ]
  refine anyL_take0 (i := 9) (oi := ?og9) (v := ?vg9) ?hg9 (by kernel_rfl) (by kernel_rfl) (by kernel_rfl) (by kernel_rfl) (fun _ _ _ h => h) (Or.inl ⟨?wg9, ?yg9⟩) (Or.inr hS) ?_
  case hg9 => simp only [List.getElem?_toArray, List.getElem?_cons_succ, List.getElem?_cons_zero]; rfl
  case wg9 => rfl
  case yg9 => (intro w; go_simp; try with_reducible rfl)
  try simp only [Act.put, List.setIfInBounds_toArray, List.set_cons_zero, List.set_cons_succ]
  refine anyL_one (i := 0) (o := ?og0) (by kernel_rfl) ?hg0 ?wg0 (fun K hK => ?_)
  case hg0 => simp only [List.getElem?_toArray, List.getElem?_cons_zero]; rfl
  case wg0 => rfl
  go_simp
  refine hK _ _ (fun _ => HSE.out _ (bel_drew (bel1 _ _))) ?_
  replace hS := HSE.out _ (bel_drew (bel1 W3 (.cells #[] 170)))
  clear hK K
  try simp only [Act.put, List.setIfInBounds_toArray, List.set_cons_zero, List.set_cons_succ]
  refine anyL_one (i := 10) (o := ?og10) (by kernel_rfl) ?hg10 ?wg10 (fun K hK => ?_)
  case hg10 => simp only [List.getElem?_toArray, List.getElem?_cons_succ, List.getElem?_cons_zero]; rfl
  case wg10 => rfl
  refine wp_own _ K elParcel_good elParcel_one (.tmp 33) (.tmp 42) 81 170 rfl Tryz.underlying81 info_toParcel rfl (D := RunD X W3 g (some ⟨bw, ow, none⟩) c) (A := some ⟨W3.heap.size, 0, none⟩) (c := 0) (xs := []) rfl OwnSl.nil rfl (HL7.out _ (bel_drew (bel1 _ _))) (by simp only [List.length_nil, maxLen]; omega) (by simp only [List.length_nil]; omega) (fun k hk => Nat.lt_of_lt_of_le hk.1 (bel1 W3 _).size) ?_
  intro A7 c7 w7 ho7 hg7 _
  rw [List.nil_append] at ho7 ⊢
  have HB7 : Hid (Below W3.heap.size W3 w7) := Lib.hid ((bel_drew (bel1 _ _)).grown hg7 (bel1 W3 _).size (fun k hk => by rw [ownB_zero] at hk; cases hk))
  have HO7 := Lib.hid ho7
  clear ho7 hg7
  refine hK _ _ (fun _ => HSE.out _ HB7.out) ?_
  replace hS := HSE.out _ HB7.out
  clear hK K
  try simp only [Act.put, List.setIfInBounds_toArray, List.set_cons_zero, List.set_cons_succ]
  refine anyL_take0 (i := 11) (oi := ?og11) (v := ?vg11) ?hg11 (by kernel_rfl) (by kernel_rfl) (by kernel_rfl) (by kernel_rfl) (fun _ _ _ h => h) (Or.inl ⟨?wg11, ?yg11⟩) (Or.inr hS) ?_
  case hg11 => simp only [List.getElem?_toArray, List.getElem?_cons_succ, List.getElem?_cons_zero]; rfl
  case wg11 => rfl
  case yg11 => (intro w; go_simp; try with_reducible rfl)
  try simp only [Act.put, List.setIfInBounds_toArray, List.set_cons_zero, List.set_cons_succ]
  refine anyL_end (by kernel_rfl) ?_ _
  go_wp2_with fail
  refine wp_region_L [16] S (by kernel_rfl) (HSE.out _ (bel_drew HB7.out)) (fun hS => ?_)
  refine anyL_take0 (i := 0) (oi := ?oe0) (v := ?ve0) ?he0 (by kernel_rfl) (by kernel_rfl) (by kernel_rfl) (by kernel_rfl) (fun _ _ _ h => h) (Or.inl ⟨?we0, ?ye0⟩) (Or.inr hS) ?_
  case he0 => simp only [List.getElem?_toArray, List.getElem?_cons_zero]; rfl
  case we0 => rfl
  case ye0 => (intro w; go_simp; try with_reducible rfl)
  try simp only [Act.put, List.setIfInBounds_toArray, List.set_cons_zero, List.set_cons_succ]
  refine anyL_take0 (i := 2) (oi := ?oe2) (v := ?ve2) ?he2 (by kernel_rfl) (by kernel_rfl) (by kernel_rfl) (by kernel_rfl) (fun _ _ _ h => h) (Or.inl ⟨?we2, ?ye2⟩) (Or.inr hS) ?_
  case he2 => simp only [List.getElem?_toArray, List.getElem?_cons_succ, List.getElem?_cons_zero]; rfl
  case we2 => rfl
  case ye2 => (intro w; go_simp; try with_reducible rfl)
  try simp only [Act.put, List.setIfInBounds_toArray, List.set_cons_zero, List.set_cons_succ]
  refine anyL_take0 (i := 3) (oi := ?oe3) (v := ?ve3) ?he3 (by kernel_rfl) (by kernel_rfl) (by kernel_rfl) (by kernel_rfl) (fun _ _ _ h => h) (Or.inl ⟨?we3, ?ye3⟩) (Or.inr hS) ?_
  case he3 => simp only [List.getElem?_toArray, List.getElem?_cons_succ, List.getElem?_cons_zero]; rfl
  case we3 => rfl
  case ye3 => (intro w; go_simp; try with_reducible rfl)
  try simp only [Act.put, List.setIfInBounds_toArray, List.set_cons_zero, List.set_cons_succ]
  refine anyL_take0 (i := 4) (oi := ?oe4) (v := ?ve4) ?he4 (by kernel_rfl) (by kernel_rfl) (by kernel_rfl) (by kernel_rfl) (fun _ _ _ h => h) (Or.inl ⟨?we4, ?ye4⟩) (Or.inr hS) ?_
  case he4 => simp only [List.getElem?_toArray, List.getElem?_cons_succ, List.getElem?_cons_zero]; rfl
  case we4 => rfl
  case ye4 => (intro w; go_simp; try with_reducible rfl)
  try simp only [Act.put, List.setIfInBounds_toArray, List.set_cons_zero, List.set_cons_succ]
  refine anyL_take0 (i := 5) (oi := ?oe5) (v := ?ve5) ?he5 (by kernel_rfl) (by kernel_rfl) (by kernel_rfl) (by kernel_rfl) (fun _ _ _ h => h) (Or.inl ⟨?we5, ?ye5⟩) (Or.inr hS) ?_
  case he5 => simp only [List.getElem?_toArray, List.getElem?_cons_succ, List.getElem?_cons_zero]; rfl
  case we5 => rfl
  case ye5 => (intro w; go_simp; try with_reducible rfl)
  try simp only [Act.put, List.setIfInBounds_toArray, List.set_cons_zero, List.set_cons_succ]
  refine anyL_take (i := 6) (oi := ?oe6) (v := ?ve6) ?he6 (by kernel_rfl) (by kernel_rfl) (by kernel_rfl) (by kernel_rfl) (by kernel_rfl) (fun _ _ _ h => h) (Or.inl ⟨?we6, ?ye6⟩) hS ?_
  case he6 => simp only [List.getElem?_toArray, List.getElem?_cons_succ, List.getElem?_cons_zero]; rfl
  case we6 => rfl
  case ye6 => (intro w hSw; replace hSw := HSI.out _ hSw; go_simp; try with_reducible rfl)
  try simp only [Act.put, List.setIfInBounds_toArray, List.set_cons_zero, List.set_cons_succ]
  refine anyL_take0 (i := 7) (oi := ?oe7) (v := ?ve7) ?he7 (by kernel_rfl) (by kernel_rfl) (by kernel_rfl) (by kernel_rfl) (fun _ _ _ h => h) (Or.inl ⟨?we7, ?ye7⟩) (Or.inr hS) ?_
  case he7 => simp only [List.getElem?_toArray, List.getElem?_cons_succ, List.getElem?_cons_zero]; rfl
  case we7 => rfl
  case ye7 => (intro w; go_simp; try with_reducible rfl)
  try simp only [Act.put, List.setIfInBounds_toArray, List.set_cons_zero, List.set_cons_succ]
  refine anyL_take (i := 8) (oi := ?oe8) (v := ?ve8) ?he8 (by kernel_rfl) (by kernel_rfl) (by kernel_rfl) (by kernel_rfl) (by kernel_rfl) (fun _ _ _ h => h) (Or.inl ⟨?we8, ?ye8⟩) hS ?_
  case he8 => simp only [List.getElem?_toArray, List.getElem?_cons_succ, List.getElem?_cons_zero]; rfl
  case we8 => rfl
  case ye8 => (intro w hSw; replace hSw := HSI.out _ hSw; go_simp; try with_reducible rfl)
  try simp only [Act.put, List.setIfInBounds_toArray, List.set_cons_zero, List.set_cons_succ]
  refine anyL_take0 (i := 9) (oi := ?oe9) (v := ?ve9) ?he9 (by kernel_rfl) (by kernel_rfl) (by kernel_rfl) (by kernel_rfl) (fun _ _ _ h => h) (Or.inl ⟨?we9, ?ye9⟩) (Or.inr hS) ?_
  case he9 => simp only [List.getElem?_toArray, List.getElem?_cons_succ, List.getElem?_cons_zero]; rfl
  case we9 => rfl
  case ye9 => (intro w; go_simp; try with_reducible rfl)
  try simp only [Act.put, List.setIfInBounds_toArray, List.set_cons_zero, List.set_cons_succ]
  refine anyL_take0 (i := 11) (oi := ?oe11) (v := ?ve11) ?he11 (by kernel_rfl) (by kernel_rfl) (by kernel_rfl) (by kernel_rfl) (fun _ _ _ h => h) (Or.inl ⟨?we11, ?ye11⟩) (Or.inr hS) ?_
  case he11 => simp only [List.getElem?_toArray, List.getElem?_cons_succ, List.getElem?_cons_zero]; rfl
  case we11 => rfl
  case ye11 => (intro w; go_simp; try with_reducible rfl)
  try simp only [Act.put, List.setIfInBounds_toArray, List.set_cons_zero, List.set_cons_succ]
  refine anyL_one (i := 1) (o := ?oe1) (by kernel_rfl) ?he1 ?we1 (fun K hK => ?_)
  case he1 => simp only [List.getElem?_toArray, List.getElem?_cons_succ, List.getElem?_cons_zero]; rfl
  case we1 => rfl
  go_simp
  refine hK _ _ (fun _ => HSE.out _ (bel_drew (HB7.out.trans ((bel1 _ _).mono HB7.out.size)))) ?_
  replace hS := HSE.out _ (bel_drew (HB7.out.trans ((bel1 w7 (.cells #[] 170)).mono HB7.out.size)))
  clear hK K
  try simp only [Act.put, List.setIfInBounds_toArray, List.set_cons_zero, List.set_cons_succ]
  refine anyL_one (i := 10) (o := ?oe10) (by kernel_rfl) ?he10 ?we10 (fun K hK => ?_)
  case he10 => simp only [List.getElem?_toArray, List.getElem?_cons_succ, List.getElem?_cons_zero]; rfl
  case we10 => rfl
  refine wp_own _ K elParcel_good elParcel_one (.tmp 45) (.tmp 53) 81 170 rfl Tryz.underlying81 info_toParcel rfl (D := RunD X W3 g (some ⟨bw, ow, none⟩) c) (A := some ⟨w7.heap.size, 0, none⟩) (c := 0) (xs := []) rfl OwnSl.nil (by rw [HTK.out]; rfl) (HL8.out _ (bel_drew (HB7.out.trans ((bel1 _ _).mono HB7.out.size)))) (by simp only [List.length_nil, maxLen]; omega) (by simp only [List.length_nil]; omega) (fun k hk => Nat.lt_of_lt_of_le (Nat.lt_of_lt_of_le hk.1 HB7.out.size) (bel1 w7 _).size) ?_
  intro A8 c8 w8 ho8 hg8 hor8
  rw [List.nil_append] at ho8 ⊢
  have HB8 : Hid (Below W3.heap.size W3 w8) := Lib.hid ((bel_drew (HB7.out.trans ((bel1 _ _).mono HB7.out.size))).grown hg8 (Nat.le_trans HB7.out.size (bel1 w7 _).size) (fun k hk => by rw [ownB_zero] at hk; cases hk))
  have HB78 : Hid (Below w7.heap.size w7 w8) := Lib.hid ((bel_drew (bel1 _ _)).grown hg8 (bel1 w7 _).size (fun k hk => by rw [ownB_zero] at hk; cases hk))
  have HN8 : Hid (∀ b, ownB A8 c8 = some b → W3.heap.size ≤ b) := Lib.hid fun b hb => by
    rcases hor8 with h0 | h0
    · rw [h0, ownB_zero] at hb; cases hb
    · rw [h0] at hb; injection hb with hb; subst hb; exact Nat.le_trans HB7.out.size (bel1 w7 _).size
  have HO8 := Lib.hid ho8
  clear ho8 hg8 hor8
  refine hK _ _ (fun _ => HSE.out _ HB8.out) ?_
  replace hS := HSE.out _ HB8.out
  clear hK K
  try simp only [Act.put, List.setIfInBounds_toArray, List.set_cons_zero, List.set_cons_succ]
  refine anyL_one (i := 12) (o := ?oe12) (by kernel_rfl) ?he12 ?we12 (fun K hK => ?_)
  case he12 => simp only [List.getElem?_toArray, List.getElem?_cons_succ, List.getElem?_cons_zero]; rfl
  case we12 => rfl
  refine wp_own _ K elParcel_good elParcel_one (.tmp 54) (.tmp 55) 81 170 rfl Tryz.underlying81 info_toParcel rfl (D := RunD X W3 g (some ⟨bw, ow, none⟩) c) (A := A8) (c := c8) (xs := hd) rfl HO8.out rfl (HO7.out.lies.below elParcel_good HB78.out fun k hk => Nat.lt_of_lt_of_le hk.1 HB7.out.size) (by simp only [maxLen]; omega) (by omega) (fun k hk => Nat.lt_of_lt_of_le hk.1 HB8.out.size) ?_
  intro A9 c9 w9 ho9 hg9 hor9
  have HB9 : Hid (Below W3.heap.size W3 w9) := Lib.hid (HB8.out.grown hg9 HB8.out.size (fun k hk => HN8.out k hk))
  have HN9 : Hid (∀ b, ownB A9 c9 = some b → W3.heap.size ≤ b) := Lib.hid fun b hb => by
    rcases hor9 with h0 | h0
    · rw [h0] at hb; exact HN8.out b hb
    · rw [h0] at hb; injection hb with hb; subst hb; exact HB8.out.size
  have HO9 := Lib.hid ho9
  clear ho9 hg9 hor9
  refine hK _ _ (fun _ => HSE.out _ HB9.out) ?_
  replace hS := HSE.out _ HB9.out
  have z9 : w9.frozen? ⟨g, 9, none⟩ = false := (HR3.out.below HB9.out).free 9
  have y9 := (HSI.out _ hS).1
  clear hK K
  try simp only [Act.put, List.setIfInBounds_toArray, List.set_cons_zero, List.set_cons_succ]
  refine anyL_take0 (i := 13) (oi := ?oe13) (v := ?ve13) ?he13 (by kernel_rfl) (by kernel_rfl) (by kernel_rfl) (by kernel_rfl) (fun _ _ _ h => h) (Or.inl ⟨?we13, ?ye13⟩) (Or.inr hS) ?_
  case he13 => simp only [List.getElem?_toArray, List.getElem?_cons_succ, List.getElem?_cons_zero]; rfl
  case we13 => rfl
  case ye13 => (intro w; go_simp; try with_reducible rfl)
  try simp only [Act.put, List.setIfInBounds_toArray, List.set_cons_zero, List.set_cons_succ]
  refine anyL_take0 (i := 14) (oi := ?oe14) (v := ?ve14) ?he14 (by kernel_rfl) (by kernel_rfl) (by kernel_rfl) (by kernel_rfl) (fun _ _ _ h => h) (Or.inl ⟨?we14, ?ye14⟩) (Or.inr hS) ?_
  case he14 => simp only [List.getElem?_toArray, List.getElem?_cons_succ, List.getElem?_cons_zero]; rfl
  case we14 => rfl
  case ye14 => (intro w; go_simp; try with_reducible rfl)
  try simp only [Act.put, List.setIfInBounds_toArray, List.set_cons_zero, List.set_cons_succ]
  refine anyL_take0 (i := 15) (oi := ?oe15) (v := ?ve15) ?he15 (by kernel_rfl) (by kernel_rfl) (by kernel_rfl) (by kernel_rfl) (fun _ _ _ h => h) (Or.inl ⟨?we15, ?ye15⟩) (Or.inr hS) ?_
  case he15 => simp only [List.getElem?_toArray, List.getElem?_cons_succ, List.getElem?_cons_zero]; rfl
  case we15 => rfl
  case ye15 => (intro w; go_simp; try with_reducible rfl)
  try simp only [Act.put, List.setIfInBounds_toArray, List.set_cons_zero, List.set_cons_succ]
  refine anyL_late (i := 16) (o := ?oe16) (by kernel_rfl) ?he16 ?we16 (by kernel_rfl) (fun K hK => ?_)
  case he16 => simp only [List.getElem?_toArray, List.getElem?_cons_succ, List.getElem?_cons_zero]; rfl
  case we16 => rfl
  go_simp
  refine hK _ _ ?_
  clear hK K
  try simp only [Act.put, List.setIfInBounds_toArray, List.set_cons_zero, List.set_cons_succ]
  refine anyL_end (by kernel_rfl) ?_ _
  go_wp2_with fail
  have HF : Hid (RunS X B (w9.setCell ⟨g, 9, none⟩ (.slice A9 (hd ++ tl).length c9)) g vb vo ⟨dk, sv, hd ++ tl⟩ A9 c9) := Lib.hid (HR3.out.putWire (fun k hk _ => HB9.out.block k hk) HB9.out.size HO9.out (.inr HN9.out))
  go_wp2_with fail
  go_ret
  refine ⟨A9, c9, by rw [HX.out]; rfl, by rw [HX.out, ← HER.out]; have hf := HF.out; rw [List.length_append] at hf; exact hf, ?_, .inr fun b hb => Nat.le_trans HB3x.out.size (HN9.out b hb)⟩
  exact But.set (a := ⟨g, 9, none⟩) (But.of_below (HB3x.out.trans (HB9.out.mono HB3x.out.size))) (.inr (.inl rfl))
set_option maxHeartbeats 8000000 in
set_option maxRecDepth 100000 in
theorem wire_copy (X : Dom) (B : Nat) (g vb vo : Nat) (dk sv : DeskP) (ws : List ParcelP) (A : Option Addr) (c : Nat) (d : Chk) (p : List ByteArray) (k b : Int) (an : Nat) (D : Dom) (w : World) (h : RunS X B w g vb vo ⟨dk, sv, ws⟩ A c) (hv : StrPtr D w vb vo d p) (hD : ∀ k, D k → k < B) (hvb : vb < B) (hd : Dim d) (hw : ∀ s ∈ p, okWord s = true) (hp : p.length ≤ 20)
    (ho : PlantOk d p ⟨dk, sv, ws⟩) (hk : k ≠ 1 ∧ k ≠ 5 ∧ k ≠ 6) (hlt : an < ws.length) (h4 : k = 3) :
    Calls Tryz.prog 203 #[.pointer (some ⟨g, 0, none⟩), .agg #[.int .i64 k, .int .i64 an, .int .i64 b]] w (RetDo X B g vb vo A c d p ⟨dk, sv, ws⟩ ⟨k, an, b⟩ w) := by
  subst h4
  have HR := Lib.hid h
  have HV := Lib.hid hv
  have HO := Lib.hid ho
  have HD := Lib.hid hd
  have HW := Lib.hid hw
  have HDB := Lib.hid hD
  have HLo := Lib.hid h.lo
  have HBw : Hid (B ≤ w.heap.size) := Lib.hid (Nat.le_trans h.lo (Nat.le_of_lt h.lt))
  have hl12 : ws.length ≤ 12 := ho.len
  have lg := h.lt
  have e9 : w.cell? ⟨g, 9, none⟩ = some (.slice A ws.length c) := h.wire
  have HK := Lib.hid hk
  clear h hv ho hd hw hD hk
  obtain ⟨W, hWe⟩ : ∃ W, W = w.alloc (.cells #[.int .i64 3, .int .i64 an, .int .i64 b] 150) := ⟨_, rfl⟩
  obtain ⟨bd, hbd⟩ : ∃ bd, bd = w.heap.size := ⟨_, rfl⟩
  have HBW : Hid (Below w.heap.size w W) := Lib.hid (hWe ▸ bel1 w _)
  have HRW : Hid (RunS X B W g vb vo ⟨dk, sv, ws⟩ A c) := Lib.hid (HR.out.below HBW.out)
  have E0 : W.cell? ⟨bd, 0, none⟩ = some (.int .i64 3) := by rw [hWe, hbd, cell_new]; rfl
  have E1 : W.cell? ⟨bd, 1, none⟩ = some (.int .i64 an) := by rw [hWe, hbd, cell_new]; rfl
  have HNE : Hid (bd ≠ g) := Lib.hid (by omega)
  have HWe := Lib.hid hWe
  have HBD := Lib.hid hbd
  clear hWe hbd
  have e9W : W.cell? ⟨g, 9, none⟩ = some (.slice A ws.length c) := HRW.out.wire
  obtain ⟨bw, ow, hAw, he⟩ : ∃ bw ow, A = some ⟨bw, ow, none⟩ ∧ elParcel (RunD X W g A c) W bw (ow + an * 2) ws[an] := by
    obtain ⟨bw, ow, ha, _, _, he, _⟩ := HRW.out.own.at_ (by have := HRW.out.own.le; simp only at this; omega)
    exact ⟨bw, ow, ha, he an _ (List.getElem?_eq_getElem hlt)⟩
  obtain ⟨q0, A4, c4, q1, _⟩ := he
  have HQO : Hid (ParcelOk p ws[an]) := Lib.hid (HO.out.wire _ (List.getElem_mem hlt))
  have HGD := Lib.hid (getD_at ws ⟨0, []⟩ hlt)
  generalize ws[an] = pc at *
  have hi0 : (0 : Int) ≤ an := by omega
  have hi1 : (an : Int) < ws.length := by omega
  obtain ⟨S, hSI, hSE⟩ : ∃ S : World → Prop, (∀ w', S w' → w'.cell? ⟨g, 9, none⟩ = some (.slice A ws.length c) ∧ w'.cell? ⟨bd, 0, none⟩ = some (.int .i64 3) ∧ w'.cell? ⟨bd, 1, none⟩ = some (.int .i64 an) ∧ w'.cell? ⟨bw, ow + an * 2, none⟩ = some (.int .i64 pc.first) ∧ w'.cell? ⟨bw, ow + an * 2 + 1, none⟩ = some (.slice A4 pc.texts.length c4)) ∧ ∀ w2, Below W.heap.size W w2 → S w2 := by
    refine ⟨fun w' => Below W.heap.size W w', fun w' h => ?_, fun w2 h => h⟩
    have h2 := (bcell h (Nat.le_refl _)).1
    exact ⟨(h2 _ _ HRW.out.lt).trans HRW.out.wire, (h2 _ _ (lt_of_cell E0)).trans E0, (h2 _ _ (lt_of_cell E1)).trans E1, (h2 _ _ (lt_of_cell q0)).trans q0, (h2 _ _ (lt_of_cell q1)).trans q1⟩
  have HSI := Lib.hid hSI
  have HSE := Lib.hid hSE
  clear hSI hSE
  subst hAw
  have HX : Hid (doC d p ⟨dk, sv, ws⟩ ⟨3, an, b⟩ = (⟨comeC d p dk pc, sv, ws⟩, 0)) := Lib.hid (by
    unfold doC
    rw [if_neg (by simp), if_neg (by simp), if_neg (by simp), if_neg (by simp only; omega)]
    simp only [if_true, Int.toNat_natCast, HGD.out]
    simp)
  go_enter Tryz.func203, Tryz.ntmps203
  go_wp2_with fail
  rw [← HWe.out, ← HBD.out]
  go_quiet (fail)
  go_wp2_with fail
  refine wp_region_L [10] S (by kernel_rfl) (HSE.out _ (bel_drew (drewN_below _ _))) (fun hS => ?_)
  refine anyL_take0 (i := 0) (oi := ?o0) (v := ?v0) ?h0 (by kernel_rfl) (by kernel_rfl) (by kernel_rfl) (by kernel_rfl) (fun _ _ _ h => h) (Or.inl ⟨?w0, ?y0⟩) (Or.inr hS) ?_
  case h0 => simp only [List.getElem?_toArray, List.getElem?_cons_zero]; rfl
  case w0 => rfl
  case y0 => (intro w; go_simp; try with_reducible rfl)
  try simp only [Act.put, List.setIfInBounds_toArray, List.set_cons_zero, List.set_cons_succ]
  refine anyL_take0 (i := 1) (oi := ?o1) (v := ?v1) ?h1 (by kernel_rfl) (by kernel_rfl) (by kernel_rfl) (by kernel_rfl) (fun _ _ _ h => h) (Or.inl ⟨?w1, ?y1⟩) (Or.inr hS) ?_
  case h1 => simp only [List.getElem?_toArray, List.getElem?_cons_succ, List.getElem?_cons_zero]; rfl
  case w1 => rfl
  case y1 => (intro w; go_simp; try with_reducible rfl)
  try simp only [Act.put, List.setIfInBounds_toArray, List.set_cons_zero, List.set_cons_succ]
  refine anyL_take0 (i := 2) (oi := ?o2) (v := ?v2) ?h2 (by kernel_rfl) (by kernel_rfl) (by kernel_rfl) (by kernel_rfl) (fun _ _ _ h => h) (Or.inl ⟨?w2, ?y2⟩) (Or.inr hS) ?_
  case h2 => simp only [List.getElem?_toArray, List.getElem?_cons_succ, List.getElem?_cons_zero]; rfl
  case w2 => rfl
  case y2 => (intro w; go_simp; try with_reducible rfl)
  try simp only [Act.put, List.setIfInBounds_toArray, List.set_cons_zero, List.set_cons_succ]
  refine anyL_take0 (i := 3) (oi := ?o3) (v := ?v3) ?h3 (by kernel_rfl) (by kernel_rfl) (by kernel_rfl) (by kernel_rfl) (fun _ _ _ h => h) (Or.inl ⟨?w3, ?y3⟩) (Or.inr hS) ?_
  case h3 => simp only [List.getElem?_toArray, List.getElem?_cons_succ, List.getElem?_cons_zero]; rfl
  case w3 => rfl
  case y3 => (intro w; go_simp; try with_reducible rfl)
  try simp only [Act.put, List.setIfInBounds_toArray, List.set_cons_zero, List.set_cons_succ]
  refine anyL_take (i := 4) (oi := ?o4) (v := ?v4) ?h4 (by kernel_rfl) (by kernel_rfl) (by kernel_rfl) (by kernel_rfl) (by kernel_rfl) (fun _ _ _ h => h) (Or.inl ⟨?w4, ?y4⟩) hS ?_
  case h4 => simp only [List.getElem?_toArray, List.getElem?_cons_succ, List.getElem?_cons_zero]; rfl
  case w4 => rfl
  case y4 => (intro w hSw; replace hSw := HSI.out _ hSw; go_simp; try with_reducible rfl)
  try simp only [Act.put, List.setIfInBounds_toArray, List.set_cons_zero, List.set_cons_succ]
  refine anyL_take0 (i := 5) (oi := ?o5) (v := ?v5) ?h5 (by kernel_rfl) (by kernel_rfl) (by kernel_rfl) (by kernel_rfl) (fun _ _ _ h => h) (Or.inl ⟨?w5, ?y5⟩) (Or.inr hS) ?_
  case h5 => simp only [List.getElem?_toArray, List.getElem?_cons_succ, List.getElem?_cons_zero]; rfl
  case w5 => rfl
  case y5 => (intro w; go_simp; try with_reducible rfl)
  try simp only [Act.put, List.setIfInBounds_toArray, List.set_cons_zero, List.set_cons_succ]
  refine anyL_take (i := 6) (oi := ?o6) (v := ?v6) ?h6 (by kernel_rfl) (by kernel_rfl) (by kernel_rfl) (by kernel_rfl) (by kernel_rfl) (fun _ _ _ h => h) (Or.inl ⟨?w6, ?y6⟩) hS ?_
  case h6 => simp only [List.getElem?_toArray, List.getElem?_cons_succ, List.getElem?_cons_zero]; rfl
  case w6 => rfl
  case y6 => (intro w hSw; replace hSw := HSI.out _ hSw; go_simp; try with_reducible rfl)
  try simp only [Act.put, List.setIfInBounds_toArray, List.set_cons_zero, List.set_cons_succ]
  refine anyL_take0 (i := 7) (oi := ?o7) (v := ?v7) ?h7 (by kernel_rfl) (by kernel_rfl) (by kernel_rfl) (by kernel_rfl) (fun _ _ _ h => h) (Or.inl ⟨?w7, ?y7⟩) (Or.inr hS) ?_
  case h7 => simp only [List.getElem?_toArray, List.getElem?_cons_succ, List.getElem?_cons_zero]; rfl
  case w7 => rfl
  case y7 => (intro w; go_simp; try with_reducible rfl)
  try simp only [Act.put, List.setIfInBounds_toArray, List.set_cons_zero, List.set_cons_succ]
  refine anyL_take (i := 8) (oi := ?o8) (v := ?v8) ?h8 (by kernel_rfl) (by kernel_rfl) (by kernel_rfl) (by kernel_rfl) (by kernel_rfl) (fun _ _ _ h => h) (Or.inl ⟨?w8, ?y8⟩) hS ?_
  case h8 => simp only [List.getElem?_toArray, List.getElem?_cons_succ, List.getElem?_cons_zero]; rfl
  case w8 => rfl
  case y8 => (intro w hSw; replace hSw := HSI.out _ hSw; go_simp; try with_reducible rfl)
  try simp only [Act.put, List.setIfInBounds_toArray, List.set_cons_zero, List.set_cons_succ]
  refine anyL_one (i := 9) (o := ?o9) (by kernel_rfl) ?h9 ?w9 (fun K hK => ?_)
  case h9 => simp only [List.getElem?_toArray, List.getElem?_cons_succ, List.getElem?_cons_zero]; rfl
  case w9 => rfl
  go_simp
  refine hK _ _ (fun _ => HSE.out _ (drewA_below _ _ _)) ?_
  generalize hW2 : (W.drewN (nq + 1)).alloc (.cells #[.int .i64 0, .slice none 0 0] 170) = W2
  have n0 : W2.cell? ⟨W.heap.size, 0, none⟩ = some (.int .i64 0) := by rw [← hW2]; exact cell_new (W.drewN (nq + 1)) _ _ 0
  have n1 : W2.cell? ⟨W.heap.size, 1, none⟩ = some (.slice none 0 0) := by rw [← hW2]; exact cell_new (W.drewN (nq + 1)) _ _ 1
  have n2 : W2.frozen? ⟨W.heap.size, 0, none⟩ = false := by rw [← hW2]; exact World.frozen?_alloc_new (W.drewN (nq + 1)) _ _ _
  have n3 : W2.frozen? ⟨W.heap.size, 1, none⟩ = false := by rw [← hW2]; exact World.frozen?_alloc_new (W.drewN (nq + 1)) _ _ _
  have HN4 : Hid (Below W.heap.size W W2) := Lib.hid (by rw [← hW2]; exact drewA_below _ _ _)
  clear hW2 hS
  clear hK K
  try simp only [Act.put, List.setIfInBounds_toArray, List.set_cons_zero, List.set_cons_succ]
  refine anyL_late (i := 10) (o := ?o10) (by kernel_rfl) ?h10 ?w10 (by kernel_rfl) (fun K hK => ?_)
  case h10 => simp only [List.getElem?_toArray, List.getElem?_cons_succ, List.getElem?_cons_zero]; rfl
  case w10 => rfl
  go_simp
  refine hK _ _ ?_
  clear hK K
  try simp only [Act.put, List.setIfInBounds_toArray, List.set_cons_zero, List.set_cons_succ]
  refine anyL_end (by kernel_rfl) ?_ _
  have HR3 : Hid (RunS X B ((W2.setCell ⟨W.heap.size, 0, none⟩ (.int .i64 pc.first)).setCell ⟨W.heap.size, 1, none⟩ (.slice A4 pc.texts.length c4)) g vb vo ⟨dk, sv, ws⟩ (some ⟨bw, ow, none⟩) c) := Lib.hid (HRW.out.below ((HN4.out.setCell (Nat.le_refl _) _).setCell (Nat.le_refl _) _))
  have HB3 : Hid (Below W.heap.size W ((W2.setCell ⟨W.heap.size, 0, none⟩ (.int .i64 pc.first)).setCell ⟨W.heap.size, 1, none⟩ (.slice A4 pc.texts.length c4))) := Lib.hid ((HN4.out.setCell (Nat.le_refl _) _).setCell (Nat.le_refl _) _)
  have p0 : ((W2.setCell ⟨W.heap.size, 0, none⟩ (.int .i64 pc.first)).setCell ⟨W.heap.size, 1, none⟩ (.slice A4 pc.texts.length c4)).cell? ⟨W.heap.size, 0, none⟩ = some (.int .i64 pc.first) := by rw [cell_set_ne (by omega)]; exact cell_set n0
  have p1 : ((W2.setCell ⟨W.heap.size, 0, none⟩ (.int .i64 pc.first)).setCell ⟨W.heap.size, 1, none⟩ (.slice A4 pc.texts.length c4)).cell? ⟨W.heap.size, 1, none⟩ = some (.slice A4 pc.texts.length c4) := cell_set (old := .slice none 0 0) (by rw [cell_set_ne (by omega)]; exact n1)
  clear n0 n1 n2 n3 hi0 hi1 q0 q1
  generalize ((W2.setCell ⟨W.heap.size, 0, none⟩ (.int .i64 pc.first)).setCell ⟨W.heap.size, 1, none⟩ (.slice A4 pc.texts.length c4)) = W3 at *
  have F0 := ((bcell HB3.out (Nat.le_refl _)).1 _ _ (lt_of_cell E0)).trans E0
  have F1 := ((bcell HB3.out (Nat.le_refl _)).1 _ _ (lt_of_cell E1)).trans E1
  have HPN : Hid (W.heap.size ≠ g) := Lib.hid (by have := HRW.out.lt; omega)
  have HPD : Hid (bd ≠ W.heap.size) := Lib.hid (by have := lt_of_cell E0; omega)
  obtain ⟨bp, hbp⟩ : ∃ bp, bp = W.heap.size := ⟨_, rfl⟩
  rw [← hbp] at p0 p1 HPN HPD ⊢
  have HB3w : Hid (Below B w W3) := Lib.hid ((HBW.out.trans (HB3.out.mono HBW.out.size)).mono HBw.out)
  have HB3x : Hid (Below w.heap.size w W3) := Lib.hid (HBW.out.trans (HB3.out.mono HBW.out.size))
  clear E0 E1 hbp e9W HSI HSE HN4
  go_wp2_with (go_at_call 222; refine (come_c X B g vb vo bp ⟨dk, sv, ws⟩ (some ⟨bw, ow, none⟩) c d p pc A4 c4 D _ HR3.out (HV.out.belowB HB3w.out HDB.out hvb) HDB.out hvb HD.out HW.out hp HO.out.desk HQO.out HPN.out p0 p1).mono ?_; rintro e w5 ⟨rfl, hr5, hb5⟩; have G0 := (World.cell?_of_block (a := ⟨bd, 0, none⟩) (hb5.block bd (lt_of_cell F0) HNE.out)).trans F0; have G1 := (World.cell?_of_block (a := ⟨bd, 1, none⟩) (hb5.block bd (lt_of_cell F0) HNE.out)).trans F1; have HR5 := Lib.hid hr5; have HT5 : Hid (But (RunE g (some ⟨bw, ow, none⟩) c) w w5) := Lib.hid (But.trans (E' := (· = g)) (But.of_below HB3x.out) hb5 fun _ _ e => .inl e); have e95 : w5.cell? ⟨g, 9, none⟩ = some (.slice (some ⟨bw, ow, none⟩) ws.length c) := hr5.wire; clear hr5 hb5)
  go_ret
  exact ⟨some ⟨bw, ow, none⟩, c, by rw [HX.out]; rfl, by rw [HX.out]; exact HR5.out, HT5.out, .inl rfl⟩
set_option maxHeartbeats 8000000 in
set_option maxRecDepth 100000 in
theorem wire_both (X : Dom) (B : Nat) (g vb vo : Nat) (dk sv : DeskP) (ws : List ParcelP) (A : Option Addr) (c : Nat) (d : Chk) (p : List ByteArray) (k b : Int) (an : Nat) (D : Dom) (w : World) (h : RunS X B w g vb vo ⟨dk, sv, ws⟩ A c) (hv : StrPtr D w vb vo d p) (hD : ∀ k, D k → k < B) (hvb : vb < B) (hd : Dim d) (hw : ∀ s ∈ p, okWord s = true) (hp : p.length ≤ 20)
    (ho : PlantOk d p ⟨dk, sv, ws⟩) (hk : k ≠ 1 ∧ k ≠ 5 ∧ k ≠ 6) (hlt : an < ws.length) (h4 : k ≠ 4 ∧ k ≠ 3) :
    Calls Tryz.prog 203 #[.pointer (some ⟨g, 0, none⟩), .agg #[.int .i64 k, .int .i64 an, .int .i64 b]] w (RetDo X B g vb vo A c d p ⟨dk, sv, ws⟩ ⟨k, an, b⟩ w) := by
  have H43 := Lib.hid h4
  clear h4
  have HR := Lib.hid h
  have HV := Lib.hid hv
  have HO := Lib.hid ho
  have HD := Lib.hid hd
  have HW := Lib.hid hw
  have HDB := Lib.hid hD
  have HLo := Lib.hid h.lo
  have HBw : Hid (B ≤ w.heap.size) := Lib.hid (Nat.le_trans h.lo (Nat.le_of_lt h.lt))
  have hl12 : ws.length ≤ 12 := ho.len
  have lg := h.lt
  have e9 : w.cell? ⟨g, 9, none⟩ = some (.slice A ws.length c) := h.wire
  have HK := Lib.hid hk
  clear h hv ho hd hw hD hk
  obtain ⟨W, hWe⟩ : ∃ W, W = w.alloc (.cells #[.int .i64 k, .int .i64 an, .int .i64 b] 150) := ⟨_, rfl⟩
  obtain ⟨bd, hbd⟩ : ∃ bd, bd = w.heap.size := ⟨_, rfl⟩
  have HBW : Hid (Below w.heap.size w W) := Lib.hid (hWe ▸ bel1 w _)
  have HRW : Hid (RunS X B W g vb vo ⟨dk, sv, ws⟩ A c) := Lib.hid (HR.out.below HBW.out)
  have E0 : W.cell? ⟨bd, 0, none⟩ = some (.int .i64 k) := by rw [hWe, hbd, cell_new]; rfl
  have E1 : W.cell? ⟨bd, 1, none⟩ = some (.int .i64 an) := by rw [hWe, hbd, cell_new]; rfl
  have HNE : Hid (bd ≠ g) := Lib.hid (by omega)
  have HWe := Lib.hid hWe
  have HBD := Lib.hid hbd
  clear hWe hbd
  have e9W : W.cell? ⟨g, 9, none⟩ = some (.slice A ws.length c) := HRW.out.wire
  obtain ⟨bw, ow, hAw, he⟩ : ∃ bw ow, A = some ⟨bw, ow, none⟩ ∧ elParcel (RunD X W g A c) W bw (ow + an * 2) ws[an] := by
    obtain ⟨bw, ow, ha, _, _, he, _⟩ := HRW.out.own.at_ (by have := HRW.out.own.le; simp only at this; omega)
    exact ⟨bw, ow, ha, he an _ (List.getElem?_eq_getElem hlt)⟩
  obtain ⟨q0, A4, c4, q1, _⟩ := he
  have HQO : Hid (ParcelOk p ws[an]) := Lib.hid (HO.out.wire _ (List.getElem_mem hlt))
  have HGD := Lib.hid (getD_at ws ⟨0, []⟩ hlt)
  generalize ws[an] = pc at *
  have hi0 : (0 : Int) ≤ an := by omega
  have hi1 : (an : Int) < ws.length := by omega
  obtain ⟨S, hSI, hSE⟩ : ∃ S : World → Prop, (∀ w', S w' → w'.cell? ⟨g, 9, none⟩ = some (.slice A ws.length c) ∧ w'.cell? ⟨bd, 0, none⟩ = some (.int .i64 k) ∧ w'.cell? ⟨bd, 1, none⟩ = some (.int .i64 an) ∧ w'.cell? ⟨bw, ow + an * 2, none⟩ = some (.int .i64 pc.first) ∧ w'.cell? ⟨bw, ow + an * 2 + 1, none⟩ = some (.slice A4 pc.texts.length c4)) ∧ ∀ w2, Below W.heap.size W w2 → S w2 := by
    refine ⟨fun w' => Below W.heap.size W w', fun w' h => ?_, fun w2 h => h⟩
    have h2 := (bcell h (Nat.le_refl _)).1
    exact ⟨(h2 _ _ HRW.out.lt).trans HRW.out.wire, (h2 _ _ (lt_of_cell E0)).trans E0, (h2 _ _ (lt_of_cell E1)).trans E1, (h2 _ _ (lt_of_cell q0)).trans q0, (h2 _ _ (lt_of_cell q1)).trans q1⟩
  have HSI := Lib.hid hSI
  have HSE := Lib.hid hSE
  clear hSI hSE
  subst hAw
  have HX : Hid (doC d p ⟨dk, sv, ws⟩ ⟨k, an, b⟩ = (⟨comeC d p dk pc, sv, ws.eraseIdx an⟩, 0)) := Lib.hid (by
    unfold doC
    rw [if_neg HK.out.1, if_neg HK.out.2.1, if_neg HK.out.2.2, if_neg (by simp only; omega)]
    simp only [if_neg H43.out.1, if_neg H43.out.2, Int.toNat_natCast, HGD.out])
  have k4 : (k != 4) = true := bne_iff_ne.2 H43.out.1
  have k3 : (k != 3) = true := bne_iff_ne.2 H43.out.2
  go_enter Tryz.func203, Tryz.ntmps203
  go_wp2_with fail
  rw [← HWe.out, ← HBD.out]
  go_quiet (fail)
  go_wp2_with fail
  refine wp_region_L [10] S (by kernel_rfl) (HSE.out _ (bel_drew (drewN_below _ _))) (fun hS => ?_)
  refine anyL_take0 (i := 0) (oi := ?o0) (v := ?v0) ?h0 (by kernel_rfl) (by kernel_rfl) (by kernel_rfl) (by kernel_rfl) (fun _ _ _ h => h) (Or.inl ⟨?w0, ?y0⟩) (Or.inr hS) ?_
  case h0 => simp only [List.getElem?_toArray, List.getElem?_cons_zero]; rfl
  case w0 => rfl
  case y0 => (intro w; go_simp; try with_reducible rfl)
  try simp only [Act.put, List.setIfInBounds_toArray, List.set_cons_zero, List.set_cons_succ]
  refine anyL_take0 (i := 1) (oi := ?o1) (v := ?v1) ?h1 (by kernel_rfl) (by kernel_rfl) (by kernel_rfl) (by kernel_rfl) (fun _ _ _ h => h) (Or.inl ⟨?w1, ?y1⟩) (Or.inr hS) ?_
  case h1 => simp only [List.getElem?_toArray, List.getElem?_cons_succ, List.getElem?_cons_zero]; rfl
  case w1 => rfl
  case y1 => (intro w; go_simp; try with_reducible rfl)
  try simp only [Act.put, List.setIfInBounds_toArray, List.set_cons_zero, List.set_cons_succ]
  refine anyL_take0 (i := 2) (oi := ?o2) (v := ?v2) ?h2 (by kernel_rfl) (by kernel_rfl) (by kernel_rfl) (by kernel_rfl) (fun _ _ _ h => h) (Or.inl ⟨?w2, ?y2⟩) (Or.inr hS) ?_
  case h2 => simp only [List.getElem?_toArray, List.getElem?_cons_succ, List.getElem?_cons_zero]; rfl
  case w2 => rfl
  case y2 => (intro w; go_simp; try with_reducible rfl)
  try simp only [Act.put, List.setIfInBounds_toArray, List.set_cons_zero, List.set_cons_succ]
  refine anyL_take0 (i := 3) (oi := ?o3) (v := ?v3) ?h3 (by kernel_rfl) (by kernel_rfl) (by kernel_rfl) (by kernel_rfl) (fun _ _ _ h => h) (Or.inl ⟨?w3, ?y3⟩) (Or.inr hS) ?_
  case h3 => simp only [List.getElem?_toArray, List.getElem?_cons_succ, List.getElem?_cons_zero]; rfl
  case w3 => rfl
  case y3 => (intro w; go_simp; try with_reducible rfl)
  try simp only [Act.put, List.setIfInBounds_toArray, List.set_cons_zero, List.set_cons_succ]
  refine anyL_take (i := 4) (oi := ?o4) (v := ?v4) ?h4 (by kernel_rfl) (by kernel_rfl) (by kernel_rfl) (by kernel_rfl) (by kernel_rfl) (fun _ _ _ h => h) (Or.inl ⟨?w4, ?y4⟩) hS ?_
  case h4 => simp only [List.getElem?_toArray, List.getElem?_cons_succ, List.getElem?_cons_zero]; rfl
  case w4 => rfl
  case y4 => (intro w hSw; replace hSw := HSI.out _ hSw; go_simp; try with_reducible rfl)
  try simp only [Act.put, List.setIfInBounds_toArray, List.set_cons_zero, List.set_cons_succ]
  refine anyL_take0 (i := 5) (oi := ?o5) (v := ?v5) ?h5 (by kernel_rfl) (by kernel_rfl) (by kernel_rfl) (by kernel_rfl) (fun _ _ _ h => h) (Or.inl ⟨?w5, ?y5⟩) (Or.inr hS) ?_
  case h5 => simp only [List.getElem?_toArray, List.getElem?_cons_succ, List.getElem?_cons_zero]; rfl
  case w5 => rfl
  case y5 => (intro w; go_simp; try with_reducible rfl)
  try simp only [Act.put, List.setIfInBounds_toArray, List.set_cons_zero, List.set_cons_succ]
  refine anyL_take (i := 6) (oi := ?o6) (v := ?v6) ?h6 (by kernel_rfl) (by kernel_rfl) (by kernel_rfl) (by kernel_rfl) (by kernel_rfl) (fun _ _ _ h => h) (Or.inl ⟨?w6, ?y6⟩) hS ?_
  case h6 => simp only [List.getElem?_toArray, List.getElem?_cons_succ, List.getElem?_cons_zero]; rfl
  case w6 => rfl
  case y6 => (intro w hSw; replace hSw := HSI.out _ hSw; go_simp; try with_reducible rfl)
  try simp only [Act.put, List.setIfInBounds_toArray, List.set_cons_zero, List.set_cons_succ]
  refine anyL_take0 (i := 7) (oi := ?o7) (v := ?v7) ?h7 (by kernel_rfl) (by kernel_rfl) (by kernel_rfl) (by kernel_rfl) (fun _ _ _ h => h) (Or.inl ⟨?w7, ?y7⟩) (Or.inr hS) ?_
  case h7 => simp only [List.getElem?_toArray, List.getElem?_cons_succ, List.getElem?_cons_zero]; rfl
  case w7 => rfl
  case y7 => (intro w; go_simp; try with_reducible rfl)
  try simp only [Act.put, List.setIfInBounds_toArray, List.set_cons_zero, List.set_cons_succ]
  refine anyL_take (i := 8) (oi := ?o8) (v := ?v8) ?h8 (by kernel_rfl) (by kernel_rfl) (by kernel_rfl) (by kernel_rfl) (by kernel_rfl) (fun _ _ _ h => h) (Or.inl ⟨?w8, ?y8⟩) hS ?_
  case h8 => simp only [List.getElem?_toArray, List.getElem?_cons_succ, List.getElem?_cons_zero]; rfl
  case w8 => rfl
  case y8 => (intro w hSw; replace hSw := HSI.out _ hSw; go_simp; try with_reducible rfl)
  try simp only [Act.put, List.setIfInBounds_toArray, List.set_cons_zero, List.set_cons_succ]
  refine anyL_one (i := 9) (o := ?o9) (by kernel_rfl) ?h9 ?w9 (fun K hK => ?_)
  case h9 => simp only [List.getElem?_toArray, List.getElem?_cons_succ, List.getElem?_cons_zero]; rfl
  case w9 => rfl
  go_simp
  refine hK _ _ (fun _ => HSE.out _ (drewA_below _ _ _)) ?_
  generalize hW2 : (W.drewN (nq + 1)).alloc (.cells #[.int .i64 0, .slice none 0 0] 170) = W2
  have n0 : W2.cell? ⟨W.heap.size, 0, none⟩ = some (.int .i64 0) := by rw [← hW2]; exact cell_new (W.drewN (nq + 1)) _ _ 0
  have n1 : W2.cell? ⟨W.heap.size, 1, none⟩ = some (.slice none 0 0) := by rw [← hW2]; exact cell_new (W.drewN (nq + 1)) _ _ 1
  have n2 : W2.frozen? ⟨W.heap.size, 0, none⟩ = false := by rw [← hW2]; exact World.frozen?_alloc_new (W.drewN (nq + 1)) _ _ _
  have n3 : W2.frozen? ⟨W.heap.size, 1, none⟩ = false := by rw [← hW2]; exact World.frozen?_alloc_new (W.drewN (nq + 1)) _ _ _
  have HN4 : Hid (Below W.heap.size W W2) := Lib.hid (by rw [← hW2]; exact drewA_below _ _ _)
  clear hW2 hS
  clear hK K
  try simp only [Act.put, List.setIfInBounds_toArray, List.set_cons_zero, List.set_cons_succ]
  refine anyL_late (i := 10) (o := ?o10) (by kernel_rfl) ?h10 ?w10 (by kernel_rfl) (fun K hK => ?_)
  case h10 => simp only [List.getElem?_toArray, List.getElem?_cons_succ, List.getElem?_cons_zero]; rfl
  case w10 => rfl
  go_simp
  refine hK _ _ ?_
  clear hK K
  try simp only [Act.put, List.setIfInBounds_toArray, List.set_cons_zero, List.set_cons_succ]
  refine anyL_end (by kernel_rfl) ?_ _
  have HR3 : Hid (RunS X B ((W2.setCell ⟨W.heap.size, 0, none⟩ (.int .i64 pc.first)).setCell ⟨W.heap.size, 1, none⟩ (.slice A4 pc.texts.length c4)) g vb vo ⟨dk, sv, ws⟩ (some ⟨bw, ow, none⟩) c) := Lib.hid (HRW.out.below ((HN4.out.setCell (Nat.le_refl _) _).setCell (Nat.le_refl _) _))
  have HB3 : Hid (Below W.heap.size W ((W2.setCell ⟨W.heap.size, 0, none⟩ (.int .i64 pc.first)).setCell ⟨W.heap.size, 1, none⟩ (.slice A4 pc.texts.length c4))) := Lib.hid ((HN4.out.setCell (Nat.le_refl _) _).setCell (Nat.le_refl _) _)
  have p0 : ((W2.setCell ⟨W.heap.size, 0, none⟩ (.int .i64 pc.first)).setCell ⟨W.heap.size, 1, none⟩ (.slice A4 pc.texts.length c4)).cell? ⟨W.heap.size, 0, none⟩ = some (.int .i64 pc.first) := by rw [cell_set_ne (by omega)]; exact cell_set n0
  have p1 : ((W2.setCell ⟨W.heap.size, 0, none⟩ (.int .i64 pc.first)).setCell ⟨W.heap.size, 1, none⟩ (.slice A4 pc.texts.length c4)).cell? ⟨W.heap.size, 1, none⟩ = some (.slice A4 pc.texts.length c4) := cell_set (old := .slice none 0 0) (by rw [cell_set_ne (by omega)]; exact n1)
  clear n0 n1 n2 n3 hi0 hi1 q0 q1
  generalize ((W2.setCell ⟨W.heap.size, 0, none⟩ (.int .i64 pc.first)).setCell ⟨W.heap.size, 1, none⟩ (.slice A4 pc.texts.length c4)) = W3 at *
  have F0 := ((bcell HB3.out (Nat.le_refl _)).1 _ _ (lt_of_cell E0)).trans E0
  have F1 := ((bcell HB3.out (Nat.le_refl _)).1 _ _ (lt_of_cell E1)).trans E1
  have HPN : Hid (W.heap.size ≠ g) := Lib.hid (by have := HRW.out.lt; omega)
  have HPD : Hid (bd ≠ W.heap.size) := Lib.hid (by have := lt_of_cell E0; omega)
  obtain ⟨bp, hbp⟩ : ∃ bp, bp = W.heap.size := ⟨_, rfl⟩
  rw [← hbp] at p0 p1 HPN HPD ⊢
  have HB3w : Hid (Below B w W3) := Lib.hid ((HBW.out.trans (HB3.out.mono HBW.out.size)).mono HBw.out)
  have HB3x : Hid (Below w.heap.size w W3) := Lib.hid (HBW.out.trans (HB3.out.mono HBW.out.size))
  clear E0 E1 hbp e9W HSI HSE HN4
  go_wp2_with (go_at_call 222; refine (come_c X B g vb vo bp ⟨dk, sv, ws⟩ (some ⟨bw, ow, none⟩) c d p pc A4 c4 D _ HR3.out (HV.out.belowB HB3w.out HDB.out hvb) HDB.out hvb HD.out HW.out hp HO.out.desk HQO.out HPN.out p0 p1).mono ?_; rintro e w5 ⟨rfl, hr5, hb5⟩; have G0 := (World.cell?_of_block (a := ⟨bd, 0, none⟩) (hb5.block bd (lt_of_cell F0) HNE.out)).trans F0; have G1 := (World.cell?_of_block (a := ⟨bd, 1, none⟩) (hb5.block bd (lt_of_cell F0) HNE.out)).trans F1; have HR5 := Lib.hid hr5; have HT5 : Hid (But (RunE g (some ⟨bw, ow, none⟩) c) w w5) := Lib.hid (But.trans (E' := (· = g)) (But.of_below HB3x.out) hb5 fun _ _ e => .inl e); have e95 : w5.cell? ⟨g, 9, none⟩ = some (.slice (some ⟨bw, ow, none⟩) ws.length c) := hr5.wire; clear hr5 hb5)
  generalize hdk : comeC d p dk pc = dk2 at HR5 HX
  clear hdk

  have hwc : ws.length ≤ c := HR5.out.own.le
  have hws : IntKind.i64.wrap ((an : Int) + 1) = (an : Int) + 1 := by rw [IntKind.wrap_i64]; omega
  obtain ⟨hd, hhd⟩ : ∃ hd, hd = ws.take an := ⟨_, rfl⟩
  obtain ⟨tl, htl⟩ : ∃ tl, tl = ws.drop (an + 1) := ⟨_, rfl⟩
  have HTK : Hid (hd.length = an) := Lib.hid (by rw [hhd]; simp; omega)
  have HDP : Hid (tl.length = ws.length - (an + 1)) := Lib.hid (by rw [htl]; simp)
  have HER : Hid (hd ++ tl = ws.eraseIdx an) := Lib.hid (by rw [hhd, htl, List.eraseIdx_eq_take_drop_succ])
  have hd12 : hd.length ≤ 12 := by rw [HTK.out]; omega
  have tl12 : tl.length ≤ 12 := by rw [HDP.out]; omega
  obtain ⟨AF, hAF⟩ : ∃ AF, AF = from_ (some ⟨bw, ow, none⟩) c (an + 1) 2 := ⟨_, rfl⟩
  have HL7 : Hid (∀ w', Below w5.heap.size w5 w' → Lies 2 elParcel (RunD X w5 g (some ⟨bw, ow, none⟩) c) w' AF tl) := Lib.hid fun w' hb => by
    rw [hAF, htl]
    exact (HR5.out.own.lies.drop (by simp only; omega) hwc).below elParcel_good hb fun k hk => hk.1
  have HL8 : Hid (∀ w', Below w5.heap.size w5 w' → Lies 2 elParcel (RunD X w5 g (some ⟨bw, ow, none⟩) c) w' (some ⟨bw, ow, none⟩) hd) := Lib.hid fun w' hb => by
    rw [hhd]
    exact (HR5.out.own.lies.take an).below elParcel_good hb fun k hk => hk.1
  have hq1 : ∀ w, (Instr.slice 81 (.slice (some ⟨bw, ow, none⟩) ws.length c) (some (.int .i64 ((an : Int) + 1))) none none).run Tryz.prog w = .ok (.slice AF tl.length (c - (an + 1))) w := by
    intro w
    rw [hAF, HDP.out]
    exact run_from w _ _ _ _ _ _ _ _ (by omega) Tryz.underlying81 (by kernel_rfl) (by omega)
  have hq2 : ∀ w, (Instr.slice 81 (.slice (some ⟨bw, ow, none⟩) ws.length c) none (some (.int .i64 (an : Int))) none).run Tryz.prog w = .ok (.slice (some ⟨bw, ow, none⟩) an c) w := by
    intro w
    exact run_upto w _ _ _ _ _ _ _ 2 Tryz.underlying81 (by kernel_rfl) (by omega) hwc
  clear hAF hhd htl
  obtain ⟨S, hSI, hSE⟩ : ∃ S : World → Prop, (∀ w', S w' → w'.cell? ⟨g, 9, none⟩ = some (.slice (some ⟨bw, ow, none⟩) ws.length c) ∧ w'.cell? ⟨bd, 1, none⟩ = some (.int .i64 an)) ∧ ∀ w2, Below w5.heap.size w5 w2 → S w2 := by
    refine ⟨fun w' => Below w5.heap.size w5 w', fun w' h => ?_, fun w2 h => h⟩
    have h2 := (bcell h (Nat.le_refl _)).1
    exact ⟨(h2 _ _ HR5.out.lt).trans HR5.out.wire, (h2 _ _ (lt_of_cell G1)).trans G1⟩
  have HSI := Lib.hid hSI
  have HSE := Lib.hid hSE
  clear hSI hSE
  refine wp_region_L [] S (by kernel_rfl) (HSE.out _ (bel_drew (Below.refl _ _))) (fun hS => ?_)
  refine anyL_take0 (i := 1) (oi := ?og1) (v := ?vg1) ?hg1 (by kernel_rfl) (by kernel_rfl) (by kernel_rfl) (by kernel_rfl) (fun _ _ _ h => h) (Or.inl ⟨?wg1, ?yg1⟩) (Or.inr hS) ?_
  case hg1 => simp only [List.getElem?_toArray, List.getElem?_cons_succ, List.getElem?_cons_zero]; rfl
  case wg1 => rfl
  case yg1 => (intro w; go_simp; try with_reducible rfl)
  try simp only [Act.put, List.setIfInBounds_toArray, List.set_cons_zero, List.set_cons_succ]
  refine anyL_take0 (i := 2) (oi := ?og2) (v := ?vg2) ?hg2 (by kernel_rfl) (by kernel_rfl) (by kernel_rfl) (by kernel_rfl) (fun _ _ _ h => h) (Or.inl ⟨?wg2, ?yg2⟩) (Or.inr hS) ?_
  case hg2 => simp only [List.getElem?_toArray, List.getElem?_cons_succ, List.getElem?_cons_zero]; rfl
  case wg2 => rfl
  case yg2 => (intro w; go_simp; try with_reducible rfl)
  try simp only [Act.put, List.setIfInBounds_toArray, List.set_cons_zero, List.set_cons_succ]
  refine anyL_take0 (i := 3) (oi := ?og3) (v := ?vg3) ?hg3 (by kernel_rfl) (by kernel_rfl) (by kernel_rfl) (by kernel_rfl) (fun _ _ _ h => h) (Or.inl ⟨?wg3, ?yg3⟩) (Or.inr hS) ?_
  case hg3 => simp only [List.getElem?_toArray, List.getElem?_cons_succ, List.getElem?_cons_zero]; rfl
  case wg3 => rfl
  case yg3 => (intro w; go_simp; try with_reducible rfl)
  try simp only [Act.put, List.setIfInBounds_toArray, List.set_cons_zero, List.set_cons_succ]
  refine anyL_take0 (i := 4) (oi := ?og4) (v := ?vg4) ?hg4 (by kernel_rfl) (by kernel_rfl) (by kernel_rfl) (by kernel_rfl) (fun _ _ _ h => h) (Or.inl ⟨?wg4, ?yg4⟩) (Or.inr hS) ?_
  case hg4 => simp only [List.getElem?_toArray, List.getElem?_cons_succ, List.getElem?_cons_zero]; rfl
  case wg4 => rfl
  case yg4 => (intro w; go_simp; try with_reducible rfl)
  try simp only [Act.put, List.setIfInBounds_toArray, List.set_cons_zero, List.set_cons_succ]
  refine anyL_take (i := 5) (oi := ?og5) (v := ?vg5) ?hg5 (by kernel_rfl) (by kernel_rfl) (by kernel_rfl) (by kernel_rfl) (by kernel_rfl) (fun _ _ _ h => h) (Or.inl ⟨?wg5, ?yg5⟩) hS ?_
  case hg5 => simp only [List.getElem?_toArray, List.getElem?_cons_succ, List.getElem?_cons_zero]; rfl
  case wg5 => rfl
  case yg5 => (intro w hSw; replace hSw := HSI.out _ hSw; go_simp; try with_reducible rfl)
  try simp only [Act.put, List.setIfInBounds_toArray, List.set_cons_zero, List.set_cons_succ]
  refine anyL_take0 (i := 6) (oi := ?og6) (v := ?vg6) ?hg6 (by kernel_rfl) (by kernel_rfl) (by kernel_rfl) (by kernel_rfl) (fun _ _ _ h => h) (Or.inl ⟨?wg6, ?yg6⟩) (Or.inr hS) ?_
  case hg6 => simp only [List.getElem?_toArray, List.getElem?_cons_succ, List.getElem?_cons_zero]; rfl
  case wg6 => rfl
  case yg6 => (intro w; go_simp; try with_reducible rfl)
  try simp only [Act.put, List.setIfInBounds_toArray, List.set_cons_zero, List.set_cons_succ]
  refine anyL_take (i := 7) (oi := ?og7) (v := ?vg7) ?hg7 (by kernel_rfl) (by kernel_rfl) (by kernel_rfl) (by kernel_rfl) (by kernel_rfl) (fun _ _ _ h => h) (Or.inl ⟨?wg7, ?yg7⟩) hS ?_
  case hg7 => simp only [List.getElem?_toArray, List.getElem?_cons_succ, List.getElem?_cons_zero]; rfl
  case wg7 => rfl
  case yg7 => (intro w hSw; replace hSw := HSI.out _ hSw; go_simp; try with_reducible rfl)
  try simp only [Act.put, List.setIfInBounds_toArray, List.set_cons_zero, List.set_cons_succ]
  refine anyL_take0 (i := 8) (oi := ?og8) (v := ?vg8) ?hg8 (by kernel_rfl) (by kernel_rfl) (by kernel_rfl) (by kernel_rfl) (fun _ _ _ h => h) (Or.inl ⟨?wg8, ?yg8⟩) (Or.inr hS) ?_
  case hg8 => simp only [List.getElem?_toArray, List.getElem?_cons_succ, List.getElem?_cons_zero]; rfl
  case wg8 => rfl
  case yg8 => (intro w; go_simp; try with_reducible rfl)
  try simp only [Act.put, List.setIfInBounds_toArray, List.set_cons_zero, List.set_cons_succ]
  refine anyL_take0 (i := 9) (oi := ?og9) (v := ?vg9) ?hg9 (by kernel_rfl) (by kernel_rfl) (by kernel_rfl) (by kernel_rfl) (fun _ _ _ h => h) (Or.inl ⟨?wg9, ?yg9⟩) (Or.inr hS) ?_
  case hg9 => simp only [List.getElem?_toArray, List.getElem?_cons_succ, List.getElem?_cons_zero]; rfl
  case wg9 => rfl
  case yg9 => (intro w; go_simp; try with_reducible rfl)
  try simp only [Act.put, List.setIfInBounds_toArray, List.set_cons_zero, List.set_cons_succ]
  refine anyL_one (i := 0) (o := ?og0) (by kernel_rfl) ?hg0 ?wg0 (fun K hK => ?_)
  case hg0 => simp only [List.getElem?_toArray, List.getElem?_cons_zero]; rfl
  case wg0 => rfl
  go_simp
  refine hK _ _ (fun _ => HSE.out _ (bel_drew (bel1 _ _))) ?_
  replace hS := HSE.out _ (bel_drew (bel1 w5 (.cells #[] 170)))
  clear hK K
  try simp only [Act.put, List.setIfInBounds_toArray, List.set_cons_zero, List.set_cons_succ]
  refine anyL_one (i := 10) (o := ?og10) (by kernel_rfl) ?hg10 ?wg10 (fun K hK => ?_)
  case hg10 => simp only [List.getElem?_toArray, List.getElem?_cons_succ, List.getElem?_cons_zero]; rfl
  case wg10 => rfl
  refine wp_own _ K elParcel_good elParcel_one (.tmp 33) (.tmp 42) 81 170 rfl Tryz.underlying81 info_toParcel rfl (D := RunD X w5 g (some ⟨bw, ow, none⟩) c) (A := some ⟨w5.heap.size, 0, none⟩) (c := 0) (xs := []) rfl OwnSl.nil rfl (HL7.out _ (bel_drew (bel1 _ _))) (by simp only [List.length_nil, maxLen]; omega) (by simp only [List.length_nil]; omega) (fun k hk => Nat.lt_of_lt_of_le hk.1 (bel1 w5 _).size) ?_
  intro A7 c7 w7 ho7 hg7 _
  rw [List.nil_append] at ho7 ⊢
  have HB7 : Hid (Below w5.heap.size w5 w7) := Lib.hid ((bel_drew (bel1 _ _)).grown hg7 (bel1 w5 _).size (fun k hk => by rw [ownB_zero] at hk; cases hk))
  have HO7 := Lib.hid ho7
  clear ho7 hg7
  refine hK _ _ (fun _ => HSE.out _ HB7.out) ?_
  replace hS := HSE.out _ HB7.out
  clear hK K
  try simp only [Act.put, List.setIfInBounds_toArray, List.set_cons_zero, List.set_cons_succ]
  refine anyL_take0 (i := 11) (oi := ?og11) (v := ?vg11) ?hg11 (by kernel_rfl) (by kernel_rfl) (by kernel_rfl) (by kernel_rfl) (fun _ _ _ h => h) (Or.inl ⟨?wg11, ?yg11⟩) (Or.inr hS) ?_
  case hg11 => simp only [List.getElem?_toArray, List.getElem?_cons_succ, List.getElem?_cons_zero]; rfl
  case wg11 => rfl
  case yg11 => (intro w; go_simp; try with_reducible rfl)
  try simp only [Act.put, List.setIfInBounds_toArray, List.set_cons_zero, List.set_cons_succ]
  refine anyL_end (by kernel_rfl) ?_ _
  go_wp2_with fail
  refine wp_region_L [16] S (by kernel_rfl) (HSE.out _ (bel_drew HB7.out)) (fun hS => ?_)
  refine anyL_take0 (i := 0) (oi := ?oe0) (v := ?ve0) ?he0 (by kernel_rfl) (by kernel_rfl) (by kernel_rfl) (by kernel_rfl) (fun _ _ _ h => h) (Or.inl ⟨?we0, ?ye0⟩) (Or.inr hS) ?_
  case he0 => simp only [List.getElem?_toArray, List.getElem?_cons_zero]; rfl
  case we0 => rfl
  case ye0 => (intro w; go_simp; try with_reducible rfl)
  try simp only [Act.put, List.setIfInBounds_toArray, List.set_cons_zero, List.set_cons_succ]
  refine anyL_take0 (i := 2) (oi := ?oe2) (v := ?ve2) ?he2 (by kernel_rfl) (by kernel_rfl) (by kernel_rfl) (by kernel_rfl) (fun _ _ _ h => h) (Or.inl ⟨?we2, ?ye2⟩) (Or.inr hS) ?_
  case he2 => simp only [List.getElem?_toArray, List.getElem?_cons_succ, List.getElem?_cons_zero]; rfl
  case we2 => rfl
  case ye2 => (intro w; go_simp; try with_reducible rfl)
  try simp only [Act.put, List.setIfInBounds_toArray, List.set_cons_zero, List.set_cons_succ]
  refine anyL_take0 (i := 3) (oi := ?oe3) (v := ?ve3) ?he3 (by kernel_rfl) (by kernel_rfl) (by kernel_rfl) (by kernel_rfl) (fun _ _ _ h => h) (Or.inl ⟨?we3, ?ye3⟩) (Or.inr hS) ?_
  case he3 => simp only [List.getElem?_toArray, List.getElem?_cons_succ, List.getElem?_cons_zero]; rfl
  case we3 => rfl
  case ye3 => (intro w; go_simp; try with_reducible rfl)
  try simp only [Act.put, List.setIfInBounds_toArray, List.set_cons_zero, List.set_cons_succ]
  refine anyL_take0 (i := 4) (oi := ?oe4) (v := ?ve4) ?he4 (by kernel_rfl) (by kernel_rfl) (by kernel_rfl) (by kernel_rfl) (fun _ _ _ h => h) (Or.inl ⟨?we4, ?ye4⟩) (Or.inr hS) ?_
  case he4 => simp only [List.getElem?_toArray, List.getElem?_cons_succ, List.getElem?_cons_zero]; rfl
  case we4 => rfl
  case ye4 => (intro w; go_simp; try with_reducible rfl)
  try simp only [Act.put, List.setIfInBounds_toArray, List.set_cons_zero, List.set_cons_succ]
  refine anyL_take0 (i := 5) (oi := ?oe5) (v := ?ve5) ?he5 (by kernel_rfl) (by kernel_rfl) (by kernel_rfl) (by kernel_rfl) (fun _ _ _ h => h) (Or.inl ⟨?we5, ?ye5⟩) (Or.inr hS) ?_
  case he5 => simp only [List.getElem?_toArray, List.getElem?_cons_succ, List.getElem?_cons_zero]; rfl
  case we5 => rfl
  case ye5 => (intro w; go_simp; try with_reducible rfl)
  try simp only [Act.put, List.setIfInBounds_toArray, List.set_cons_zero, List.set_cons_succ]
  refine anyL_take (i := 6) (oi := ?oe6) (v := ?ve6) ?he6 (by kernel_rfl) (by kernel_rfl) (by kernel_rfl) (by kernel_rfl) (by kernel_rfl) (fun _ _ _ h => h) (Or.inl ⟨?we6, ?ye6⟩) hS ?_
  case he6 => simp only [List.getElem?_toArray, List.getElem?_cons_succ, List.getElem?_cons_zero]; rfl
  case we6 => rfl
  case ye6 => (intro w hSw; replace hSw := HSI.out _ hSw; go_simp; try with_reducible rfl)
  try simp only [Act.put, List.setIfInBounds_toArray, List.set_cons_zero, List.set_cons_succ]
  refine anyL_take0 (i := 7) (oi := ?oe7) (v := ?ve7) ?he7 (by kernel_rfl) (by kernel_rfl) (by kernel_rfl) (by kernel_rfl) (fun _ _ _ h => h) (Or.inl ⟨?we7, ?ye7⟩) (Or.inr hS) ?_
  case he7 => simp only [List.getElem?_toArray, List.getElem?_cons_succ, List.getElem?_cons_zero]; rfl
  case we7 => rfl
  case ye7 => (intro w; go_simp; try with_reducible rfl)
  try simp only [Act.put, List.setIfInBounds_toArray, List.set_cons_zero, List.set_cons_succ]
  refine anyL_take (i := 8) (oi := ?oe8) (v := ?ve8) ?he8 (by kernel_rfl) (by kernel_rfl) (by kernel_rfl) (by kernel_rfl) (by kernel_rfl) (fun _ _ _ h => h) (Or.inl ⟨?we8, ?ye8⟩) hS ?_
  case he8 => simp only [List.getElem?_toArray, List.getElem?_cons_succ, List.getElem?_cons_zero]; rfl
  case we8 => rfl
  case ye8 => (intro w hSw; replace hSw := HSI.out _ hSw; go_simp; try with_reducible rfl)
  try simp only [Act.put, List.setIfInBounds_toArray, List.set_cons_zero, List.set_cons_succ]
  refine anyL_take0 (i := 9) (oi := ?oe9) (v := ?ve9) ?he9 (by kernel_rfl) (by kernel_rfl) (by kernel_rfl) (by kernel_rfl) (fun _ _ _ h => h) (Or.inl ⟨?we9, ?ye9⟩) (Or.inr hS) ?_
  case he9 => simp only [List.getElem?_toArray, List.getElem?_cons_succ, List.getElem?_cons_zero]; rfl
  case we9 => rfl
  case ye9 => (intro w; go_simp; try with_reducible rfl)
  try simp only [Act.put, List.setIfInBounds_toArray, List.set_cons_zero, List.set_cons_succ]
  refine anyL_take0 (i := 11) (oi := ?oe11) (v := ?ve11) ?he11 (by kernel_rfl) (by kernel_rfl) (by kernel_rfl) (by kernel_rfl) (fun _ _ _ h => h) (Or.inl ⟨?we11, ?ye11⟩) (Or.inr hS) ?_
  case he11 => simp only [List.getElem?_toArray, List.getElem?_cons_succ, List.getElem?_cons_zero]; rfl
  case we11 => rfl
  case ye11 => (intro w; go_simp; try with_reducible rfl)
  try simp only [Act.put, List.setIfInBounds_toArray, List.set_cons_zero, List.set_cons_succ]
  refine anyL_one (i := 1) (o := ?oe1) (by kernel_rfl) ?he1 ?we1 (fun K hK => ?_)
  case he1 => simp only [List.getElem?_toArray, List.getElem?_cons_succ, List.getElem?_cons_zero]; rfl
  case we1 => rfl
  go_simp
  refine hK _ _ (fun _ => HSE.out _ (bel_drew (HB7.out.trans ((bel1 _ _).mono HB7.out.size)))) ?_
  replace hS := HSE.out _ (bel_drew (HB7.out.trans ((bel1 w7 (.cells #[] 170)).mono HB7.out.size)))
  clear hK K
  try simp only [Act.put, List.setIfInBounds_toArray, List.set_cons_zero, List.set_cons_succ]
  refine anyL_one (i := 10) (o := ?oe10) (by kernel_rfl) ?he10 ?we10 (fun K hK => ?_)
  case he10 => simp only [List.getElem?_toArray, List.getElem?_cons_succ, List.getElem?_cons_zero]; rfl
  case we10 => rfl
  refine wp_own _ K elParcel_good elParcel_one (.tmp 45) (.tmp 53) 81 170 rfl Tryz.underlying81 info_toParcel rfl (D := RunD X w5 g (some ⟨bw, ow, none⟩) c) (A := some ⟨w7.heap.size, 0, none⟩) (c := 0) (xs := []) rfl OwnSl.nil (by rw [HTK.out]; rfl) (HL8.out _ (bel_drew (HB7.out.trans ((bel1 _ _).mono HB7.out.size)))) (by simp only [List.length_nil, maxLen]; omega) (by simp only [List.length_nil]; omega) (fun k hk => Nat.lt_of_lt_of_le (Nat.lt_of_lt_of_le hk.1 HB7.out.size) (bel1 w7 _).size) ?_
  intro A8 c8 w8 ho8 hg8 hor8
  rw [List.nil_append] at ho8 ⊢
  have HB8 : Hid (Below w5.heap.size w5 w8) := Lib.hid ((bel_drew (HB7.out.trans ((bel1 _ _).mono HB7.out.size))).grown hg8 (Nat.le_trans HB7.out.size (bel1 w7 _).size) (fun k hk => by rw [ownB_zero] at hk; cases hk))
  have HB78 : Hid (Below w7.heap.size w7 w8) := Lib.hid ((bel_drew (bel1 _ _)).grown hg8 (bel1 w7 _).size (fun k hk => by rw [ownB_zero] at hk; cases hk))
  have HN8 : Hid (∀ b, ownB A8 c8 = some b → w5.heap.size ≤ b) := Lib.hid fun b hb => by
    rcases hor8 with h0 | h0
    · rw [h0, ownB_zero] at hb; cases hb
    · rw [h0] at hb; injection hb with hb; subst hb; exact Nat.le_trans HB7.out.size (bel1 w7 _).size
  have HO8 := Lib.hid ho8
  clear ho8 hg8 hor8
  refine hK _ _ (fun _ => HSE.out _ HB8.out) ?_
  replace hS := HSE.out _ HB8.out
  clear hK K
  try simp only [Act.put, List.setIfInBounds_toArray, List.set_cons_zero, List.set_cons_succ]
  refine anyL_one (i := 12) (o := ?oe12) (by kernel_rfl) ?he12 ?we12 (fun K hK => ?_)
  case he12 => simp only [List.getElem?_toArray, List.getElem?_cons_succ, List.getElem?_cons_zero]; rfl
  case we12 => rfl
  refine wp_own _ K elParcel_good elParcel_one (.tmp 54) (.tmp 55) 81 170 rfl Tryz.underlying81 info_toParcel rfl (D := RunD X w5 g (some ⟨bw, ow, none⟩) c) (A := A8) (c := c8) (xs := hd) rfl HO8.out rfl (HO7.out.lies.below elParcel_good HB78.out fun k hk => Nat.lt_of_lt_of_le hk.1 HB7.out.size) (by simp only [maxLen]; omega) (by omega) (fun k hk => Nat.lt_of_lt_of_le hk.1 HB8.out.size) ?_
  intro A9 c9 w9 ho9 hg9 hor9
  have HB9 : Hid (Below w5.heap.size w5 w9) := Lib.hid (HB8.out.grown hg9 HB8.out.size (fun k hk => HN8.out k hk))
  have HN9 : Hid (∀ b, ownB A9 c9 = some b → w5.heap.size ≤ b) := Lib.hid fun b hb => by
    rcases hor9 with h0 | h0
    · rw [h0] at hb; exact HN8.out b hb
    · rw [h0] at hb; injection hb with hb; subst hb; exact HB8.out.size
  have HO9 := Lib.hid ho9
  clear ho9 hg9 hor9
  refine hK _ _ (fun _ => HSE.out _ HB9.out) ?_
  replace hS := HSE.out _ HB9.out
  have z9 : w9.frozen? ⟨g, 9, none⟩ = false := (HR5.out.below HB9.out).free 9
  have y9 := (HSI.out _ hS).1
  clear hK K
  try simp only [Act.put, List.setIfInBounds_toArray, List.set_cons_zero, List.set_cons_succ]
  refine anyL_take0 (i := 13) (oi := ?oe13) (v := ?ve13) ?he13 (by kernel_rfl) (by kernel_rfl) (by kernel_rfl) (by kernel_rfl) (fun _ _ _ h => h) (Or.inl ⟨?we13, ?ye13⟩) (Or.inr hS) ?_
  case he13 => simp only [List.getElem?_toArray, List.getElem?_cons_succ, List.getElem?_cons_zero]; rfl
  case we13 => rfl
  case ye13 => (intro w; go_simp; try with_reducible rfl)
  try simp only [Act.put, List.setIfInBounds_toArray, List.set_cons_zero, List.set_cons_succ]
  refine anyL_take0 (i := 14) (oi := ?oe14) (v := ?ve14) ?he14 (by kernel_rfl) (by kernel_rfl) (by kernel_rfl) (by kernel_rfl) (fun _ _ _ h => h) (Or.inl ⟨?we14, ?ye14⟩) (Or.inr hS) ?_
  case he14 => simp only [List.getElem?_toArray, List.getElem?_cons_succ, List.getElem?_cons_zero]; rfl
  case we14 => rfl
  case ye14 => (intro w; go_simp; try with_reducible rfl)
  try simp only [Act.put, List.setIfInBounds_toArray, List.set_cons_zero, List.set_cons_succ]
  refine anyL_take0 (i := 15) (oi := ?oe15) (v := ?ve15) ?he15 (by kernel_rfl) (by kernel_rfl) (by kernel_rfl) (by kernel_rfl) (fun _ _ _ h => h) (Or.inl ⟨?we15, ?ye15⟩) (Or.inr hS) ?_
  case he15 => simp only [List.getElem?_toArray, List.getElem?_cons_succ, List.getElem?_cons_zero]; rfl
  case we15 => rfl
  case ye15 => (intro w; go_simp; try with_reducible rfl)
  try simp only [Act.put, List.setIfInBounds_toArray, List.set_cons_zero, List.set_cons_succ]
  refine anyL_late (i := 16) (o := ?oe16) (by kernel_rfl) ?he16 ?we16 (by kernel_rfl) (fun K hK => ?_)
  case he16 => simp only [List.getElem?_toArray, List.getElem?_cons_succ, List.getElem?_cons_zero]; rfl
  case we16 => rfl
  go_simp
  refine hK _ _ ?_
  clear hK K
  try simp only [Act.put, List.setIfInBounds_toArray, List.set_cons_zero, List.set_cons_succ]
  refine anyL_end (by kernel_rfl) ?_ _
  go_wp2_with fail
  have HF : Hid (RunS X B (w9.setCell ⟨g, 9, none⟩ (.slice A9 (hd ++ tl).length c9)) g vb vo ⟨dk2, sv, hd ++ tl⟩ A9 c9) := Lib.hid (HR5.out.putWire (fun k hk _ => HB9.out.block k hk) HB9.out.size HO9.out (.inr HN9.out))
  go_wp2_with fail
  go_ret
  refine ⟨A9, c9, by rw [HX.out]; rfl, by rw [HX.out, ← HER.out]; have hf := HF.out; rw [List.length_append] at hf; exact hf, ?_, .inr fun b hb => Nat.le_trans HT5.out.size (HN9.out b hb)⟩
  exact But.set (a := ⟨g, 9, none⟩) (HT5.out.trans (E' := RunE g (some ⟨bw, ow, none⟩) c) (But.of_below HB9.out) fun _ _ h => h) (.inr (.inl rfl))
end Go.Proofs.YtcagdmaiemmfgaaGreat
