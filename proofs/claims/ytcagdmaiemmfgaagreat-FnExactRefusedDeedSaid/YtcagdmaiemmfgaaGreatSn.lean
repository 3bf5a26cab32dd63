/- The reference's run: a deed; for all valid streams and deeds. -/
import Derived.Test.YtcagdmaiemmfgaaGreatSm
namespace Go.Proofs.YtcagdmaiemmfgaaGreat
open Go.RowKit

theorem drain_ok {d : Chk} {p : List ByteArray} (hd : Dim d) (hw : ∀ s ∈ p, okWord s = true) {ws : List Int} : ∀ {r s : Int} {st : List Int}, DeskOk d p ⟨r, s, st, ws⟩ → DeskOk d p (drain d p r s st ws) := by
  induction ws with
  | nil => exact fun h => h
  | cons k ks ih =>
    intro r s st h
    unfold drain
    split
    · next hk =>
      subst hk
      have h0 := h.r0
      have hlt : k < p.length := h.waits.hi _ (List.mem_cons_self ..)
      simp only at h0
      have hkn : k.toNat < p.length := by omega
      have hwd := hw p[k.toNat] (List.getElem_mem hkn)
      have hat := goC_at hd h.at_ (pw := p[k.toNat]) (okWord_sym hwd)
      rw [getD_at p _ hkn]
      refine ih ⟨by simp only; omega, by simp only; omega, ?_, Rise.tail h.waits⟩
      have h2 := okWord_le hwd
      have : (k + 1).toNat = k.toNat + 1 := by omega
      simp only [this]
      exact hat.more (by simp only; omega)
    · exact h
theorem comeC_ok {d : Chk} {p : List ByteArray} (hd : Dim d) (hw : ∀ s ∈ p, okWord s = true) {k : DeskP} {q : ParcelP} (h : DeskOk d p k) (hq : ParcelOk p q) : DeskOk d p (comeC d p k q) :=
  drain_ok hd hw ⟨h.r0, h.r1, h.at_, waitN_rise h.waits hq.f1⟩
theorem okDeed_k {x : Deed} (h : okDeed x = true) : 1 ≤ x.kind ∧ x.kind ≤ 6 := by
  unfold okDeed at h
  simp only [Bool.and_eq_true, inB_iff] at h
  exact h.1
theorem doC_ok {d : Chk} {p : List ByteArray} (hd : Dim d) (hw : ∀ s ∈ p, okWord s = true) {n : PlantP} {x : Deed} (hn : PlantOk d p n) (hx : okDeed x = true) : PlantOk d p (doC d p n x).1 := by
  obtain ⟨⟨a0, a1⟩, b0, b1⟩ := okDeed_a hx
  unfold doC
  split
  · split
    · exact hn
    · split
      · exact hn
      · next h1 h2 h3 =>
        refine ⟨hn.desk, hn.saved, ?_, ?_⟩
        · have := hn.len
          simp only [List.length_append, List.length_singleton]
          omega
        · intro q hq
          rcases List.mem_append.1 hq with hq | hq
          · exact hn.wire q hq
          · have := List.mem_singleton.1 hq
            subst this
            refine ⟨a0, ?_⟩
            simp only [List.length_take, List.length_drop]
            omega
  · split
    · exact ⟨hn.desk, hn.desk, hn.len, hn.wire⟩
    · split
      · exact ⟨hn.saved, hn.saved, hn.len, hn.wire⟩
      · split
        · exact hn
        · next h1 h2 h3 h4 =>
          have hlt : x.a.toNat < n.wire.length := by omega
          have hq : ParcelOk p (n.wire.getD x.a.toNat ⟨0, []⟩) := by
            rw [getD_at _ _ hlt]
            exact hn.wire _ (List.getElem_mem hlt)
          refine ⟨?_, hn.saved, ?_, ?_⟩
          · simp only
            split
            · exact hn.desk
            · exact comeC_ok hd hw hn.desk hq
          · simp only
            split
            · exact hn.len
            · exact Nat.le_trans (List.length_eraseIdx_le ..) hn.len
          · simp only
            split
            · exact hn.wire
            · exact fun q hq => hn.wire q (List.mem_of_mem_eraseIdx hq)
theorem wire_c (X : Dom) (B : Nat) (g vb vo : Nat) (n : PlantP) (A : Option Addr) (c : Nat) (d : Chk) (p : List ByteArray) (x : Deed) (D : Dom) (w : World) (h : RunS X B w g vb vo n A c) (hv : StrPtr D w vb vo d p) (hD : ∀ k, D k → k < B) (hvb : vb < B) (hd : Dim d) (hw : ∀ s ∈ p, okWord s = true) (hp : p.length ≤ 20)
    (ho : PlantOk d p n) (hk : x.kind ≠ 1 ∧ x.kind ≠ 5 ∧ x.kind ≠ 6) (hx : okDeed x = true) :
    Calls Tryz.prog 203 #[.pointer (some ⟨g, 0, none⟩), .agg #[.int .i64 x.kind, .int .i64 x.a, .int .i64 x.b]] w (RetDo X B g vb vo A c d p n x w) := by
  obtain ⟨⟨a0, a1⟩, _⟩ := okDeed_a hx
  obtain ⟨k, a, b⟩ := x
  obtain ⟨dk, sv, ws⟩ := n
  simp only at hk a0 a1
  obtain ⟨an, rfl⟩ : ∃ an : Nat, a = an := ⟨a.toNat, by omega⟩
  rcases Nat.lt_or_ge an ws.length with hlt | hlt
  · by_cases h4 : k = 4
    · exact wire_drop X B g vb vo dk sv ws A c d p k b an D w h hv hD hvb hd hw hp ho hk hlt h4
    · by_cases h3 : k = 3
      · exact wire_copy X B g vb vo dk sv ws A c d p k b an D w h hv hD hvb hd hw hp ho hk hlt h3
      · exact wire_both X B g vb vo dk sv ws A c d p k b an D w h hv hD hvb hd hw hp ho hk hlt ⟨h4, h3⟩
  · exact wire_far X B g vb vo dk sv ws A c d p k b an D w h hv hD hvb hd hw hp ho hk hlt
set_option maxHeartbeats 8000000 in
set_option maxRecDepth 100000 in
theorem send_back (X : Dom) (B : Nat) (g vb vo : Nat) (dk sv : DeskP) (ws : List ParcelP) (A : Option Addr) (c : Nat) (d : Chk) (p : List ByteArray) (an bn : Nat) (D : Dom) (w : World) (h : RunS X B w g vb vo ⟨dk, sv, ws⟩ A c) (hv : StrPtr D w vb vo d p) (hD : ∀ k, D k → k < B) (hvb : vb < B) (hd : Dim d) (hw : ∀ s ∈ p, okWord s = true) (hp : p.length ≤ 20)
    (ho : PlantOk d p ⟨dk, sv, ws⟩) (hx : okDeed ⟨1, an, bn⟩ = true) (hab : bn < an) :
    Calls Tryz.prog 167 #[.pointer (some ⟨g, 0, none⟩), .agg #[.int .i64 1, .int .i64 an, .int .i64 bn]] w (RetDo X B g vb vo A c d p ⟨dk, sv, ws⟩ ⟨1, an, bn⟩ w) := by
  have HR := Lib.hid h
  have HO := Lib.hid ho
  have HD := Lib.hid hd
  have HW := Lib.hid hw
  have HDB := Lib.hid hD
  have HLo := Lib.hid h.lo
  have HX0 := Lib.hid hx
  have HBw : Hid (B ≤ w.heap.size) := Lib.hid (Nat.le_trans h.lo (Nat.le_of_lt h.lt))
  have hl12 : ws.length ≤ 12 := ho.len
  have lg := h.lt
  have b99 : bn ≤ 999 := by have := (okDeed_a hx).2.2; simp only at this; omega
  have a99 : an ≤ 999 := by have := (okDeed_a hx).1.2; simp only at this; omega
  have e0 : w.cell? ⟨g, 0, none⟩ = some (.pointer (some ⟨vb, vo, none⟩)) := h.ptr
  have e9 : w.cell? ⟨g, 9, none⟩ = some (.slice A ws.length c) := h.wire
  obtain ⟨_, AP, cp, e6, hpc⟩ := id hv
  have HPC := Lib.hid hpc
  have HV := Lib.hid hv
  clear h hv ho hd hw hD hx hpc
  obtain ⟨W, hWe⟩ : ∃ W, W = w.alloc (.cells #[.int .i64 1, .int .i64 an, .int .i64 bn] 150) := ⟨_, rfl⟩
  obtain ⟨bd, hbd⟩ : ∃ bd, bd = w.heap.size := ⟨_, rfl⟩
  have HBW : Hid (Below w.heap.size w W) := Lib.hid (hWe ▸ bel1 w _)
  have HRW : Hid (RunS X B W g vb vo ⟨dk, sv, ws⟩ A c) := Lib.hid (HR.out.below HBW.out)
  have E0 : W.cell? ⟨bd, 0, none⟩ = some (.int .i64 1) := by rw [hWe, hbd, cell_new]; rfl
  have E1 : W.cell? ⟨bd, 1, none⟩ = some (.int .i64 an) := by rw [hWe, hbd, cell_new]; rfl
  have E2 : W.cell? ⟨bd, 2, none⟩ = some (.int .i64 bn) := by rw [hWe, hbd, cell_new]; rfl
  have HWe := Lib.hid hWe
  have HBD := Lib.hid hbd
  clear hWe hbd
  have e9W : W.cell? ⟨g, 9, none⟩ = some (.slice A ws.length c) := HRW.out.wire
  have e0W : W.cell? ⟨g, 0, none⟩ = some (.pointer (some ⟨vb, vo, none⟩)) := HRW.out.ptr
  have e6W : W.cell? ⟨vb, vo + 6, none⟩ = some (.slice AP p.length cp) := ((bcell HBW.out (Nat.le_refl _)).1 _ _ (lt_of_cell e6)).trans e6
  have HX : Hid (doC d p ⟨dk, sv, ws⟩ ⟨1, an, bn⟩ = (⟨dk, sv, ws⟩, 2)) := Lib.hid (by
    unfold doC
    rw [if_pos rfl, if_pos (Or.inl (by simp only; omega))])
  go_enter Tryz.func167, Tryz.ntmps167
  go_wp2_with fail
  rw [← HWe.out, ← HBD.out]
  clear e9 e0 e6
  go_quiet (fail)
  go_wp2_with fail
  go_ret
  refine ⟨A, c, by rw [HX.out]; rfl, ?_, ?_, .inl rfl⟩
  · rw [HX.out]
    exact HRW.out.below (drewN_below _ _)
  · exact But.of_below (HBW.out.trans ((drewN_below _ _).mono HBW.out.size))
set_option maxHeartbeats 8000000 in
set_option maxRecDepth 100000 in
theorem send_far (X : Dom) (B : Nat) (g vb vo : Nat) (dk sv : DeskP) (ws : List ParcelP) (A : Option Addr) (c : Nat) (d : Chk) (p : List ByteArray) (an bn : Nat) (D : Dom) (w : World) (h : RunS X B w g vb vo ⟨dk, sv, ws⟩ A c) (hv : StrPtr D w vb vo d p) (hD : ∀ k, D k → k < B) (hvb : vb < B) (hd : Dim d) (hw : ∀ s ∈ p, okWord s = true) (hp : p.length ≤ 20)
    (ho : PlantOk d p ⟨dk, sv, ws⟩) (hx : okDeed ⟨1, an, bn⟩ = true) (hab : an ≤ bn) (hbp : p.length ≤ bn) :
    Calls Tryz.prog 167 #[.pointer (some ⟨g, 0, none⟩), .agg #[.int .i64 1, .int .i64 an, .int .i64 bn]] w (RetDo X B g vb vo A c d p ⟨dk, sv, ws⟩ ⟨1, an, bn⟩ w) := by
  have HR := Lib.hid h
  have HO := Lib.hid ho
  have HD := Lib.hid hd
  have HW := Lib.hid hw
  have HDB := Lib.hid hD
  have HLo := Lib.hid h.lo
  have HX0 := Lib.hid hx
  have HBw : Hid (B ≤ w.heap.size) := Lib.hid (Nat.le_trans h.lo (Nat.le_of_lt h.lt))
  have hl12 : ws.length ≤ 12 := ho.len
  have lg := h.lt
  have b99 : bn ≤ 999 := by have := (okDeed_a hx).2.2; simp only at this; omega
  have a99 : an ≤ 999 := by have := (okDeed_a hx).1.2; simp only at this; omega
  have e0 : w.cell? ⟨g, 0, none⟩ = some (.pointer (some ⟨vb, vo, none⟩)) := h.ptr
  have e9 : w.cell? ⟨g, 9, none⟩ = some (.slice A ws.length c) := h.wire
  obtain ⟨_, AP, cp, e6, hpc⟩ := id hv
  have HPC := Lib.hid hpc
  have HV := Lib.hid hv
  clear h hv ho hd hw hD hx hpc
  obtain ⟨W, hWe⟩ : ∃ W, W = w.alloc (.cells #[.int .i64 1, .int .i64 an, .int .i64 bn] 150) := ⟨_, rfl⟩
  obtain ⟨bd, hbd⟩ : ∃ bd, bd = w.heap.size := ⟨_, rfl⟩
  have HBW : Hid (Below w.heap.size w W) := Lib.hid (hWe ▸ bel1 w _)
  have HRW : Hid (RunS X B W g vb vo ⟨dk, sv, ws⟩ A c) := Lib.hid (HR.out.below HBW.out)
  have E0 : W.cell? ⟨bd, 0, none⟩ = some (.int .i64 1) := by rw [hWe, hbd, cell_new]; rfl
  have E1 : W.cell? ⟨bd, 1, none⟩ = some (.int .i64 an) := by rw [hWe, hbd, cell_new]; rfl
  have E2 : W.cell? ⟨bd, 2, none⟩ = some (.int .i64 bn) := by rw [hWe, hbd, cell_new]; rfl
  have HWe := Lib.hid hWe
  have HBD := Lib.hid hbd
  clear hWe hbd
  have e9W : W.cell? ⟨g, 9, none⟩ = some (.slice A ws.length c) := HRW.out.wire
  have e0W : W.cell? ⟨g, 0, none⟩ = some (.pointer (some ⟨vb, vo, none⟩)) := HRW.out.ptr
  have e6W : W.cell? ⟨vb, vo + 6, none⟩ = some (.slice AP p.length cp) := ((bcell HBW.out (Nat.le_refl _)).1 _ _ (lt_of_cell e6)).trans e6
  have HX : Hid (doC d p ⟨dk, sv, ws⟩ ⟨1, an, bn⟩ = (⟨dk, sv, ws⟩, 2)) := Lib.hid (by
    unfold doC
    rw [if_pos rfl, if_pos (Or.inr (by simp only; omega))])
  have hab2 : ¬ bn < an := by omega
  go_enter Tryz.func167, Tryz.ntmps167
  go_wp2_with fail
  rw [← HWe.out, ← HBD.out]
  clear e9 e0 e6
  go_quiet (fail)
  go_wp2_with fail
  go_ret
  refine ⟨A, c, by rw [HX.out]; rfl, ?_, ?_, .inl rfl⟩
  · rw [HX.out]
    exact HRW.out.below (drewN_below _ _)
  · exact But.of_below (HBW.out.trans ((drewN_below _ _).mono HBW.out.size))
set_option maxHeartbeats 8000000 in
set_option maxRecDepth 100000 in
theorem send_full (X : Dom) (B : Nat) (g vb vo : Nat) (dk sv : DeskP) (ws : List ParcelP) (A : Option Addr) (c : Nat) (d : Chk) (p : List ByteArray) (an bn : Nat) (D : Dom) (w : World) (h : RunS X B w g vb vo ⟨dk, sv, ws⟩ A c) (hv : StrPtr D w vb vo d p) (hD : ∀ k, D k → k < B) (hvb : vb < B) (hd : Dim d) (hw : ∀ s ∈ p, okWord s = true) (hp : p.length ≤ 20)
    (ho : PlantOk d p ⟨dk, sv, ws⟩) (hx : okDeed ⟨1, an, bn⟩ = true) (hab : an ≤ bn) (hbp : bn < p.length) (hf : ws.length = 12) :
    Calls Tryz.prog 167 #[.pointer (some ⟨g, 0, none⟩), .agg #[.int .i64 1, .int .i64 an, .int .i64 bn]] w (RetDo X B g vb vo A c d p ⟨dk, sv, ws⟩ ⟨1, an, bn⟩ w) := by
  have HR := Lib.hid h
  have HO := Lib.hid ho
  have HD := Lib.hid hd
  have HW := Lib.hid hw
  have HDB := Lib.hid hD
  have HLo := Lib.hid h.lo
  have HX0 := Lib.hid hx
  have HBw : Hid (B ≤ w.heap.size) := Lib.hid (Nat.le_trans h.lo (Nat.le_of_lt h.lt))
  have hl12 : ws.length ≤ 12 := ho.len
  have lg := h.lt
  have b99 : bn ≤ 999 := by have := (okDeed_a hx).2.2; simp only at this; omega
  have a99 : an ≤ 999 := by have := (okDeed_a hx).1.2; simp only at this; omega
  have e0 : w.cell? ⟨g, 0, none⟩ = some (.pointer (some ⟨vb, vo, none⟩)) := h.ptr
  have e9 : w.cell? ⟨g, 9, none⟩ = some (.slice A ws.length c) := h.wire
  obtain ⟨_, AP, cp, e6, hpc⟩ := id hv
  have HPC := Lib.hid hpc
  have HV := Lib.hid hv
  clear h hv ho hd hw hD hx hpc
  obtain ⟨W, hWe⟩ : ∃ W, W = w.alloc (.cells #[.int .i64 1, .int .i64 an, .int .i64 bn] 150) := ⟨_, rfl⟩
  obtain ⟨bd, hbd⟩ : ∃ bd, bd = w.heap.size := ⟨_, rfl⟩
  have HBW : Hid (Below w.heap.size w W) := Lib.hid (hWe ▸ bel1 w _)
  have HRW : Hid (RunS X B W g vb vo ⟨dk, sv, ws⟩ A c) := Lib.hid (HR.out.below HBW.out)
  have E0 : W.cell? ⟨bd, 0, none⟩ = some (.int .i64 1) := by rw [hWe, hbd, cell_new]; rfl
  have E1 : W.cell? ⟨bd, 1, none⟩ = some (.int .i64 an) := by rw [hWe, hbd, cell_new]; rfl
  have E2 : W.cell? ⟨bd, 2, none⟩ = some (.int .i64 bn) := by rw [hWe, hbd, cell_new]; rfl
  have HWe := Lib.hid hWe
  have HBD := Lib.hid hbd
  clear hWe hbd
  have e9W : W.cell? ⟨g, 9, none⟩ = some (.slice A ws.length c) := HRW.out.wire
  have e0W : W.cell? ⟨g, 0, none⟩ = some (.pointer (some ⟨vb, vo, none⟩)) := HRW.out.ptr
  have e6W : W.cell? ⟨vb, vo + 6, none⟩ = some (.slice AP p.length cp) := ((bcell HBW.out (Nat.le_refl _)).1 _ _ (lt_of_cell e6)).trans e6
  have HX : Hid (doC d p ⟨dk, sv, ws⟩ ⟨1, an, bn⟩ = (⟨dk, sv, ws⟩, 3)) := Lib.hid (by
    unfold doC
    rw [if_pos rfl, if_neg (by simp only; omega), if_pos hf])
  have hab2 : ¬ bn < an := by omega
  have hbp2 : ¬ p.length ≤ bn := by omega
  have hf2 : ((ws.length : Int) == 12) = true := by rw [beq_iff_eq]; omega
  clear hf
  go_enter Tryz.func167, Tryz.ntmps167
  go_wp2_with fail
  rw [← HWe.out, ← HBD.out]
  clear e9 e0 e6
  go_quiet (fail)
  go_wp2_with fail
  go_ret
  refine ⟨A, c, by rw [HX.out]; rfl, ?_, ?_, .inl rfl⟩
  · rw [HX.out]
    exact HRW.out.below (drewN_below _ _)
  · exact But.of_below (HBW.out.trans ((drewN_below _ _).mono HBW.out.size))
set_option maxHeartbeats 8000000 in
set_option maxRecDepth 100000 in
theorem send_on (X : Dom) (B : Nat) (g vb vo : Nat) (dk sv : DeskP) (ws : List ParcelP) (A : Option Addr) (c : Nat) (d : Chk) (p : List ByteArray) (an bn : Nat) (D : Dom) (w : World) (h : RunS X B w g vb vo ⟨dk, sv, ws⟩ A c) (hv : StrPtr D w vb vo d p) (hD : ∀ k, D k → k < B) (hvb : vb < B) (hd : Dim d) (hw : ∀ s ∈ p, okWord s = true) (hp : p.length ≤ 20)
    (ho : PlantOk d p ⟨dk, sv, ws⟩) (hx : okDeed ⟨1, an, bn⟩ = true) (hab : an ≤ bn) (hbp : bn < p.length) (hf : ws.length ≠ 12) :
    Calls Tryz.prog 167 #[.pointer (some ⟨g, 0, none⟩), .agg #[.int .i64 1, .int .i64 an, .int .i64 bn]] w (RetDo X B g vb vo A c d p ⟨dk, sv, ws⟩ ⟨1, an, bn⟩ w) := by
  have HR := Lib.hid h
  have HO := Lib.hid ho
  have HD := Lib.hid hd
  have HW := Lib.hid hw
  have HDB := Lib.hid hD
  have HLo := Lib.hid h.lo
  have HX0 := Lib.hid hx
  have HBw : Hid (B ≤ w.heap.size) := Lib.hid (Nat.le_trans h.lo (Nat.le_of_lt h.lt))
  have hl12 : ws.length ≤ 12 := ho.len
  have lg := h.lt
  have b99 : bn ≤ 999 := by have := (okDeed_a hx).2.2; simp only at this; omega
  have a99 : an ≤ 999 := by have := (okDeed_a hx).1.2; simp only at this; omega
  have e0 : w.cell? ⟨g, 0, none⟩ = some (.pointer (some ⟨vb, vo, none⟩)) := h.ptr
  have e9 : w.cell? ⟨g, 9, none⟩ = some (.slice A ws.length c) := h.wire
  obtain ⟨_, AP, cp, e6, hpc⟩ := id hv
  have HPC := Lib.hid hpc
  have HV := Lib.hid hv
  clear h hv ho hd hw hD hx hpc
  obtain ⟨W, hWe⟩ : ∃ W, W = w.alloc (.cells #[.int .i64 1, .int .i64 an, .int .i64 bn] 150) := ⟨_, rfl⟩
  obtain ⟨bd, hbd⟩ : ∃ bd, bd = w.heap.size := ⟨_, rfl⟩
  have HBW : Hid (Below w.heap.size w W) := Lib.hid (hWe ▸ bel1 w _)
  have HRW : Hid (RunS X B W g vb vo ⟨dk, sv, ws⟩ A c) := Lib.hid (HR.out.below HBW.out)
  have E0 : W.cell? ⟨bd, 0, none⟩ = some (.int .i64 1) := by rw [hWe, hbd, cell_new]; rfl
  have E1 : W.cell? ⟨bd, 1, none⟩ = some (.int .i64 an) := by rw [hWe, hbd, cell_new]; rfl
  have E2 : W.cell? ⟨bd, 2, none⟩ = some (.int .i64 bn) := by rw [hWe, hbd, cell_new]; rfl
  have HWe := Lib.hid hWe
  have HBD := Lib.hid hbd
  clear hWe hbd
  have e9W : W.cell? ⟨g, 9, none⟩ = some (.slice A ws.length c) := HRW.out.wire
  have e0W : W.cell? ⟨g, 0, none⟩ = some (.pointer (some ⟨vb, vo, none⟩)) := HRW.out.ptr
  have e6W : W.cell? ⟨vb, vo + 6, none⟩ = some (.slice AP p.length cp) := ((bcell HBW.out (Nat.le_refl _)).1 _ _ (lt_of_cell e6)).trans e6
  have HDR : Hid (∀ k, D k → RunD X W g A c k) := Lib.hid fun k hk => ⟨Nat.lt_of_lt_of_le (HDB.out k hk) (Nat.le_trans HBw.out HBW.out.size), fun e => by subst e; exact absurd (HDB.out k hk) (Nat.not_lt.2 HLo.out), fun e => absurd (HDB.out k hk) (Nat.not_lt.2 (HRW.out.ownLo k e).1), fun hx => absurd (HDB.out k hk) (Nat.not_lt.2 (HRW.out.xr k hx).1)⟩
  have hab2 : ¬ bn < an := by omega
  have hbp2 : ¬ p.length ≤ bn := by omega
  have hf2 : ((ws.length : Int) == 12) = false := beq_eq_false_iff_ne.2 (by omega)
  have HX : Hid (doC d p ⟨dk, sv, ws⟩ ⟨1, an, bn⟩ = (⟨dk, sv, ws ++ [⟨an, (p.drop an).take (bn + 1 - an)⟩]⟩, 0)) := Lib.hid (by
    unfold doC
    rw [if_pos rfl, if_neg (by simp only; omega), if_neg hf]
    simp only [Int.toNat_natCast]
    rw [show ((bn : Int) + 1 - an).toNat = bn + 1 - an by omega])
  clear hf
  have hws : IntKind.i64.wrap ((bn : Int) + 1) = (bn : Int) + 1 := by rw [IntKind.wrap_i64]; omega
  obtain ⟨tx, htx⟩ : ∃ tx, tx = (p.drop an).take (bn + 1 - an) := ⟨_, rfl⟩
  have HTX : Hid (tx.length = bn + 1 - an) := Lib.hid (by rw [htx]; simp; omega)
  have HTD : Hid (tx = (p.take (bn + 1)).drop an) := Lib.hid (by rw [htx, List.drop_take])
  rw [← htx] at HX
  have tx20 : tx.length ≤ 20 := by rw [HTX.out]; omega
  have hcp : p.length ≤ cp := HPC.out.1
  obtain ⟨AF, hAF⟩ : ∃ AF, AF = from_ AP cp an 1 := ⟨_, rfl⟩
  have HPW : Hid (∀ w', Below W.heap.size W w' → Sl 1 elStr D w' AF (cp - an) tx) := Lib.hid fun w' hb => by
    rw [hAF, HTD.out]
    exact ((HPC.out.below elStr_good HBW.out).below elStr_good hb).part (by omega) (by omega)
  have hq1 : ∀ w, (Instr.slice 52 (.slice AP p.length cp) (some (.int .i64 (an : Int))) (some (.int .i64 ((bn : Int) + 1))) none).run Tryz.prog w = .ok (.slice AF tx.length (cp - an)) w := by
    intro w
    rw [hAF, HTX.out]
    exact run_part w _ _ _ _ _ _ _ _ _ _ rfl (by omega) Tryz.underlying52 (by kernel_rfl) (by omega) (by omega)
  clear hAF htx
  obtain ⟨S, hSI, hSE⟩ : ∃ S : World → Prop, (∀ w', S w' ↔ w'.cell? ⟨g, 9, none⟩ = some (.slice A ws.length c) ∧ w'.cell? ⟨g, 0, none⟩ = some (.pointer (some ⟨vb, vo, none⟩)) ∧ w'.cell? ⟨vb, vo + 6, none⟩ = some (.slice AP p.length cp) ∧ w'.cell? ⟨bd, 1, none⟩ = some (.int .i64 an) ∧ w'.cell? ⟨bd, 2, none⟩ = some (.int .i64 bn)) ∧ ∀ w2, Below W.heap.size W w2 → S w2 := by
    refine ⟨fun w' => w'.cell? ⟨g, 9, none⟩ = some (.slice A ws.length c) ∧ w'.cell? ⟨g, 0, none⟩ = some (.pointer (some ⟨vb, vo, none⟩)) ∧ w'.cell? ⟨vb, vo + 6, none⟩ = some (.slice AP p.length cp) ∧ w'.cell? ⟨bd, 1, none⟩ = some (.int .i64 an) ∧ w'.cell? ⟨bd, 2, none⟩ = some (.int .i64 bn), fun w' => Iff.rfl, fun w2 h => ?_⟩
    have h2 := (bcell h (Nat.le_refl _)).1
    exact ⟨(h2 _ _ HRW.out.lt).trans HRW.out.wire, (h2 _ _ HRW.out.lt).trans HRW.out.ptr, (h2 _ _ (lt_of_cell e6W)).trans e6W, (h2 _ _ (lt_of_cell E1)).trans E1, (h2 _ _ (lt_of_cell E2)).trans E2⟩
  have HSC := Lib.hid fun w' => (hSI w').2
  have HSI := Lib.hid fun w' => (hSI w').1
  have HSE := Lib.hid hSE
  clear hSI hSE
  go_enter Tryz.func167, Tryz.ntmps167
  go_wp2_with fail
  rw [← HWe.out, ← HBD.out]
  clear e9 e0 e6
  go_quiet (fail)
  go_wp2_with fail
  refine wp_region_L [29] S (by kernel_rfl) (HSE.out _ (bel_drew (drewN_below _ _))) (fun hS => ?_)
  refine anyL_take0 (i := 0) (oi := ?os0) (v := ?vs0) ?hs0 (by kernel_rfl) (by kernel_rfl) (by kernel_rfl) (by kernel_rfl) (fun _ _ _ h => h) (Or.inl ⟨?ws0, ?ys0⟩) (Or.inr hS) ?_
  case hs0 => simp only [List.getElem?_toArray, List.getElem?_cons_zero]; rfl
  case ws0 => rfl
  case ys0 => (intro w; go_simp; try with_reducible rfl)
  try simp only [Act.put, List.setIfInBounds_toArray, List.set_cons_zero, List.set_cons_succ]
  refine anyL_take0 (i := 1) (oi := ?os1) (v := ?vs1) ?hs1 (by kernel_rfl) (by kernel_rfl) (by kernel_rfl) (by kernel_rfl) (fun _ _ _ h => h) (Or.inl ⟨?ws1, ?ys1⟩) (Or.inr hS) ?_
  case hs1 => simp only [List.getElem?_toArray, List.getElem?_cons_succ, List.getElem?_cons_zero]; rfl
  case ws1 => rfl
  case ys1 => (intro w; go_simp; try with_reducible rfl)
  try simp only [Act.put, List.setIfInBounds_toArray, List.set_cons_zero, List.set_cons_succ]
  refine anyL_take0 (i := 2) (oi := ?os2) (v := ?vs2) ?hs2 (by kernel_rfl) (by kernel_rfl) (by kernel_rfl) (by kernel_rfl) (fun _ _ _ h => h) (Or.inl ⟨?ws2, ?ys2⟩) (Or.inr hS) ?_
  case hs2 => simp only [List.getElem?_toArray, List.getElem?_cons_succ, List.getElem?_cons_zero]; rfl
  case ws2 => rfl
  case ys2 => (intro w; go_simp; try with_reducible rfl)
  try simp only [Act.put, List.setIfInBounds_toArray, List.set_cons_zero, List.set_cons_succ]
  refine anyL_take0 (i := 3) (oi := ?os3) (v := ?vs3) ?hs3 (by kernel_rfl) (by kernel_rfl) (by kernel_rfl) (by kernel_rfl) (fun _ _ _ h => h) (Or.inl ⟨?ws3, ?ys3⟩) (Or.inr hS) ?_
  case hs3 => simp only [List.getElem?_toArray, List.getElem?_cons_succ, List.getElem?_cons_zero]; rfl
  case ws3 => rfl
  case ys3 => (intro w; go_simp; try with_reducible rfl)
  try simp only [Act.put, List.setIfInBounds_toArray, List.set_cons_zero, List.set_cons_succ]
  refine anyL_take0 (i := 4) (oi := ?os4) (v := ?vs4) ?hs4 (by kernel_rfl) (by kernel_rfl) (by kernel_rfl) (by kernel_rfl) (fun _ _ _ h => h) (Or.inl ⟨?ws4, ?ys4⟩) (Or.inr hS) ?_
  case hs4 => simp only [List.getElem?_toArray, List.getElem?_cons_succ, List.getElem?_cons_zero]; rfl
  case ws4 => rfl
  case ys4 => (intro w; go_simp; try with_reducible rfl)
  try simp only [Act.put, List.setIfInBounds_toArray, List.set_cons_zero, List.set_cons_succ]
  refine anyL_take (i := 5) (oi := ?os5) (v := ?vs5) ?hs5 (by kernel_rfl) (by kernel_rfl) (by kernel_rfl) (by kernel_rfl) (by kernel_rfl) (fun _ _ _ h => h) (Or.inl ⟨?ws5, ?ys5⟩) hS ?_
  case hs5 => simp only [List.getElem?_toArray, List.getElem?_cons_succ, List.getElem?_cons_zero]; rfl
  case ws5 => rfl
  case ys5 => (intro w hSw; replace hSw := HSI.out _ hSw; go_simp; try with_reducible rfl)
  try simp only [Act.put, List.setIfInBounds_toArray, List.set_cons_zero, List.set_cons_succ]
  refine anyL_take0 (i := 6) (oi := ?os6) (v := ?vs6) ?hs6 (by kernel_rfl) (by kernel_rfl) (by kernel_rfl) (by kernel_rfl) (fun _ _ _ h => h) (Or.inl ⟨?ws6, ?ys6⟩) (Or.inr hS) ?_
  case hs6 => simp only [List.getElem?_toArray, List.getElem?_cons_succ, List.getElem?_cons_zero]; rfl
  case ws6 => rfl
  case ys6 => (intro w; go_simp; try with_reducible rfl)
  try simp only [Act.put, List.setIfInBounds_toArray, List.set_cons_zero, List.set_cons_succ]
  refine anyL_take (i := 7) (oi := ?os7) (v := ?vs7) ?hs7 (by kernel_rfl) (by kernel_rfl) (by kernel_rfl) (by kernel_rfl) (by kernel_rfl) (fun _ _ _ h => h) (Or.inl ⟨?ws7, ?ys7⟩) hS ?_
  case hs7 => simp only [List.getElem?_toArray, List.getElem?_cons_succ, List.getElem?_cons_zero]; rfl
  case ws7 => rfl
  case ys7 => (intro w hSw; replace hSw := HSI.out _ hSw; go_simp; try with_reducible rfl)
  try simp only [Act.put, List.setIfInBounds_toArray, List.set_cons_zero, List.set_cons_succ]
  refine anyL_take0 (i := 9) (oi := ?os9) (v := ?vs9) ?hs9 (by kernel_rfl) (by kernel_rfl) (by kernel_rfl) (by kernel_rfl) (fun _ _ _ h => h) (Or.inl ⟨?ws9, ?ys9⟩) (Or.inr hS) ?_
  case hs9 => simp only [List.getElem?_toArray, List.getElem?_cons_succ, List.getElem?_cons_zero]; rfl
  case ws9 => rfl
  case ys9 => (intro w; go_simp; try with_reducible rfl)
  try simp only [Act.put, List.setIfInBounds_toArray, List.set_cons_zero, List.set_cons_succ]
  refine anyL_take0 (i := 10) (oi := ?os10) (v := ?vs10) ?hs10 (by kernel_rfl) (by kernel_rfl) (by kernel_rfl) (by kernel_rfl) (fun _ _ _ h => h) (Or.inl ⟨?ws10, ?ys10⟩) (Or.inr hS) ?_
  case hs10 => simp only [List.getElem?_toArray, List.getElem?_cons_succ, List.getElem?_cons_zero]; rfl
  case ws10 => rfl
  case ys10 => (intro w; go_simp; try with_reducible rfl)
  try simp only [Act.put, List.setIfInBounds_toArray, List.set_cons_zero, List.set_cons_succ]
  refine anyL_take0 (i := 11) (oi := ?os11) (v := ?vs11) ?hs11 (by kernel_rfl) (by kernel_rfl) (by kernel_rfl) (by kernel_rfl) (fun _ _ _ h => h) (Or.inl ⟨?ws11, ?ys11⟩) (Or.inr hS) ?_
  case hs11 => simp only [List.getElem?_toArray, List.getElem?_cons_succ, List.getElem?_cons_zero]; rfl
  case ws11 => rfl
  case ys11 => (intro w; go_simp; try with_reducible rfl)
  try simp only [Act.put, List.setIfInBounds_toArray, List.set_cons_zero, List.set_cons_succ]
  refine anyL_take (i := 12) (oi := ?os12) (v := ?vs12) ?hs12 (by kernel_rfl) (by kernel_rfl) (by kernel_rfl) (by kernel_rfl) (by kernel_rfl) (fun _ _ _ h => h) (Or.inl ⟨?ws12, ?ys12⟩) hS ?_
  case hs12 => simp only [List.getElem?_toArray, List.getElem?_cons_succ, List.getElem?_cons_zero]; rfl
  case ws12 => rfl
  case ys12 => (intro w hSw; replace hSw := HSI.out _ hSw; go_simp; try with_reducible rfl)
  try simp only [Act.put, List.setIfInBounds_toArray, List.set_cons_zero, List.set_cons_succ]
  refine anyL_take0 (i := 13) (oi := ?os13) (v := ?vs13) ?hs13 (by kernel_rfl) (by kernel_rfl) (by kernel_rfl) (by kernel_rfl) (fun _ _ _ h => h) (Or.inl ⟨?ws13, ?ys13⟩) (Or.inr hS) ?_
  case hs13 => simp only [List.getElem?_toArray, List.getElem?_cons_succ, List.getElem?_cons_zero]; rfl
  case ws13 => rfl
  case ys13 => (intro w; go_simp; try with_reducible rfl)
  try simp only [Act.put, List.setIfInBounds_toArray, List.set_cons_zero, List.set_cons_succ]
  refine anyL_take0 (i := 14) (oi := ?os14) (v := ?vs14) ?hs14 (by kernel_rfl) (by kernel_rfl) (by kernel_rfl) (by kernel_rfl) (fun _ _ _ h => h) (Or.inl ⟨?ws14, ?ys14⟩) (Or.inr hS) ?_
  case hs14 => simp only [List.getElem?_toArray, List.getElem?_cons_succ, List.getElem?_cons_zero]; rfl
  case ws14 => rfl
  case ys14 => (intro w; go_simp; try with_reducible rfl)
  try simp only [Act.put, List.setIfInBounds_toArray, List.set_cons_zero, List.set_cons_succ]
  refine anyL_take (i := 15) (oi := ?os15) (v := ?vs15) ?hs15 (by kernel_rfl) (by kernel_rfl) (by kernel_rfl) (by kernel_rfl) (by kernel_rfl) (fun _ _ _ h => h) (Or.inl ⟨?ws15, ?ys15⟩) hS ?_
  case hs15 => simp only [List.getElem?_toArray, List.getElem?_cons_succ, List.getElem?_cons_zero]; rfl
  case ws15 => rfl
  case ys15 => (intro w hSw; replace hSw := HSI.out _ hSw; go_simp; try with_reducible rfl)
  try simp only [Act.put, List.setIfInBounds_toArray, List.set_cons_zero, List.set_cons_succ]
  refine anyL_take0 (i := 16) (oi := ?os16) (v := ?vs16) ?hs16 (by kernel_rfl) (by kernel_rfl) (by kernel_rfl) (by kernel_rfl) (fun _ _ _ h => h) (Or.inl ⟨?ws16, ?ys16⟩) (Or.inr hS) ?_
  case hs16 => simp only [List.getElem?_toArray, List.getElem?_cons_succ, List.getElem?_cons_zero]; rfl
  case ws16 => rfl
  case ys16 => (intro w; go_simp; try with_reducible rfl)
  try simp only [Act.put, List.setIfInBounds_toArray, List.set_cons_zero, List.set_cons_succ]
  refine anyL_take (i := 17) (oi := ?os17) (v := ?vs17) ?hs17 (by kernel_rfl) (by kernel_rfl) (by kernel_rfl) (by kernel_rfl) (by kernel_rfl) (fun _ _ _ h => h) (Or.inl ⟨?ws17, ?ys17⟩) hS ?_
  case hs17 => simp only [List.getElem?_toArray, List.getElem?_cons_succ, List.getElem?_cons_zero]; rfl
  case ws17 => rfl
  case ys17 => (intro w hSw; replace hSw := HSI.out _ hSw; go_simp; try with_reducible rfl)
  try simp only [Act.put, List.setIfInBounds_toArray, List.set_cons_zero, List.set_cons_succ]
  refine anyL_take0 (i := 18) (oi := ?os18) (v := ?vs18) ?hs18 (by kernel_rfl) (by kernel_rfl) (by kernel_rfl) (by kernel_rfl) (fun _ _ _ h => h) (Or.inl ⟨?ws18, ?ys18⟩) (Or.inr hS) ?_
  case hs18 => simp only [List.getElem?_toArray, List.getElem?_cons_succ, List.getElem?_cons_zero]; rfl
  case ws18 => rfl
  case ys18 => (intro w; go_simp; try with_reducible rfl)
  try simp only [Act.put, List.setIfInBounds_toArray, List.set_cons_zero, List.set_cons_succ]
  refine anyL_take (i := 19) (oi := ?os19) (v := ?vs19) ?hs19 (by kernel_rfl) (by kernel_rfl) (by kernel_rfl) (by kernel_rfl) (by kernel_rfl) (fun _ _ _ h => h) (Or.inl ⟨?ws19, ?ys19⟩) hS ?_
  case hs19 => simp only [List.getElem?_toArray, List.getElem?_cons_succ, List.getElem?_cons_zero]; rfl
  case ws19 => rfl
  case ys19 => (intro w hSw; replace hSw := HSI.out _ hSw; go_simp; try with_reducible rfl)
  try simp only [Act.put, List.setIfInBounds_toArray, List.set_cons_zero, List.set_cons_succ]
  refine anyL_take0 (i := 20) (oi := ?os20) (v := ?vs20) ?hs20 (by kernel_rfl) (by kernel_rfl) (by kernel_rfl) (by kernel_rfl) (fun _ _ _ h => h) (Or.inl ⟨?ws20, ?ys20⟩) (Or.inr hS) ?_
  case hs20 => simp only [List.getElem?_toArray, List.getElem?_cons_succ, List.getElem?_cons_zero]; rfl
  case ws20 => rfl
  case ys20 => (intro w; go_simp; try with_reducible rfl)
  try simp only [Act.put, List.setIfInBounds_toArray, List.set_cons_zero, List.set_cons_succ]
  refine anyL_take0 (i := 21) (oi := ?os21) (v := ?vs21) ?hs21 (by kernel_rfl) (by kernel_rfl) (by kernel_rfl) (by kernel_rfl) (fun _ _ _ h => h) (Or.inl ⟨?ws21, ?ys21⟩) (Or.inr hS) ?_
  case hs21 => simp only [List.getElem?_toArray, List.getElem?_cons_succ, List.getElem?_cons_zero]; rfl
  case ws21 => rfl
  case ys21 => (intro w; go_simp; try with_reducible rfl)
  try simp only [Act.put, List.setIfInBounds_toArray, List.set_cons_zero, List.set_cons_succ]
  refine anyL_one (i := 8) (o := ?os8) (by kernel_rfl) ?hs8 ?ws8 (fun K hK => ?_)
  case hs8 => simp only [List.getElem?_toArray, List.getElem?_cons_succ, List.getElem?_cons_zero]; rfl
  case ws8 => rfl
  go_simp
  refine hK _ _ (fun _ => HSE.out _ (drewA_below _ _ _)) ?_
  replace hS := HSE.out _ (drewA_below W (nq + 1) (.cells #[] 9))
  clear hK K
  try simp only [Act.put, List.setIfInBounds_toArray, List.set_cons_zero, List.set_cons_succ]
  refine anyL_one (i := 22) (o := ?os22) (by kernel_rfl) ?hs22 ?ws22 (fun K hK => ?_)
  case hs22 => simp only [List.getElem?_toArray, List.getElem?_cons_succ, List.getElem?_cons_zero]; rfl
  case ws22 => rfl
  refine wp_own _ K elStr_good elStr_one (.tmp 45) (.tmp 58) 52 9 rfl Tryz.underlying52 info_toStringS rfl (D := RunD X W g A c) (A := some ⟨W.heap.size, 0, none⟩) (c := 0) (xs := []) rfl OwnSl.nil rfl ((HPW.out _ (drewA_below _ _ _)).lies.mono elStr_good fun k hk _ => HDR.out k hk) (by simp only [List.length_nil, maxLen]; omega) (by simp only [List.length_nil]; omega) (fun k hk => Nat.lt_of_lt_of_le hk.1 (drewA_below W (nq + 1) _).size) ?_
  intro A5 c5 w5 ho5 hg5 hor5
  rw [List.nil_append] at ho5 ⊢
  have HB5 : Hid (Below W.heap.size W w5) := Lib.hid ((drewA_below W (nq + 1) _).grown hg5 (drewA_below W (nq + 1) _).size (fun k hk => by rw [ownB_zero] at hk; cases hk))
  have HN5 : Hid (∀ b, ownB A5 c5 = some b → W.heap.size ≤ b) := Lib.hid fun b hb => by
    rcases hor5 with h0 | h0
    · rw [h0, ownB_zero] at hb; cases hb
    · rw [h0] at hb; injection hb with hb; subst hb; exact (drewA_below W (nq + 1) _).size
  have HO5 := Lib.hid ho5
  clear ho5 hg5 hor5
  refine hK _ _ (fun _ => HSE.out _ HB5.out) ?_
  replace hS := HSE.out _ HB5.out
  clear hK K
  try simp only [Act.put, List.setIfInBounds_toArray, List.set_cons_zero, List.set_cons_succ]
  refine anyL_take0 (i := 23) (oi := ?os23) (v := ?vs23) ?hs23 (by kernel_rfl) (by kernel_rfl) (by kernel_rfl) (by kernel_rfl) (fun _ _ _ h => h) (Or.inl ⟨?ws23, ?ys23⟩) (Or.inr hS) ?_
  case hs23 => simp only [List.getElem?_toArray, List.getElem?_cons_succ, List.getElem?_cons_zero]; rfl
  case ws23 => rfl
  case ys23 => (intro w; go_simp; try with_reducible rfl)
  try simp only [Act.put, List.setIfInBounds_toArray, List.set_cons_zero, List.set_cons_succ]
  refine anyL_one (i := 24) (o := ?os24) (by kernel_rfl) ?hs24 ?ws24 (fun K hK => ?_)
  case hs24 => simp only [List.getElem?_toArray, List.getElem?_cons_succ, List.getElem?_cons_zero]; rfl
  case ws24 => rfl
  go_simp
  have HB6 : Hid (Below W.heap.size W (w5.alloc (.cells #[.int .i64 an, .slice A5 tx.length c5] 170))) := Lib.hid (HB5.out.trans ((bel1 _ _).mono HB5.out.size))
  have HR6 : Hid (RunS X B (w5.alloc (.cells #[.int .i64 an, .slice A5 tx.length c5] 170)) g vb vo ⟨dk, sv, ws⟩ A c) := Lib.hid (HRW.out.below HB6.out)
  have HLY : Hid (Lies 2 elParcel (RunD X (w5.alloc (.cells #[.int .i64 an, .slice A5 tx.length c5] 170)) g A c) (w5.alloc (.cells #[.int .i64 an, .slice A5 tx.length c5] 170)) (some ⟨w5.heap.size, 0, none⟩) [⟨an, tx⟩]) := Lib.hid fun _ => by
    refine ⟨w5.heap.size, 0, rfl, fun i y hy => ?_⟩
    have hi : i = 0 := by
      have := (List.getElem?_eq_some_iff.1 hy).1
      simp at this
      exact this
    subst hi
    simp only [List.getElem?_cons_zero, Option.some.injEq] at hy
    subst hy
    refine ⟨by rw [cell_new]; rfl, A5, c5, by rw [cell_new]; rfl, ?_⟩
    refine (HO5.out.sl elStr_good (D' := fun k => W.heap.size ≤ k ∨ RunD X W g A c k) (fun k hk _ => .inr hk) (fun b hb _ => .inl (HN5.out b hb))).below elStr_good (bel1 _ _) |>.mono elStr_good fun k hk hl => ?_
    rcases hk with hk | hk
    · exact HRW.out.new hk hl
    · exact ⟨hl, hk.2⟩
  refine hK _ _ (fun _ => HSE.out _ HB6.out) ?_
  replace hS := HSE.out _ HB6.out
  clear hK K
  try simp only [Act.put, List.setIfInBounds_toArray, List.set_cons_zero, List.set_cons_succ]
  refine anyL_one (i := 25) (o := ?os25) (by kernel_rfl) ?hs25 ?ws25 (fun K hK => ?_)
  case hs25 => simp only [List.getElem?_toArray, List.getElem?_cons_succ, List.getElem?_cons_zero]; rfl
  case ws25 => rfl
  refine wp_own _ K elParcel_good elParcel_one (.tmp 42) (.tmp 61) 81 170 rfl Tryz.underlying81 info_toParcel rfl (D := RunD X (w5.alloc (.cells #[.int .i64 an, .slice A5 tx.length c5] 170)) g A c) (A := A) (c := c) (xs := ws) rfl HR6.out.own (ys := [⟨an, tx⟩]) rfl HLY.out (by simp only [maxLen, List.length_singleton]; omega) (by simp only [List.length_singleton]; omega) (fun k hk => hk.1) ?_
  intro A7 c7 w7 ho7 hg7 hor7
  have HR7 : Hid (RunS X B (w7.setCell ⟨g, 9, none⟩ (.slice A7 (ws ++ [(⟨an, tx⟩ : ParcelP)]).length c7)) g vb vo ⟨dk, sv, ws ++ [⟨an, tx⟩]⟩ A7 c7) := Lib.hid (HR6.out.putWire (fun k hk hne => hg7.block k hk fun e => hne e.symm) hg7.size ho7 (hor7.imp id fun h b hb => by rw [h] at hb; injection hb with hb; omega))
  have HT7 : Hid (But (RunE g A c) w w7) := Lib.hid (But.trans (E' := RunE g A c) (But.of_below (HBW.out.trans (HB6.out.mono HBW.out.size))) ⟨hg7.os, hg7.tape, hg7.output, hg7.size, fun k hk hn => hg7.block k hk fun e => hn (.inr e.symm)⟩ fun _ _ h => h)
  have HN7 : Hid (NewB w A c A7 c7) := Lib.hid (hor7.imp id fun h b hb => by rw [h] at hb; injection hb with hb; subst hb; exact Nat.le_trans HBW.out.size HB6.out.size)
  have z9 : w7.frozen? ⟨g, 9, none⟩ = false := by
    rw [World.frozen?_of_block (a := ⟨g, 9, none⟩) (hg7.block g HR6.out.lt fun e => (HR6.out.ownLo g e.symm).2 rfl)]
    exact HR6.out.free 9
  have y9 : w7.cell? ⟨g, 9, none⟩ = some (.slice A ws.length c) := by
    rw [World.cell?_of_block (a := ⟨g, 9, none⟩) (hg7.block g HR6.out.lt fun e => (HR6.out.ownLo g e.symm).2 rfl)]
    exact HR6.out.wire
  have hold : ∀ b o, b < W.heap.size → ownB A c ≠ some b → w7.cell? ⟨b, o, none⟩ = W.cell? ⟨b, o, none⟩ := fun b o hb hne =>
    (World.cell?_of_block (a := ⟨b, o, none⟩) (hg7.block b (Nat.lt_of_lt_of_le hb HB6.out.size) fun e => hne e.symm)).trans (HB6.out.cell (p := ⟨b, o, none⟩) hb)
  have hS7 := HSC.out w7 ⟨y9, (hold _ _ (lt_of_cell e0W) fun e => (HRW.out.ownLo g e).2 rfl).trans e0W, (hold _ _ (lt_of_cell e6W) fun e => absurd (HRW.out.ownLo vb e).1 (by omega)).trans e6W, (hold _ _ (lt_of_cell E1) fun e => absurd (HR.out.own.own e).1 (by have := HBD.out; omega)).trans E1, (hold _ _ (lt_of_cell E2) fun e => absurd (HR.out.own.own e).1 (by have := HBD.out; omega)).trans E2⟩
  clear ho7 hg7 hor7 hold
  refine hK _ _ (fun _ => hS7) ?_
  replace hS := hS7
  clear hK K
  try simp only [Act.put, List.setIfInBounds_toArray, List.set_cons_zero, List.set_cons_succ]
  refine anyL_take0 (i := 26) (oi := ?os26) (v := ?vs26) ?hs26 (by kernel_rfl) (by kernel_rfl) (by kernel_rfl) (by kernel_rfl) (fun _ _ _ h => h) (Or.inl ⟨?ws26, ?ys26⟩) (Or.inr hS) ?_
  case hs26 => simp only [List.getElem?_toArray, List.getElem?_cons_succ, List.getElem?_cons_zero]; rfl
  case ws26 => rfl
  case ys26 => (intro w; go_simp; try with_reducible rfl)
  try simp only [Act.put, List.setIfInBounds_toArray, List.set_cons_zero, List.set_cons_succ]
  refine anyL_take0 (i := 27) (oi := ?os27) (v := ?vs27) ?hs27 (by kernel_rfl) (by kernel_rfl) (by kernel_rfl) (by kernel_rfl) (fun _ _ _ h => h) (Or.inl ⟨?ws27, ?ys27⟩) (Or.inr hS) ?_
  case hs27 => simp only [List.getElem?_toArray, List.getElem?_cons_succ, List.getElem?_cons_zero]; rfl
  case ws27 => rfl
  case ys27 => (intro w; go_simp; try with_reducible rfl)
  try simp only [Act.put, List.setIfInBounds_toArray, List.set_cons_zero, List.set_cons_succ]
  refine anyL_take0 (i := 28) (oi := ?os28) (v := ?vs28) ?hs28 (by kernel_rfl) (by kernel_rfl) (by kernel_rfl) (by kernel_rfl) (fun _ _ _ h => h) (Or.inl ⟨?ws28, ?ys28⟩) (Or.inr hS) ?_
  case hs28 => simp only [List.getElem?_toArray, List.getElem?_cons_succ, List.getElem?_cons_zero]; rfl
  case ws28 => rfl
  case ys28 => (intro w; go_simp; try with_reducible rfl)
  try simp only [Act.put, List.setIfInBounds_toArray, List.set_cons_zero, List.set_cons_succ]
  refine anyL_late (i := 29) (o := ?os29) (by kernel_rfl) ?hs29 ?ws29 (by kernel_rfl) (fun K hK => ?_)
  case hs29 => simp only [List.getElem?_toArray, List.getElem?_cons_succ, List.getElem?_cons_zero]; rfl
  case ws29 => rfl
  go_simp
  refine hK _ _ ?_
  clear hK K
  try simp only [Act.put, List.setIfInBounds_toArray, List.set_cons_zero, List.set_cons_succ]
  refine anyL_end (by kernel_rfl) ?_ _
  go_wp2_with fail
  go_ret
  refine ⟨A7, c7, by rw [HX.out]; rfl, by rw [HX.out]; have hf := HR7.out; simp only [List.length_append, List.length_singleton] at hf; exact hf, But.set (a := ⟨g, 9, none⟩) HT7.out (.inr (.inl rfl)), HN7.out⟩
set_option maxHeartbeats 8000000 in
set_option maxRecDepth 100000 in
theorem do_save (X : Dom) (B : Nat) (g vb vo : Nat) (dk sv : DeskP) (ws : List ParcelP) (A : Option Addr) (c : Nat) (d : Chk) (p : List ByteArray) (an bn : Nat) (D : Dom) (w : World) (h : RunS X B w g vb vo ⟨dk, sv, ws⟩ A c) (hv : StrPtr D w vb vo d p) (hD : ∀ k, D k → k < B) (hvb : vb < B) (hd : Dim d) (hw : ∀ s ∈ p, okWord s = true) (hp : p.length ≤ 20)
    (ho : PlantOk d p ⟨dk, sv, ws⟩) (hx : okDeed ⟨5, an, bn⟩ = true)  :
    Calls Tryz.prog 167 #[.pointer (some ⟨g, 0, none⟩), .agg #[.int .i64 5, .int .i64 an, .int .i64 bn]] w (RetDo X B g vb vo A c d p ⟨dk, sv, ws⟩ ⟨5, an, bn⟩ w) := by
  have HR := Lib.hid h
  have HO := Lib.hid ho
  have HD := Lib.hid hd
  have HW := Lib.hid hw
  have HDB := Lib.hid hD
  have HLo := Lib.hid h.lo
  have HX0 := Lib.hid hx
  have HBw : Hid (B ≤ w.heap.size) := Lib.hid (Nat.le_trans h.lo (Nat.le_of_lt h.lt))
  have hl12 : ws.length ≤ 12 := ho.len
  have lg := h.lt
  have b99 : bn ≤ 999 := by have := (okDeed_a hx).2.2; simp only at this; omega
  have a99 : an ≤ 999 := by have := (okDeed_a hx).1.2; simp only at this; omega
  have e0 : w.cell? ⟨g, 0, none⟩ = some (.pointer (some ⟨vb, vo, none⟩)) := h.ptr
  have e9 : w.cell? ⟨g, 9, none⟩ = some (.slice A ws.length c) := h.wire
  obtain ⟨_, AP, cp, e6, hpc⟩ := id hv
  have HPC := Lib.hid hpc
  have HV := Lib.hid hv
  clear h hv ho hd hw hD hx hpc
  obtain ⟨W, hWe⟩ : ∃ W, W = w.alloc (.cells #[.int .i64 5, .int .i64 an, .int .i64 bn] 150) := ⟨_, rfl⟩
  obtain ⟨bd, hbd⟩ : ∃ bd, bd = w.heap.size := ⟨_, rfl⟩
  have HBW : Hid (Below w.heap.size w W) := Lib.hid (hWe ▸ bel1 w _)
  have HRW : Hid (RunS X B W g vb vo ⟨dk, sv, ws⟩ A c) := Lib.hid (HR.out.below HBW.out)
  have E0 : W.cell? ⟨bd, 0, none⟩ = some (.int .i64 5) := by rw [hWe, hbd, cell_new]; rfl
  have E1 : W.cell? ⟨bd, 1, none⟩ = some (.int .i64 an) := by rw [hWe, hbd, cell_new]; rfl
  have E2 : W.cell? ⟨bd, 2, none⟩ = some (.int .i64 bn) := by rw [hWe, hbd, cell_new]; rfl
  have HWe := Lib.hid hWe
  have HBD := Lib.hid hbd
  clear hWe hbd
  have e9W : W.cell? ⟨g, 9, none⟩ = some (.slice A ws.length c) := HRW.out.wire
  have e0W : W.cell? ⟨g, 0, none⟩ = some (.pointer (some ⟨vb, vo, none⟩)) := HRW.out.ptr
  have e6W : W.cell? ⟨vb, vo + 6, none⟩ = some (.slice AP p.length cp) := ((bcell HBW.out (Nat.le_refl _)).1 _ _ (lt_of_cell e6)).trans e6
  have HX : Hid (doC d p ⟨dk, sv, ws⟩ ⟨5, an, bn⟩ = (⟨dk, dk, ws⟩, 0)) := Lib.hid (by
    unfold doC
    simp)
  have ls : dk.stack.length ≤ 1048576 := by have h1 := HO.out.desk.at_.len; have h2 := HO.out.desk.r1; simp only at h1 h2; omega
  have lw : dk.waiting.length ≤ 1048576 := by have h1 := HO.out.desk.waits.length HO.out.desk.r1; have h2 := HO.out.desk.r0; simp only at h1 h2; omega
  go_enter Tryz.func167, Tryz.ntmps167
  go_wp2_with fail
  rw [← HWe.out, ← HBD.out]
  clear e9 e0 e6
  go_wp2_with (go_at_call 113; refine (l08Copy_c (RunD X W g A c) g 1 dk W HRW.out.desk ls lw).mono ?_; rintro e w1 ⟨A1, c1, A2, c2, rfl, hs1, hs2, hb1⟩; have HS1 := Lib.hid hs1; have HS2 := Lib.hid hs2; have HB1 := Lib.hid hb1; have HR1 := Lib.hid (HRW.out.below hb1); obtain ⟨z1, hz1⟩ := HR1.out.cell9 (j := 5) (by omega); obtain ⟨z2, hz2⟩ := HR1.out.cell9 (j := 6) (by omega); obtain ⟨z3, hz3⟩ := HR1.out.cell9 (j := 7) (by omega); obtain ⟨z4, hz4⟩ := HR1.out.cell9 (j := 8) (by omega); have f1 := HR1.out.free 5; have f2 := HR1.out.free 6; have f3 := HR1.out.free 7; have f4 := HR1.out.free 8; clear hs1 hs2 hb1)
  go_ret
  refine ⟨A, c, by rw [HX.out]; rfl, by rw [HX.out]; exact HR1.out.putSaved dk (HS1.out.mono ints_good fun k hk hl => HRW.out.new hk hl) (HS2.out.mono ints_good fun k hk hl => HRW.out.new hk hl), ?_, .inl rfl⟩
  exact But.set (a := ⟨g, _, none⟩) (But.set (a := ⟨g, _, none⟩) (But.set (a := ⟨g, _, none⟩) (But.set (a := ⟨g, _, none⟩) (But.of_below (HBW.out.trans (HB1.out.mono HBW.out.size))) (.inr (.inl rfl))) (.inr (.inl rfl))) (.inr (.inl rfl))) (.inr (.inl rfl))
set_option maxHeartbeats 8000000 in
set_option maxRecDepth 100000 in
theorem do_crash (X : Dom) (B : Nat) (g vb vo : Nat) (dk sv : DeskP) (ws : List ParcelP) (A : Option Addr) (c : Nat) (d : Chk) (p : List ByteArray) (an bn : Nat) (D : Dom) (w : World) (h : RunS X B w g vb vo ⟨dk, sv, ws⟩ A c) (hv : StrPtr D w vb vo d p) (hD : ∀ k, D k → k < B) (hvb : vb < B) (hd : Dim d) (hw : ∀ s ∈ p, okWord s = true) (hp : p.length ≤ 20)
    (ho : PlantOk d p ⟨dk, sv, ws⟩) (hx : okDeed ⟨6, an, bn⟩ = true)  :
    Calls Tryz.prog 167 #[.pointer (some ⟨g, 0, none⟩), .agg #[.int .i64 6, .int .i64 an, .int .i64 bn]] w (RetDo X B g vb vo A c d p ⟨dk, sv, ws⟩ ⟨6, an, bn⟩ w) := by
  have HR := Lib.hid h
  have HO := Lib.hid ho
  have HD := Lib.hid hd
  have HW := Lib.hid hw
  have HDB := Lib.hid hD
  have HLo := Lib.hid h.lo
  have HX0 := Lib.hid hx
  have HBw : Hid (B ≤ w.heap.size) := Lib.hid (Nat.le_trans h.lo (Nat.le_of_lt h.lt))
  have hl12 : ws.length ≤ 12 := ho.len
  have lg := h.lt
  have b99 : bn ≤ 999 := by have := (okDeed_a hx).2.2; simp only at this; omega
  have a99 : an ≤ 999 := by have := (okDeed_a hx).1.2; simp only at this; omega
  have e0 : w.cell? ⟨g, 0, none⟩ = some (.pointer (some ⟨vb, vo, none⟩)) := h.ptr
  have e9 : w.cell? ⟨g, 9, none⟩ = some (.slice A ws.length c) := h.wire
  obtain ⟨_, AP, cp, e6, hpc⟩ := id hv
  have HPC := Lib.hid hpc
  have HV := Lib.hid hv
  clear h hv ho hd hw hD hx hpc
  obtain ⟨W, hWe⟩ : ∃ W, W = w.alloc (.cells #[.int .i64 6, .int .i64 an, .int .i64 bn] 150) := ⟨_, rfl⟩
  obtain ⟨bd, hbd⟩ : ∃ bd, bd = w.heap.size := ⟨_, rfl⟩
  have HBW : Hid (Below w.heap.size w W) := Lib.hid (hWe ▸ bel1 w _)
  have HRW : Hid (RunS X B W g vb vo ⟨dk, sv, ws⟩ A c) := Lib.hid (HR.out.below HBW.out)
  have E0 : W.cell? ⟨bd, 0, none⟩ = some (.int .i64 6) := by rw [hWe, hbd, cell_new]; rfl
  have E1 : W.cell? ⟨bd, 1, none⟩ = some (.int .i64 an) := by rw [hWe, hbd, cell_new]; rfl
  have E2 : W.cell? ⟨bd, 2, none⟩ = some (.int .i64 bn) := by rw [hWe, hbd, cell_new]; rfl
  have HWe := Lib.hid hWe
  have HBD := Lib.hid hbd
  clear hWe hbd
  have e9W : W.cell? ⟨g, 9, none⟩ = some (.slice A ws.length c) := HRW.out.wire
  have e0W : W.cell? ⟨g, 0, none⟩ = some (.pointer (some ⟨vb, vo, none⟩)) := HRW.out.ptr
  have e6W : W.cell? ⟨vb, vo + 6, none⟩ = some (.slice AP p.length cp) := ((bcell HBW.out (Nat.le_refl _)).1 _ _ (lt_of_cell e6)).trans e6
  have HX : Hid (doC d p ⟨dk, sv, ws⟩ ⟨6, an, bn⟩ = (⟨sv, sv, ws⟩, 0)) := Lib.hid (by
    unfold doC
    simp)
  have ls : sv.stack.length ≤ 1048576 := by have h1 := HO.out.saved.at_.len; have h2 := HO.out.saved.r1; simp only at h1 h2; omega
  have lw : sv.waiting.length ≤ 1048576 := by have h1 := HO.out.saved.waits.length HO.out.saved.r1; have h2 := HO.out.saved.r0; simp only at h1 h2; omega
  go_enter Tryz.func167, Tryz.ntmps167
  go_wp2_with fail
  rw [← HWe.out, ← HBD.out]
  clear e9 e0 e6
  go_wp2_with (go_at_call 113; refine (l08Copy_c (RunD X W g A c) g 5 sv W HRW.out.saved ls lw).mono ?_; rintro e w1 ⟨A1, c1, A2, c2, rfl, hs1, hs2, hb1⟩; have HS1 := Lib.hid hs1; have HS2 := Lib.hid hs2; have HB1 := Lib.hid hb1; have HR1 := Lib.hid (HRW.out.below hb1); obtain ⟨z1, hz1⟩ := HR1.out.cell9 (j := 1) (by omega); obtain ⟨z2, hz2⟩ := HR1.out.cell9 (j := 2) (by omega); obtain ⟨z3, hz3⟩ := HR1.out.cell9 (j := 3) (by omega); obtain ⟨z4, hz4⟩ := HR1.out.cell9 (j := 4) (by omega); have f1 := HR1.out.free 1; have f2 := HR1.out.free 2; have f3 := HR1.out.free 3; have f4 := HR1.out.free 4; clear hs1 hs2 hb1)
  go_ret
  refine ⟨A, c, by rw [HX.out]; rfl, by rw [HX.out]; exact HR1.out.putDesk sv (HS1.out.mono ints_good fun k hk hl => HRW.out.new hk hl) (HS2.out.mono ints_good fun k hk hl => HRW.out.new hk hl), ?_, .inl rfl⟩
  exact But.set (a := ⟨g, _, none⟩) (But.set (a := ⟨g, _, none⟩) (But.set (a := ⟨g, _, none⟩) (But.set (a := ⟨g, _, none⟩) (But.of_below (HBW.out.trans (HB1.out.mono HBW.out.size))) (.inr (.inl rfl))) (.inr (.inl rfl))) (.inr (.inl rfl))) (.inr (.inl rfl))
set_option maxHeartbeats 8000000 in
set_option maxRecDepth 100000 in
theorem do_wire (X : Dom) (B : Nat) (g vb vo : Nat) (dk sv : DeskP) (ws : List ParcelP) (A : Option Addr) (c : Nat) (d : Chk) (p : List ByteArray) (k : Int) (an bn : Nat) (D : Dom) (w : World) (h : RunS X B w g vb vo ⟨dk, sv, ws⟩ A c) (hv : StrPtr D w vb vo d p) (hD : ∀ k, D k → k < B) (hvb : vb < B) (hd : Dim d) (hw : ∀ s ∈ p, okWord s = true) (hp : p.length ≤ 20)
    (ho : PlantOk d p ⟨dk, sv, ws⟩) (hx : okDeed ⟨k, an, bn⟩ = true) (hk : k ≠ 1 ∧ k ≠ 5 ∧ k ≠ 6) :
    Calls Tryz.prog 167 #[.pointer (some ⟨g, 0, none⟩), .agg #[.int .i64 k, .int .i64 an, .int .i64 bn]] w (RetDo X B g vb vo A c d p ⟨dk, sv, ws⟩ ⟨k, an, bn⟩ w) := by
  have HK := Lib.hid hk
  have HR := Lib.hid h
  have HO := Lib.hid ho
  have HD := Lib.hid hd
  have HW := Lib.hid hw
  have HDB := Lib.hid hD
  have HLo := Lib.hid h.lo
  have HX0 := Lib.hid hx
  have HBw : Hid (B ≤ w.heap.size) := Lib.hid (Nat.le_trans h.lo (Nat.le_of_lt h.lt))
  have hl12 : ws.length ≤ 12 := ho.len
  have lg := h.lt
  have b99 : bn ≤ 999 := by have := (okDeed_a hx).2.2; simp only at this; omega
  have a99 : an ≤ 999 := by have := (okDeed_a hx).1.2; simp only at this; omega
  have e0 : w.cell? ⟨g, 0, none⟩ = some (.pointer (some ⟨vb, vo, none⟩)) := h.ptr
  have e9 : w.cell? ⟨g, 9, none⟩ = some (.slice A ws.length c) := h.wire
  obtain ⟨_, AP, cp, e6, hpc⟩ := id hv
  have HPC := Lib.hid hpc
  have HV := Lib.hid hv
  clear h hv ho hd hw hD hx hpc
  obtain ⟨W, hWe⟩ : ∃ W, W = w.alloc (.cells #[.int .i64 k, .int .i64 an, .int .i64 bn] 150) := ⟨_, rfl⟩
  obtain ⟨bd, hbd⟩ : ∃ bd, bd = w.heap.size := ⟨_, rfl⟩
  have HBW : Hid (Below w.heap.size w W) := Lib.hid (hWe ▸ bel1 w _)
  have HRW : Hid (RunS X B W g vb vo ⟨dk, sv, ws⟩ A c) := Lib.hid (HR.out.below HBW.out)
  have E0 : W.cell? ⟨bd, 0, none⟩ = some (.int .i64 k) := by rw [hWe, hbd, cell_new]; rfl
  have E1 : W.cell? ⟨bd, 1, none⟩ = some (.int .i64 an) := by rw [hWe, hbd, cell_new]; rfl
  have E2 : W.cell? ⟨bd, 2, none⟩ = some (.int .i64 bn) := by rw [hWe, hbd, cell_new]; rfl
  have HWe := Lib.hid hWe
  have HBD := Lib.hid hbd
  clear hWe hbd
  have e9W : W.cell? ⟨g, 9, none⟩ = some (.slice A ws.length c) := HRW.out.wire
  have e0W : W.cell? ⟨g, 0, none⟩ = some (.pointer (some ⟨vb, vo, none⟩)) := HRW.out.ptr
  have e6W : W.cell? ⟨vb, vo + 6, none⟩ = some (.slice AP p.length cp) := ((bcell HBW.out (Nat.le_refl _)).1 _ _ (lt_of_cell e6)).trans e6
  have k1 : (k == 1) = false := beq_eq_false_iff_ne.2 hk.1
  have k5 : (k == 5) = false := beq_eq_false_iff_ne.2 hk.2.1
  have k6 : (k == 6) = false := beq_eq_false_iff_ne.2 hk.2.2
  clear hk
  go_enter Tryz.func167, Tryz.ntmps167
  go_wp2_with fail
  rw [← HWe.out, ← HBD.out]
  clear e9 e0 e6
  go_wp2_with (go_at_call 203; refine (wire_c X B g vb vo ⟨dk, sv, ws⟩ A c d p ⟨k, an, bn⟩ D W HRW.out (HV.out.below HBW.out) HDB.out hvb HD.out HW.out hp HO.out HK.out HX0.out).mono ?_; rintro e w1 ⟨A1, c1, rfl, hr1, hb1, hn1⟩; have HR1 := Lib.hid hr1; have HB1 := Lib.hid hb1; have HN1 := Lib.hid hn1; clear hr1 hb1 hn1)
  go_ret
  exact ⟨A1, c1, rfl, HR1.out, (But.of_below HBW.out).trans (E' := RunE g A c) HB1.out fun _ _ h => h, HN1.out.imp id fun h b hb => Nat.le_trans HBW.out.size (h b hb)⟩
theorem do_c (X : Dom) (B : Nat) (g vb vo : Nat) (n : PlantP) (A : Option Addr) (c : Nat) (d : Chk) (p : List ByteArray) (x : Deed) (D : Dom) (w : World) (h : RunS X B w g vb vo n A c) (hv : StrPtr D w vb vo d p) (hD : ∀ k, D k → k < B) (hvb : vb < B) (hd : Dim d) (hw : ∀ s ∈ p, okWord s = true) (hp : p.length ≤ 20)
    (ho : PlantOk d p n) (hx : okDeed x = true) :
    Calls Tryz.prog 167 #[.pointer (some ⟨g, 0, none⟩), .agg #[.int .i64 x.kind, .int .i64 x.a, .int .i64 x.b]] w (RetDo X B g vb vo A c d p n x w) := by
  obtain ⟨⟨a0, a1⟩, b0, b1⟩ := okDeed_a hx
  obtain ⟨k, a, b⟩ := x
  obtain ⟨dk, sv, ws⟩ := n
  simp only at a0 a1 b0 b1
  obtain ⟨an, rfl⟩ : ∃ an : Nat, a = an := ⟨a.toNat, by omega⟩
  obtain ⟨bn, rfl⟩ : ∃ bn : Nat, b = bn := ⟨b.toNat, by omega⟩
  by_cases h1 : k = 1
  · subst h1
    rcases Nat.lt_or_ge bn an with h2 | h2
    · exact send_back X B g vb vo dk sv ws A c d p an bn D w h hv hD hvb hd hw hp ho hx h2
    · rcases Nat.lt_or_ge bn p.length with h3 | h3
      · by_cases h4 : ws.length = 12
        · exact send_full X B g vb vo dk sv ws A c d p an bn D w h hv hD hvb hd hw hp ho hx h2 h3 h4
        · exact send_on X B g vb vo dk sv ws A c d p an bn D w h hv hD hvb hd hw hp ho hx h2 h3 h4
      · exact send_far X B g vb vo dk sv ws A c d p an bn D w h hv hD hvb hd hw hp ho hx h2 h3
  · by_cases h5 : k = 5
    · subst h5
      exact do_save X B g vb vo dk sv ws A c d p an bn D w h hv hD hvb hd hw hp ho hx
    · by_cases h6 : k = 6
      · subst h6
        exact do_crash X B g vb vo dk sv ws A c d p an bn D w h hv hD hvb hd hw hp ho hx
      · exact do_wire X B g vb vo dk sv ws A c d p k an bn D w h hv hD hvb hd hw hp ho hx ⟨h1, h5, h6⟩
end Go.Proofs.YtcagdmaiemmfgaaGreat
