/- A word's run on a checker, in the reference: it comes to where the plain run comes; for all valid checkers and words. -/
import Derived.Test.YtcagdmaiemmfgaaGreatSb
namespace Go.Proofs.YtcagdmaiemmfgaaGreat
open Go.RowKit

theorem stepC_at {d : Chk} (hd : Dim d) {p : Int × List Int} {n : Nat} (h : At d p n) {b : UInt8} (hb : 0 ≤ symI b) : At d (stepC d p.1 p.2 b) (n + 1) := by
  obtain ⟨s, st⟩ := p
  obtain ⟨h0, h1, h2, h3⟩ := h
  simp only at h0 h1 h2 h3
  obtain ⟨z, hz, hb⟩ := symI_cases hb
  obtain ⟨k, rfl⟩ : ∃ k : Nat, s = k := ⟨s.toNat, by omega⟩
  have hk : k < d.acc.length := by omega
  show At d (stepC d k st b) (n + 1)
  rcases hb with hb | hb | hb
  · rw [stepC_call hb hz]
    obtain ⟨t1, t2⟩ := hd.toV k z hk hz
    obtain ⟨t3, t4⟩ := hd.putV k z hk hz
    refine ⟨t1, t2, ?_, by simp; omega⟩
    intro m hm
    rcases List.mem_append.1 hm with hm | hm
    · exact h2 m hm
    · have := List.mem_singleton.1 hm
      subst this
      exact ⟨t3, t4⟩
  · have hm1 := hd.m1
    rcases Nat.eq_zero_or_pos st.length with hn0 | hn0
    · have hst0 : st = [] := List.eq_nil_of_length_eq_zero hn0
      subst hst0
      rw [stepC_ret0 hb hz]
      obtain ⟨t1, t2⟩ := hd.retV k z d.stack.toNat hk hz (by omega)
      exact ⟨t1, t2, fun m hm => (by cases hm), by simp⟩
    · rw [stepC_ret hb hz hn0]
      have hl : st.length - 1 < st.length := by omega
      obtain ⟨m0, m3⟩ := h2 _ (List.getElem_mem hl)
      obtain ⟨t1, t2⟩ := hd.retV k z (st[st.length - 1]'hl).toNat hk hz (by omega)
      exact ⟨t1, t2, fun m hm => h2 m (List.mem_of_mem_take hm), by simp; omega⟩
  · rw [stepC_in hb]
    obtain ⟨t1, t2⟩ := hd.innV k z hk hz
    exact ⟨t1, t2, h2, by simp; omega⟩
theorem l02Step_c (D : Dom) (g o : Nat) (d : Chk) (p : Int × List Int) (n : Nat) (A : Option Addr) (c : Nat) (b : UInt8) (w : World) (hp : ChkPtr D w g o d) (hst : Sl 1 (elInt .i64) D w A c p.2) (hd : Dim d) (ha : At d p n) (hn : n ≤ 1048576) (hb : 0 ≤ symI b) :
    Calls Tryz.prog 131 #[.pointer (some ⟨g, o, none⟩), .int .i64 p.1, .slice A p.2.length c, .int .u8 (b.toNat : Int)] w (RetStep D w (stepC d p.1 p.2 b)) := by
  obtain ⟨s, st⟩ := p
  obtain ⟨h0, h1, h2, h3⟩ := ha
  simp only at h0 h1 h2 h3 hst
  obtain ⟨k, rfl⟩ : ∃ k : Nat, s = k := ⟨s.toNat, by omega⟩
  obtain ⟨z, hz, hb | hb | hb⟩ := symI_cases hb
  · exact l02Step_call D g o d k A c st b z w hp hst (by omega) hd (by omega) hz hb
  · exact l02Step_ret D g o d k A c st b z w hp hst h2 (by omega) hd (by omega) hz hb
  · exact l02Step_in D g o d k A c st b z w hp hst hd (by omega) hz hb
theorem goC_take {d : Chk} {s : Int} {st : List Int} (wd : ByteArray) (k : Nat) (h : k < wd.size) : goC d s st (wd.data.toList.take (k + 1)) = stepC d (goC d s st (wd.data.toList.take k)).1 (goC d s st (wd.data.toList.take k)).2 wd[k] := by
  unfold goC
  rw [List.take_succ_eq_append_getElem (by simpa using h), List.foldl_append]
  simp [ByteArray.getElem_eq_getElem_data]
theorem goC_all {d : Chk} {s : Int} {st : List Int} (wd : ByteArray) (k : Nat) (h : wd.size ≤ k) : goC d s st (wd.data.toList.take k) = goC d s st wd.data.toList := by
  rw [List.take_of_length_le (by simpa using h)]
theorem ChkPtr.below {D : Dom} {w w' : World} {b o : Nat} {d : Chk} (h : ChkPtr D w b o d) (hb : Below w.heap.size w w') : ChkPtr D w' b o d := by
  obtain ⟨p0, p1, A0, c0, A1, c1, A2, c2, A3, c3, p2, p3, p4, p5, hs⟩ := h
  have hc := (bcell hb (Nat.le_refl _)).1
  have hl := lt_of_cell p0
  exact ⟨(hc _ _ hl).trans p0, (hc _ _ hl).trans p1, A0, c0, A1, c1, A2, c2, A3, c3, (hc _ _ hl).trans p2, (hc _ _ hl).trans p3, (hc _ _ hl).trans p4, (hc _ _ hl).trans p5, hs.below hb⟩
theorem ChkPtr.mono {D D' : Dom} {w : World} {b o : Nat} {d : Chk} (h : ChkPtr D w b o d) (hd : ∀ k, D k → k < w.heap.size → D' k) : ChkPtr D' w b o d := by
  obtain ⟨p0, p1, A0, c0, A1, c1, A2, c2, A3, c3, p2, p3, p4, p5, hs⟩ := h
  exact ⟨p0, p1, A0, c0, A1, c1, A2, c2, A3, c3, p2, p3, p4, p5, hs.mono hd⟩
set_option maxHeartbeats 1000000 in
theorem l02Go_c (D : Dom) (g o : Nat) (d : Chk) (p : Int × List Int) (n : Nat) (A : Option Addr) (c : Nat) (wd : ByteArray) (w : World) (hp : ChkPtr D w g o d) (hst : Sl 1 (elInt .i64) D w A c p.2) (hd : Dim d) (ha : At d p n) (hn : n + wd.size ≤ 1048576) (hb : ∀ (i : Nat) (h : i < wd.size), 0 ≤ symI wd[i]) :
    Calls Tryz.prog 58 #[.pointer (some ⟨g, o, none⟩), .int .i64 p.1, .slice A p.2.length c, .string wd] w (RetStep D w (goC d p.1 p.2 wd.data.toList)) := by
  obtain ⟨q, hq⟩ : ∃ q, q = goC d p.1 p.2 wd.data.toList := ⟨_, rfl⟩
  rw [← hq]
  have HQ := Lib.hid hq
  have HP := Lib.hid hp
  have HS := Lib.hid hst
  have HD := Lib.hid hd
  have HA := Lib.hid ha
  have HB := Lib.hid hb
  have l1 : wd.size ≤ 1048576 := by omega
  clear hq hp hst hd ha hb
  go_enter Tryz.func58, Tryz.ntmps58
  go_wp2_with fail
  go_loopg [1, 2, 10] wd.size (fun z v1 v2 v3 wr => ∃ k : Nat, k ≤ wd.size ∧ z = wd.size - k ∧ v3 = .int .i64 k ∧ v1 = .int .i64 (goC d p.1 p.2 (wd.data.toList.take k)).1 ∧ (∃ A' c', v2 = .slice A' (goC d p.1 p.2 (wd.data.toList.take k)).2.length c' ∧ Sl 1 (elInt .i64) (fun b => D b ∨ w.heap.size ≤ b) wr A' c' (goC d p.1 p.2 (wd.data.toList.take k)).2) ∧ At d (goC d p.1 p.2 (wd.data.toList.take k)) (n + k) ∧ Below w.heap.size w wr)
  case atStart => exact ⟨0, by omega, by omega, rfl, rfl, ⟨A, c, rfl, HS.out.mono ints_good fun _ h _ => .inl h⟩, HA.out, Below.refl _ _⟩
  case round =>
    obtain ⟨k, hk, hz, rfl, rfl, ⟨A', c', rfl, hs'⟩, hat, hbel⟩ := hrel
    have HZ := Lib.hid hz
    have HT := Lib.hid hat
    have HB1 := Lib.hid hbel
    have HS1 := Lib.hid hs'
    clear hz hat hbel hs' HS
    by_cases hlt : k < wd.size
    · have HG := Lib.hid (goC_take (d := d) (s := p.1) (st := p.2) wd k hlt)
      generalize hr : goC d p.1 p.2 (wd.data.toList.take k) = r at *
      clear hr
      go_wp2_with fail
      refine (l02Step_c (fun b => D b ∨ w.heap.size ≤ b) g o d r (n + k) A' c' wd[k] _ ((HP.out.below HB1.out).mono fun _ h _ => .inl h) HS1.out HD.out HT.out (by omega) (HB.out k hlt)).mono ?_
      rintro e w1 ⟨A2, c2, rfl, hs2, hb2⟩
      have HS2 := Lib.hid hs2
      have HB2 := Lib.hid (HB1.out.trans (hb2.mono HB1.out.size))
      have HSZ := Lib.hid HB1.out.size
      clear hs2 hb2
      go_wp2_with fail
      go_roundg (wd.size - (k + 1))
      case measure => have := HZ.out; omega
      case rel =>
        refine ⟨k + 1, by omega, rfl, by go_num, ?_⟩
        rw [HG.out]
        refine ⟨rfl, ⟨A2, c2, rfl, HS2.out.mono ints_good fun b h _ => ?_⟩, stepC_at HD.out HT.out (HB.out k hlt), HB2.out⟩
        rcases h with h | h
        · exact h
        · exact .inr (Nat.le_trans HSZ.out h)
    · have HG := goC_all (d := d) (s := p.1) (st := p.2) wd k (by omega)
      rw [← HQ.out] at HG
      generalize goC d p.1 p.2 (wd.data.toList.take k) = r at *
      subst HG
      go_wp2_with fail
      go_ret2
      exact ⟨A', c', rfl, HS1.out, HB1.out⟩
end Go.Proofs.YtcagdmaiemmfgaaGreat
