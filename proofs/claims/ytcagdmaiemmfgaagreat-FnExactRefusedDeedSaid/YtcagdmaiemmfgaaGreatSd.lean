/- The reference's test of a stream answers what the plain test answers; for all streams. -/
import Derived.Test.YtcagdmaiemmfgaaGreatSc
namespace Go.Proofs.YtcagdmaiemmfgaaGreat
open Go.RowKit

theorem whole_take (p : List ByteArray) (k : Nat) (h : k < p.length) : whole (p.take (k + 1)) = whole (p.take k) ++ p[k] := by
  apply ByteArray.ext
  rw [ByteArray.data_append]
  show (wholeL (p.take (k + 1))).toArray = (wholeL (p.take k)).toArray ++ p[k].data
  unfold wholeL
  rw [List.take_succ_eq_append_getElem h, List.flatMap_append]
  simp
theorem whole_le (p : List ByteArray) (h : ∀ s ∈ p, s.size ≤ 60) : (whole p).size ≤ 60 * p.length := by
  rw [whole_size]
  induction p with
  | nil => simp
  | cons x xs ih =>
    have h1 := h x (List.mem_cons_self ..)
    have h2 := ih fun s hs => h s (List.mem_cons_of_mem _ hs)
    simp only [List.map_cons, List.sum_cons, List.length_cons]
    omega
set_option maxHeartbeats 400000 in
theorem l08Whole_c (D : Dom) (A : Option Addr) (c : Nat) (p : List ByteArray) (w : World) (hs : Sl 1 elStr D w A c p) (hn : p.length ≤ 20) (hz : ∀ s ∈ p, s.size ≤ 60) :
    Calls Tryz.prog 201 #[.slice A p.length c] w fun e w' => e = .returned (.string (whole p)) ∧ w = w' := by
  have HS := Lib.hid hs
  have HZ := Lib.hid hz
  clear hs hz
  go_enter Tryz.func201, Tryz.ntmps201
  go_wp2_with fail
  go_loopg [3, 4] p.length (fun q v1 v2 wr => ∃ k : Nat, k ≤ p.length ∧ q = p.length - k ∧ v2 = .int .i64 k ∧ v1 = .string (whole (p.take k)) ∧ wr = w)
  case atStart => exact ⟨0, by omega, by omega, rfl, rfl, rfl⟩
  case round =>
    obtain ⟨k, hk, hq, rfl, rfl, rfl⟩ := hrel
    have HQ := Lib.hid hq
    clear hq
    by_cases hlt : k < p.length
    · obtain ⟨b, o, rfl, h1, h2⟩ := HS.out.at_ hlt
      simp only [Nat.mul_one] at h1
      have HT := Lib.hid (whole_take p k hlt)
      have h3 := whole_le (p.take k) fun s hs => HZ.out s (List.mem_of_mem_take hs)
      have h4 := HZ.out p[k] (List.getElem_mem hlt)
      have h5 : (p.take k).length ≤ 20 := by simp; omega
      generalize whole (p.take k) = r at *
      generalize hx : p[k] = x at *
      clear hx
      have h6 : r.size ≤ 1200 := by omega
      clear h5 h3
      go_wp2_with fail
      go_roundg (p.length - (k + 1))
      case measure => have := HQ.out; omega
      case rel => exact ⟨k + 1, by omega, rfl, by go_num, by rw [HT.out], rfl⟩
    · have hl : whole (p.take k) = whole p := by rw [List.take_of_length_le (by omega)]
      rw [hl]
      have HL := Lib.hid hl
      clear hl
      go_wp2_with fail
      go_ret
      exact ⟨rfl, rfl⟩
/-- A stream behind a pointer. -/
def StrPtr (D : Dom) (w : World) (b o : Nat) (d : Chk) (p : List ByteArray) : Prop :=
  ChkPtr D w b o d ∧ ∃ A c, w.cell? ⟨b, o + 6, none⟩ = some (.slice A p.length c) ∧ Sl 1 elStr D w A c p
theorem StrPtr.below {D : Dom} {w w' : World} {b o : Nat} {d : Chk} {p : List ByteArray} (h : StrPtr D w b o d p) (hb : Below w.heap.size w w') : StrPtr D w' b o d p := by
  obtain ⟨h1, A, c, h2, h3⟩ := h
  exact ⟨h1.below hb, A, c, ((bcell hb (Nat.le_refl _)).1 _ _ (lt_of_cell h2)).trans h2, h3.below elStr_good hb⟩
theorem StrPtr.mono {D D' : Dom} {w : World} {b o : Nat} {d : Chk} {p : List ByteArray} (h : StrPtr D w b o d p) (hd : ∀ k, D k → k < w.heap.size → D' k) : StrPtr D' w b o d p := by
  obtain ⟨h1, A, c, h2, h3⟩ := h
  exact ⟨h1.mono hd, A, c, h2, h3.mono elStr_good hd⟩
theorem okWord_le {s : ByteArray} (h : okWord s = true) : s.size ≤ 60 := by
  unfold okWord at h
  simp only [Bool.and_eq_true, decide_eq_true_eq] at h
  exact h.2
set_option maxHeartbeats 400000 in
theorem l08Ok_c (D : Dom) (b o : Nat) (d : Chk) (p : List ByteArray) (w : World) (hp : StrPtr D w b o d p) : Calls Tryz.prog 164 #[.pointer (some ⟨b, o, none⟩)] w fun e w' => e = .returned (.bool (okStream d p)) ∧ Below w.heap.size w w' := by
  have H := Lib.hid hp
  obtain ⟨hc, A, c, h6, hs⟩ := hp
  have lp := hs.le
  have HC := Lib.hid hc
  clear hc hs
  cases hk : okChk d
  · go_enter Tryz.func164, Tryz.ntmps164
    go_wp2_with (go_at_call 56; refine (l02Ok_c D b o d _ HC.out).mono ?_; rintro e w1 ⟨rfl, hb⟩; have HB := Lib.hid hb; clear hb)
    go_ret
    exact ⟨ret_b (by rw [okStream, hk]; rfl), HB.out⟩
  cases hr : inB 1 20 (p.length : Int)
  · go_enter Tryz.func164, Tryz.ntmps164
    go_wp2_with (first | (go_at_call 56; refine (l02Ok_c D b o d _ HC.out).mono ?_; rintro e w1 ⟨rfl, hb⟩; have HB := Lib.hid hb; have k6 := ((bcell hb (Nat.le_refl _)).1 _ _ (lt_of_cell h6)).trans h6; clear hb) | (go_at_call 126; refine (l00In_f hr _).mono ?_; rintro e w' ⟨rfl, rfl⟩))
    go_ret
    exact ⟨ret_b (by rw [okStream, hk, hr]; rfl), HB.out⟩
  obtain ⟨n1, n2⟩ := inB_iff.1 hr
  go_enter Tryz.func164, Tryz.ntmps164
  go_wp2_with (first | (go_at_call 56; refine (l02Ok_c D b o d _ HC.out).mono ?_; rintro e w1 ⟨rfl, hb⟩; have HB := Lib.hid hb; have k6 := ((bcell hb (Nat.le_refl _)).1 _ _ (lt_of_cell h6)).trans h6; have HH := Lib.hid (H.out.below hb); clear hb h6 H) | (go_at_call 126; refine (l00In_t hr _).mono ?_; rintro e w' ⟨rfl, rfl⟩))
  have HK := Lib.hid hk
  have HR := Lib.hid hr
  have HS : Hid (Sl 1 elStr D w1 A c p) := Lib.hid (by
    obtain ⟨_, A', c', h2, h3⟩ := HH.out
    rw [k6] at h2
    injection h2 with h2
    injection h2 with e1 e2 e3
    subst e1
    subst e3
    exact h3)
  clear hk hr HC
  go_loopg [3] p.length (fun q v wr => ∃ k : Nat, k ≤ p.length ∧ q = p.length - k ∧ v = .int .i64 k ∧ (p.take k).all okWord = true ∧ wr = w1)
  case atStart => exact ⟨0, by omega, by omega, rfl, rfl, rfl⟩
  case round =>
    obtain ⟨k, hk, hq, rfl, hall, rfl⟩ := hrel
    have HQ := Lib.hid hq
    have HA := Lib.hid hall
    clear hq hall
    by_cases hlt : k < p.length
    · obtain ⟨b4, o4, rfl, h1, h2⟩ := HS.out.at_ hlt
      simp only [Nat.mul_one] at h1
      have h3 : (p[k]).size ≤ 9223372036854775807 := by unfold maxLen at h2; omega
      have HT := Lib.hid (all_take_succ okWord p k hlt)
      have HF : Hid (okWord p[k] = false → p.all okWord = false) := Lib.hid fun h => all_of_false okWord p k hlt h
      generalize p[k] = x at *
      cases ho : okWord x
      · have HO := Lib.hid (HF.out ho)
        go_wp2_with (go_at_call 187; refine (l01Ok_c x _ h3).mono ?_; rintro e w' ⟨rfl, rfl⟩; rw [ho])
        go_ret
        exact ⟨ret_b (by rw [okStream, HK.out, HR.out, HO.out]; rfl), HB.out⟩
      · go_wp2_with (go_at_call 187; refine (l01Ok_c x _ h3).mono ?_; rintro e w' ⟨rfl, rfl⟩; rw [ho])
        go_roundg (p.length - (k + 1))
        case measure => have := HQ.out; omega
        case rel => exact ⟨k + 1, by omega, rfl, by go_num, by rw [HT.out, HA.out, ho]; rfl, rfl⟩
    · have hall2 : p.all okWord = true := all_of_take okWord p k (by omega) HA.out
      have HL := Lib.hid hall2
      have hz : ∀ s ∈ p, s.size ≤ 60 := fun s hs => okWord_le ((List.all_eq_true.1 hall2) s hs)
      have hw := whole_le p hz
      have HZ := Lib.hid hz
      clear hall2 hz
      go_wp2_with (first | (go_at_call 201; refine (l08Whole_c D A c p _ HS.out (by omega) HZ.out).mono ?_; rintro e w' ⟨rfl, rfl⟩) | (go_at_call 187; refine (l01Ok_c (whole p) _ (by omega)).mono ?_; rintro e w' ⟨rfl, rfl⟩))
      go_ret
      exact ⟨ret_b (by rw [okStream, HK.out, HR.out, HL.out]; rfl), HB.out⟩
end Go.Proofs.YtcagdmaiemmfgaaGreat
