/- The reference's putting of a number to its place; for all numbers. -/
import Derived.Test.YtcagdmaiemmfgaaGreatSf
namespace Go.Proofs.YtcagdmaiemmfgaaGreat
open Go.RowKit

theorem putL_length (xs : List Int) (n : Int) : (putL xs n).length ≤ xs.length + 1 := by
  induction xs with
  | nil => simp [putL]
  | cons x xs ih => unfold putL; split <;> (try split) <;> simp <;> omega
/-- What the loop has done: all of it, or copies alone. -/
def PutAt (xs : List Int) (n : Int) (k : Nat) (done : Bool) (out : List Int) : Prop :=
  if done then out ++ xs.drop k = putL xs n else out = xs.take k ∧ putL xs n = xs.take k ++ putL (xs.drop k) n
theorem PutAt.len {xs : List Int} {n : Int} {k : Nat} {done : Bool} {out : List Int} (h : PutAt xs n k done out) : out.length ≤ xs.length + 1 := by
  cases done
  · have := h.1
    subst this
    simp
    omega
  · have h1 := congrArg List.length h
    have h2 := putL_length xs n
    simp only [List.length_append] at h1
    omega
theorem PutAt.copy {xs : List Int} {n : Int} {k : Nat} {out : List Int} (h : PutAt xs n k true out) (hk : k < xs.length) : PutAt xs n (k + 1) true (out ++ [xs[k]]) := by
  have h1 : out ++ xs.drop k = putL xs n := h
  show (out ++ [xs[k]]) ++ xs.drop (k + 1) = putL xs n
  rw [← h1, List.drop_eq_getElem_cons hk, List.append_assoc]
  rfl
theorem PutAt.less {xs : List Int} {n : Int} {k : Nat} {out : List Int} (h : PutAt xs n k false out) (hk : k < xs.length) (hx : ¬ n ≤ xs[k]) : PutAt xs n (k + 1) false (out ++ [xs[k]]) := by
  obtain ⟨h1, h2⟩ := h
  refine ⟨by rw [h1, List.take_succ_eq_append_getElem hk], ?_⟩
  rw [h2, List.take_succ_eq_append_getElem hk, List.drop_eq_getElem_cons hk, putL, if_neg hx, List.append_assoc]
  rfl
theorem PutAt.same {xs : List Int} {n : Int} {k : Nat} {out : List Int} (h : PutAt xs n k false out) (hk : k < xs.length) (hx : n ≤ xs[k]) (hy : ¬ n < xs[k]) : PutAt xs n (k + 1) true (out ++ [xs[k]]) := by
  obtain ⟨h1, h2⟩ := h
  show (out ++ [xs[k]]) ++ xs.drop (k + 1) = putL xs n
  rw [h2, h1, List.drop_eq_getElem_cons hk, putL, if_pos hx, if_neg hy, List.append_assoc]
  rfl
theorem PutAt.put {xs : List Int} {n : Int} {k : Nat} {out : List Int} (h : PutAt xs n k false out) (hk : k < xs.length) (hy : n < xs[k]) : PutAt xs n (k + 1) true ((out ++ [n]) ++ [xs[k]]) := by
  obtain ⟨h1, h2⟩ := h
  show ((out ++ [n]) ++ [xs[k]]) ++ xs.drop (k + 1) = putL xs n
  rw [h2, h1, List.drop_eq_getElem_cons hk, putL, if_pos (by omega), if_pos hy]
  simp
theorem PutAt.last {xs : List Int} {n : Int} {k : Nat} {out : List Int} (h : PutAt xs n k false out) (hk : xs.length ≤ k) : out ++ [n] = putL xs n := by
  obtain ⟨h1, h2⟩ := h
  rw [h2, h1, List.drop_eq_nil_of_le hk]
  rfl
theorem PutAt.end_ {xs : List Int} {n : Int} {k : Nat} {out : List Int} (h : PutAt xs n k true out) (hk : xs.length ≤ k) : out = putL xs n := by
  have h1 : out ++ xs.drop k = putL xs n := h
  rw [← h1, List.drop_eq_nil_of_le hk, List.append_nil]
set_option maxHeartbeats 1000000 in
theorem l00Put_c (D : Dom) (A : Option Addr) (c : Nat) (xs : List Int) (n : Int) (w : World) (hs : Sl 1 (elInt .i64) D w A c xs) (hn : xs.length ≤ 1048576) :
    Calls Tryz.prog 229 #[.slice A xs.length c, .int .i64 n] w (RetOwn 2 w (putL xs n)) := by
  have HS := Lib.hid hs
  clear hs
  go_enter Tryz.func229, Tryz.ntmps229
  go_wp2_with fail
  go_loopg [5, 6, 7] xs.length (fun q v1 v2 v3 wr => ∃ (k : Nat) (done : Bool) (out : List Int), k ≤ xs.length ∧ q = xs.length - k ∧ v3 = .int .i64 k ∧ v2 = .bool done ∧ PutAt xs n k done out ∧ OwnI w.heap.size 2 wr v1 out ∧ Below w.heap.size w wr)
  case atStart => exact ⟨0, false, [], by omega, by omega, rfl, rfl, ⟨by simp, by simp⟩, OwnI.lit0 (Nat.le_refl _), bel1 _ _⟩
  case round =>
    obtain ⟨k, done, out, hk, hq, rfl, rfl, hput, hown, hbel⟩ := hrel
    have HQ := Lib.hid hq
    have HU := Lib.hid hput
    have HO := Lib.hid hown
    have HB := Lib.hid hbel
    have hlen := hput.len
    clear hq hput hown hbel
    by_cases hlt : k < xs.length
    · obtain ⟨b4, o4, rfl, h0⟩ := HS.out.at_ hlt
      simp only [elInt, Nat.mul_one] at h0
      have h1 := (HB.out.cell (p := ⟨b4, o4 + k, none⟩) (lt_of_cell h0)).trans h0
      have HX : Hid (∀ (done : Bool) (h : PutAt xs n k done out), (done = true → PutAt xs n (k + 1) true (out ++ [xs[k]])) ∧ (done = false → (¬ n ≤ xs[k] → PutAt xs n (k + 1) false (out ++ [xs[k]])) ∧ (n ≤ xs[k] → ¬ n < xs[k] → PutAt xs n (k + 1) true (out ++ [xs[k]])) ∧ (n < xs[k] → PutAt xs n (k + 1) true ((out ++ [n]) ++ [xs[k]])))) := Lib.hid fun done h =>
        ⟨fun hd => by subst hd; exact h.copy hlt, fun hd => by subst hd; exact ⟨h.less hlt, h.same hlt, h.put hlt⟩⟩
      generalize xs[k] = x at *
      cases done
      · by_cases hx : n ≤ x
        · by_cases hy : n < x
          · go_wp2_with (first | (at_builtin; refine wpList_app _ rfl (.tmp 31) (.tmp 33) 70 2 rfl Tryz.underlying70 info_i64 w.heap.size _ out rfl (HO.out.below (bel1 _ _)) (fun _ => True) _ 1 [n] rfl (lit1 lit_new) (by simp; omega) (Nat.le_trans HB.out.size (bel1 _ _).size) ?_; intro v1 w1 ho2 hg2 _; have HB1 := Lib.hid ((HO.out.below (bel1 _ _)).below_of (HB.out.trans ((bel1 _ _).mono HB.out.size)) (Nat.le_trans HB.out.size (bel1 _ _).size) hg2); have HO1 := Lib.hid ho2; have h3 := (HB1.out.cell (p := ⟨b4, o4 + k, none⟩) (lt_of_cell h0)).trans h0; clear ho2 hg2) | (at_builtin; refine wpList_app _ rfl (.tmp 35) (.tmp 40) 70 2 rfl Tryz.underlying70 info_i64 w.heap.size _ (out ++ [n]) rfl (HO1.out.below (bel1 _ _)) (fun _ => True) _ 1 [x] rfl (lit1 lit_new) (by simp; omega) (Nat.le_trans HB1.out.size (bel1 _ _).size) ?_; intro v2 w2 ho2 hg2 _; have HB2 := Lib.hid ((HO1.out.below (bel1 _ _)).below_of (HB1.out.trans ((bel1 _ _).mono HB1.out.size)) (Nat.le_trans HB1.out.size (bel1 _ _).size) hg2); have HO2 := Lib.hid ho2; clear ho2 hg2))
            have HR := (((HX.out _ HU.out).2 rfl).2.2 hy)
            go_roundg (xs.length - (k + 1))
            case measure => have := HQ.out; omega
            case rel => exact ⟨k + 1, true, _, by omega, rfl, by go_num, rfl, HR, HO2.out, HB2.out⟩
          · go_wp2_with (at_builtin; refine wpList_app _ rfl (.tmp 35) (.tmp 40) 70 2 rfl Tryz.underlying70 info_i64 w.heap.size _ out rfl (HO.out.below (bel1 _ _)) (fun _ => True) _ 1 [x] rfl (lit1 lit_new) (by simp; omega) (Nat.le_trans HB.out.size (bel1 _ _).size) ?_; intro v2 w2 ho2 hg2 _; have HB2 := Lib.hid ((HO.out.below (bel1 _ _)).below_of (HB.out.trans ((bel1 _ _).mono HB.out.size)) (Nat.le_trans HB.out.size (bel1 _ _).size) hg2); have HO2 := Lib.hid ho2; clear ho2 hg2)
            have HR := (((HX.out _ HU.out).2 rfl).2.1 hx hy)
            go_roundg (xs.length - (k + 1))
            case measure => have := HQ.out; omega
            case rel => exact ⟨k + 1, true, _, by omega, rfl, by go_num, rfl, HR, HO2.out, HB2.out⟩
        · go_wp2_with (at_builtin; refine wpList_app _ rfl (.tmp 35) (.tmp 40) 70 2 rfl Tryz.underlying70 info_i64 w.heap.size _ out rfl (HO.out.below (bel1 _ _)) (fun _ => True) _ 1 [x] rfl (lit1 lit_new) (by simp; omega) (Nat.le_trans HB.out.size (bel1 _ _).size) ?_; intro v2 w2 ho2 hg2 _; have HB2 := Lib.hid ((HO.out.below (bel1 _ _)).below_of (HB.out.trans ((bel1 _ _).mono HB.out.size)) (Nat.le_trans HB.out.size (bel1 _ _).size) hg2); have HO2 := Lib.hid ho2; clear ho2 hg2)
          have HR := (((HX.out _ HU.out).2 rfl).1 hx)
          go_roundg (xs.length - (k + 1))
          case measure => have := HQ.out; omega
          case rel => exact ⟨k + 1, false, _, by omega, rfl, by go_num, rfl, HR, HO2.out, HB2.out⟩
      · go_wp2_with (at_builtin; refine wpList_app _ rfl (.tmp 35) (.tmp 40) 70 2 rfl Tryz.underlying70 info_i64 w.heap.size _ out rfl (HO.out.below (bel1 _ _)) (fun _ => True) _ 1 [x] rfl (lit1 lit_new) (by simp; omega) (Nat.le_trans HB.out.size (bel1 _ _).size) ?_; intro v2 w2 ho2 hg2 _; have HB2 := Lib.hid ((HO.out.below (bel1 _ _)).below_of (HB.out.trans ((bel1 _ _).mono HB.out.size)) (Nat.le_trans HB.out.size (bel1 _ _).size) hg2); have HO2 := Lib.hid ho2; clear ho2 hg2)
        have HR := ((HX.out _ HU.out).1 rfl)
        go_roundg (xs.length - (k + 1))
        case measure => have := HQ.out; omega
        case rel => exact ⟨k + 1, true, _, by omega, rfl, by go_num, rfl, HR, HO2.out, HB2.out⟩
    · have HE : Hid (∀ (done : Bool) (h : PutAt xs n k done out), (done = true → out = putL xs n) ∧ (done = false → out ++ [n] = putL xs n)) := Lib.hid fun done h =>
        ⟨fun hd => by subst hd; exact h.end_ (by omega), fun hd => by subst hd; exact h.last (by omega)⟩
      cases done
      · go_wp2_with (at_builtin; refine wpList_app _ rfl (.tmp 44) (.tmp 46) 70 2 rfl Tryz.underlying70 info_i64 w.heap.size _ out rfl (HO.out.below (bel1 _ _)) (fun _ => True) _ 1 [n] rfl (lit1 lit_new) (by simp; omega) (Nat.le_trans HB.out.size (bel1 _ _).size) ?_; intro v2 w2 ho2 hg2 _; have HB2 := Lib.hid ((HO.out.below (bel1 _ _)).below_of (HB.out.trans ((bel1 _ _).mono HB.out.size)) (Nat.le_trans HB.out.size (bel1 _ _).size) hg2); have HO2 := Lib.hid ho2; clear ho2 hg2)
        go_ret
        exact ⟨_, rfl, (HE.out _ HU.out).2 rfl ▸ HO2.out, HB2.out⟩
      · go_wp2_with fail
        go_ret
        exact ⟨_, rfl, (HE.out _ HU.out).1 rfl ▸ HO.out, HB.out⟩
end Go.Proofs.YtcagdmaiemmfgaaGreat
