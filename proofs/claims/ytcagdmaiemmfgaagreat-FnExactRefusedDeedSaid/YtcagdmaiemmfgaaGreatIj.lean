/- The library's sort on an array of the call's own, from anywhere on; for all lists of numbers. -/
import Derived.Test.YtcagdmaiemmfgaaGreatIi
import Derived.Sort.OwnSortedInts
namespace Go.Proofs.YtcagdmaiemmfgaaGreat
open Go.RowKit

theorem grown_sorted {w : World} {b off n : Nat} {os : Array Obj} (d : Array Int) : w.grownBy (Sort.grow (Sort.putRow (Value.int .i64) (Sort.ahead w n) b off d) os) (some b) := by
  refine ⟨rfl, rfl, rfl, ?_, fun k hk hne => ?_⟩
  · simp
  · rw [Sort.heap_grow_old _ _ (by simpa using hk)]
    show ((Sort.ahead w n).heap.modify b _)[k]? = _
    rw [Array.getElem?_modify, if_neg (fun e => hne (by rw [e]))]
    rfl
/-- A sorted list is handed back in its place. -/
def RetSort (D : Dom) (w : World) (A : Option Addr) (c : Nat) (xs : List Int) (e : Ending) (w' : World) : Prop :=
  e = .returned (.tuple #[]) ∧ ∃ l : List Int, l.Perm xs ∧ l.Pairwise (· ≤ ·) ∧ OwnSl 1 (elInt .i64) D w' A c l ∧ w.grownBy w' (ownB A c)
theorem sort_c (D : Dom) (A : Option Addr) (c : Nat) (xs : List Int) (w : World) (h : OwnSl 1 (elInt .i64) D w A c xs) (hn : xs.length ≤ 1048576) :
    Calls Tryz.prog 209 #[.slice A xs.length c] w (RetSort D w A c xs) := by
  rcases Nat.eq_zero_or_pos xs.length with h0 | h0
  · have hx : xs = [] := List.eq_nil_of_length_eq_zero h0
    subst hx
    refine (AnyM.slices_Sort_int_none Tryz.laysSort A c w).mono fun e w' ⟨he, hw⟩ => ?_
    subst hw
    exact ⟨he, [], List.Perm.refl _, List.Pairwise.nil, h, World.grownBy.refl _ _⟩
  · have hc : 0 < c := by have := h.le; omega
    obtain ⟨b, off, rfl, hb, hD, he, hf⟩ := h.at_ hc
    have hle := h.le
    have hcell : ∀ j (hj : j < xs.length), w.cell? ⟨b, off + j, none⟩ = some (.int .i64 xs[j]) := fun j hj => by
      have := he j xs[j] (List.getElem?_eq_getElem hj)
      rwa [Nat.mul_one] at this
    have hH : Sort.Holds (Value.int .i64) w b off xs.toArray := fun j hj => by
      have hj2 : j < xs.length := by simpa using hj
      refine ⟨?_, (hf j (by omega)).2⟩
      rw [hcell j hj2, getElem!_pos xs.toArray j hj]
      rfl
    refine (AnyM.slices_Sort_int Tryz.laysSort b off c xs w hH hb (by omega)).mono fun e w' ⟨he2, n, os, hw⟩ => ?_
    subst hw
    have hl : (xs.mergeSort fun x y => decide (x ≤ y)).length = xs.length := List.length_mergeSort _
    have hg := grown_sorted (w := w) (b := b) (off := off) (n := n) (os := os) (xs.mergeSort fun x y => decide (x ≤ y)).toArray
    have hz : b < (Sort.putRow (Value.int .i64) (Sort.ahead w n) b off (xs.mergeSort fun x y => decide (x ≤ y)).toArray).heap.size := by simpa using hb
    refine ⟨he2, xs.mergeSort fun x y => decide (x ≤ y), List.mergeSort_perm _ _, ?_, ⟨by rw [hl]; exact h.le, h.max, fun _ => ⟨b, off, rfl, Nat.lt_of_lt_of_le hb hg.size, hD, fun i x hx => ?_, fun j hj => ?_⟩⟩, by rw [ownB_some hc]; exact hg⟩
    · have := List.pairwise_mergeSort (le := fun x y : Int => decide (x ≤ y)) (fun a b c h1 h2 => by simp at h1 h2 ⊢; omega) (fun a b => by simp; omega) xs
      exact this.imp fun h => by simpa using h
    · have hi : i < (xs.mergeSort fun x y => decide (x ≤ y)).length := (List.getElem?_eq_some_iff.1 hx).1
      show World.cell? _ ⟨b, off + i * 1, none⟩ = _
      rw [Nat.mul_one, Sort.cell?_grow _ _ _ hz, Sort.cell?_putRow (Value.int .i64) _ b off xs.toArray _ (Sort.holds_ahead _ _ _ _ _ _ hH) (by simp) i (by simpa using hi)]
      rw [getElem!_pos _ i (by simpa using hi)]
      rw [List.getElem?_eq_getElem hi] at hx
      simpa using hx
    · refine ⟨?_, ?_⟩
      · rw [Sort.cell?_grow _ _ _ hz]
        by_cases hin : j < xs.length
        · rw [Sort.cell?_putRow (Value.int .i64) _ b off xs.toArray _ (Sort.holds_ahead _ _ _ _ _ _ hH) (by simp) j (by simp [hl]; exact hin)]
          rfl
        · rw [Sort.cell?_putRow_other _ _ _ _ _ _ (.inr (.inr (by simp [hl]; omega)))]
          exact (hf j hj).1
      · rw [Sort.frozen?_grow _ _ _ hz, Sort.frozen?_putRow]
        exact (hf j hj).2
end Go.Proofs.YtcagdmaiemmfgaaGreat
