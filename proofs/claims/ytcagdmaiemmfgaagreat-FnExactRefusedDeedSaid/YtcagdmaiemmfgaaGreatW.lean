/- Plain numbers: what the program's parcel leaves in the desk, sorted, is what the reference's leaves; no condition. -/
import Derived.Test.YtcagdmaiemmfgaaGreatU
namespace Go.Proofs.YtcagdmaiemmfgaaGreat

/-- The program's: each new number is put behind the others. -/
def app1 (read : Int) (ws : List Int) (k : Int) : List Int := if read ≤ k ∧ ws.contains k = false then ws ++ [k] else ws
def appN (read first : Int) (ws : List Int) : Nat → List Int
  | 0 => ws
  | n + 1 => app1 read (appN read first ws n) (first + n)
theorem putL_perm {ws : List Int} {n : Int} (h : n ∉ ws) : (putL ws n).Perm (ws ++ [n]) := by
  induction ws with
  | nil => exact List.Perm.refl _
  | cons x xs ih =>
    have hx : n ≠ x := fun e => h (by rw [e]; exact List.mem_cons_self ..)
    have hxs : n ∉ xs := fun e => h (List.mem_cons_of_mem _ e)
    unfold putL
    split
    · rw [if_pos (by omega)]
      exact (List.perm_append_comm (l₁ := [n]) (l₂ := x :: xs))
    · exact List.Perm.cons _ (ih hxs)
theorem contains_perm {a b : List Int} (h : a.Perm b) (k : Int) : a.contains k = b.contains k := by
  rw [List.contains_eq_mem, List.contains_eq_mem, Bool.eq_iff_iff, decide_eq_true_iff, decide_eq_true_iff]
  exact h.mem_iff
theorem appN_perm (read first : Int) (ws : List Int) (n : Nat) : (waitN read first ws n).Perm (appN read first ws n) := by
  induction n with
  | zero => exact List.Perm.refl _
  | succ n ih =>
    show (wait1 read (waitN read first ws n) (first + n)).Perm (app1 read (appN read first ws n) (first + n))
    unfold wait1 app1
    rw [contains_perm ih]
    split
    · next h =>
      have hn : (first + (n : Int)) ∉ waitN read first ws n := fun hm => by
        have := h.2
        rw [← contains_perm ih, List.contains_eq_mem] at this
        simp [hm] at this
      exact (putL_perm hn).trans (ih.append_right _)
    · exact ih
theorem sorted_unique {a b : List Int} (h : a.Perm b) (ha : a.Pairwise (· < ·)) (hb : b.Pairwise (· ≤ ·)) : b = a := by
  induction a generalizing b with
  | nil => exact List.Perm.eq_nil h.symm
  | cons x xs ih =>
    rw [List.pairwise_cons] at ha
    cases b with
    | nil => exact absurd h.symm (fun h => by have := h.length_eq; simp at this)
    | cons y ys =>
      rw [List.pairwise_cons] at hb
      have e : y = x := by
        have h1 : y ∈ x :: xs := h.mem_iff.2 (List.mem_cons_self ..)
        have h2 : x ∈ y :: ys := h.mem_iff.1 (List.mem_cons_self ..)
        rcases List.mem_cons.1 h1 with h1 | h1
        · exact h1
        · rcases List.mem_cons.1 h2 with h2 | h2
          · exact h2.symm
          · have := ha.1 y h1; have := hb.1 x h2; omega
      subst e
      rw [ih ((List.perm_cons _).1 h) ha.2 hb.2]
theorem appN_sorted {read first b : Int} {ws l : List Int} {n : Nat} (h : Rise read b ws) (hk : first + n ≤ b) (hp : l.Perm (appN read first ws n)) (hs : l.Pairwise (· ≤ ·)) : l = waitN read first ws n :=
  sorted_unique ((appN_perm read first ws n).trans hp.symm) (waitN_rise h hk).up hs
theorem appN_length (read first : Int) (ws : List Int) (n : Nat) : (appN read first ws n).length = (waitN read first ws n).length := (appN_perm read first ws n).length_eq.symm
end Go.Proofs.YtcagdmaiemmfgaaGreat
