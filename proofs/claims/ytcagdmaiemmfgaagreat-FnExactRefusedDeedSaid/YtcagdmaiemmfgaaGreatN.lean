/- Plain functions, the run: a symbol, a word, and what a valid checker gives; no condition. -/
import Derived.Test.YtcagdmaiemmfgaaGreatM
namespace Go.Proofs.YtcagdmaiemmfgaaGreat

/-- What validity gives. -/
structure Dim (d : Chk) : Prop where
  n1 : 1 ≤ d.acc.length
  n2 : d.acc.length ≤ 40
  m1 : 1 ≤ d.stack
  m2 : d.stack ≤ 80
  st0 : 0 ≤ d.start
  st1 : d.start < d.acc.length
  call : d.call.length = d.acc.length
  ret : d.ret.length = d.acc.length
  inn : d.inn.length = d.acc.length
  callS : ∀ s, s < d.acc.length → (d.call.getD s []).length = 2
  retS : ∀ s, s < d.acc.length → (d.ret.getD s []).length = 2
  innS : ∀ s, s < d.acc.length → (d.inn.getD s []).length = 2
  innV : ∀ s k, s < d.acc.length → k < 2 → 0 ≤ (d.inn.getD s []).getD k 0 ∧ (d.inn.getD s []).getD k 0 < d.acc.length
  toV : ∀ s k, s < d.acc.length → k < 2 → 0 ≤ ((d.call.getD s []).getD k ⟨0, 0⟩).to ∧ ((d.call.getD s []).getD k ⟨0, 0⟩).to < d.acc.length
  putV : ∀ s k, s < d.acc.length → k < 2 → 0 ≤ ((d.call.getD s []).getD k ⟨0, 0⟩).put ∧ ((d.call.getD s []).getD k ⟨0, 0⟩).put < d.stack
  retK : ∀ s k, s < d.acc.length → k < 2 → (((d.ret.getD s []).getD k []).length : Int) = d.stack + 1
  retV : ∀ (s k j : Nat), s < d.acc.length → k < 2 → (j : Int) < d.stack + 1 → 0 ≤ ((d.ret.getD s []).getD k []).getD j 0 ∧ ((d.ret.getD s []).getD k []).getD j 0 < d.acc.length
theorem okList_iff {xs : List Int} {len n : Int} : okList xs len n = true ↔ (xs.length : Int) = len ∧ ∀ j, j < xs.length → 0 ≤ xs.getD j 0 ∧ xs.getD j 0 < n := by
  unfold okList
  rw [Bool.and_eq_true, decide_eq_true_eq, List.all_eq_true]
  constructor
  · rintro ⟨h1, h2⟩
    refine ⟨h1, fun j hj => ?_⟩
    have h3 := inB_iff.1 (h2 xs[j] (List.getElem_mem hj))
    rw [List.getD_eq_getElem?_getD, List.getElem?_eq_getElem hj, Option.getD_some]
    omega
  · rintro ⟨h1, h2⟩
    refine ⟨h1, fun x hx => ?_⟩
    obtain ⟨j, hj, rfl⟩ := List.getElem_of_mem hx
    have h3 := h2 j hj
    rw [List.getD_eq_getElem?_getD, List.getElem?_eq_getElem hj, Option.getD_some] at h3
    exact inB_iff.2 ⟨h3.1, by omega⟩
theorem dim_of_ok {d : Chk} (h : okChk d = true) : Dim d := by
  unfold okChk at h
  rw [Bool.and_eq_true, List.all_eq_true] at h
  obtain ⟨ht, hs⟩ := h
  simp only [okTop, Bool.and_eq_true, decide_eq_true_eq, inB_iff] at ht
  obtain ⟨⟨⟨⟨⟨t0, t1⟩, t2⟩, t3⟩, t4⟩, t5⟩ := ht
  have hS : ∀ s, s < d.acc.length → okS d s = true := fun s h => hs s (List.mem_range.2 h)
  have hS2 : ∀ s, s < d.acc.length → ((d.call.getD s []).length = 2 ∧ (d.ret.getD s []).length = 2) ∧ okList (d.inn.getD s []) 2 d.acc.length = true ∧ ∀ k, k < 2 → okK d s k = true := by
    intro s h
    have := hS s h
    unfold okS at this
    rw [Bool.and_eq_true, Bool.and_eq_true, Bool.and_eq_true, decide_eq_true_eq, decide_eq_true_eq, List.all_eq_true] at this
    exact ⟨this.1.1, this.1.2, fun k hk => this.2 k (List.mem_range.2 hk)⟩
  have hK : ∀ s k, s < d.acc.length → k < 2 → (0 ≤ ((d.call.getD s []).getD k ⟨0, 0⟩).to ∧ ((d.call.getD s []).getD k ⟨0, 0⟩).to ≤ d.acc.length - 1) ∧ (0 ≤ ((d.call.getD s []).getD k ⟨0, 0⟩).put ∧ ((d.call.getD s []).getD k ⟨0, 0⟩).put ≤ d.stack - 1) ∧ okList ((d.ret.getD s []).getD k []) (d.stack + 1) d.acc.length = true := by
    intro s k h1 h2
    have := (hS2 s h1).2.2 k h2
    unfold okK at this
    rw [Bool.and_eq_true, Bool.and_eq_true, inB_iff, inB_iff] at this
    exact ⟨this.1.1, this.1.2, this.2⟩
  refine ⟨by omega, by omega, by omega, by omega, by omega, by omega, t3, t4, t5, fun s h => (hS2 s h).1.1, fun s h => (hS2 s h).1.2, fun s h => ?_, fun s k h1 h2 => ?_, fun s k h1 h2 => ?_, fun s k h1 h2 => ?_, fun s k h1 h2 => ?_, fun s k j h1 h2 h3 => ?_⟩
  · have := (okList_iff.1 (hS2 s h).2.1).1
    omega
  · have h3 := okList_iff.1 (hS2 s h1).2.1
    exact h3.2 k (by omega)
  · have := (hK s k h1 h2).1; omega
  · have := (hK s k h1 h2).2.1; omega
  · exact (okList_iff.1 (hK s k h1 h2).2.2).1
  · have h4 := okList_iff.1 (hK s k h1 h2).2.2
    exact h4.2 j (by omega)
def Marks (d : Chk) (st : List Int) : Prop := ∀ m ∈ st, 0 ≤ m ∧ m < d.stack
end Go.Proofs.YtcagdmaiemmfgaaGreat
