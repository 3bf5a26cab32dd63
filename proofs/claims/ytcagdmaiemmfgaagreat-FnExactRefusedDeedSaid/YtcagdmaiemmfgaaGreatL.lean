/- Statements whose order Go leaves open, with late stores: a load may be taken first although an operation that waits for it writes its cell; no condition. -/
import Derived.Test.YtcagdmaiemmfgaaGreatQ
import Derived.OrdersHeld
import Derived.Deep.RegionHeld3
namespace Go.Proofs.YtcagdmaiemmfgaaGreat
open Go.RowKit

def lateL (T : List Nat) (listed : Array Bool) : Bool := T.any fun t => listed.getD t true
def waitsL (md : Region.Mode) (ops : Array Oper) (T : List Nat) (i : Nat) : Bool :=
  T.all fun t => t != i && match ops[t]? with
    | some o => o.after.any fun e => Region.binds md e && e.on == i
    | none => false
section
variable {P : Program} {ops : Array Oper} {Q : Exit → Act → World → Prop} {md : Region.Mode} {T : List Nat} {S : World → Prop}
/-- Whatever order is picked from here on; S holds behind each operation as long as no late one has come up. -/
def anyL (P : Program) (md : Region.Mode) (ops : Array Oper) (T : List Nat) (Q : Exit → Act → World → Prop) (S : World → Prop) : Nat → Array Bool → Act → World → Prop
  | 0, listed, a, w => Region.ready md ops listed = [] ∧ Q .normal a w
  | fuel + 1, listed, a, w => (Region.ready md ops listed = [] → Q .normal a w) ∧
    ∀ i ∈ Region.ready md ops listed, wpOp P ops Q i (fun a' w' => (lateL T (listed.setIfInBounds i true) = false → S w') ∧ anyL P md ops T Q S fuel (listed.setIfInBounds i true) a' w') a w
theorem any_of_L : ∀ (fuel : Nat) (listed : Array Bool) (a : Act) (w : World), anyL P md ops T Q S fuel listed a w → wpAny P md ops Q fuel listed a w
  | 0, _, _, _, h => h
  | fuel + 1, _, _, _, h => ⟨h.1, fun i hi => wpOp_mono (fun a' w' h' => any_of_L fuel _ a' w' h'.2) (h.2 i hi)⟩
theorem late_set {i : Nat} {listed : Array Bool} (h : lateL T listed = false) (hi : i ∉ T) : lateL T (listed.setIfInBounds i true) = false := by
  unfold lateL at *
  rw [List.any_eq_false] at *
  intro t ht
  rw [getD_set_ne true (fun e : i = t => hi (by rw [e]; exact ht))]
  exact h t ht
theorem anyL_first {i : Nat} {oi : Oper} {v : Value} (hi : ops[i]? = some oi) (hsel : ∀ (j : Nat) (o : Oper) cs b, ops[j]? = some o → o.op ≠ .select cs b)
    (hQ : ∀ c a w, Q (.panic c) (a.put oi.dst v) w → Q (.panic c) a w) (hT : ∀ t ∈ T, t ≠ i ∧ ∃ o, ops[t]? = some o ∧ ∃ e ∈ o.after, Region.binds md e = true ∧ e.on = i) :
    ∀ (fuel : Nat) (listed : Array Bool) (a : Act) (w : World),
      (∀ j oj, ops[j]? = some oj → j ≠ i → listed.getD j true = false → (∀ e ∈ oj.after, Region.binds md e = true → e.on ≠ i) → oi.apart ops oj = true) →
      i ∈ Region.ready md ops listed → lateL T listed = false → YieldsIf P ops S oi v a → S w →
      anyL P md ops T Q S fuel (listed.setIfInBounds i true) (a.put oi.dst v) w → anyL P md ops T Q S (fuel + 1) listed a w := by
  have hiT : i ∉ T := fun h => (hT i h).1 rfl
  intro fuel
  induction fuel with
  | zero =>
    intro listed a w _ hr hl hy hS H
    refine ⟨fun h => (by rw [h] at hr; cases hr), fun j hj => ?_⟩
    by_cases hji : j = i
    · subst hji; exact hy.wpOp hi hS ⟨fun _ => hS, H⟩
    · have := ready_mono hj hji
      rw [H.1] at this
      cases this
  | succ fuel ih =>
    intro listed a w hfree hr hl hy hS H
    refine ⟨fun h => (by rw [h] at hr; cases hr), fun j hj => ?_⟩
    by_cases hji : j = i
    · subst hji; exact hy.wpOp hi hS ⟨fun _ => hS, H⟩
    · have h1 := H.2 j (ready_mono hj hji)
      obtain ⟨hjun, oj, hoj, hall⟩ := mem_ready.1 hj
      have hnot : ∀ e ∈ oj.after, Region.binds md e = true → e.on ≠ i := fun e he hb heq => by
        have h1 := hall e he hb
        have h0 := (mem_ready.1 hr).1
        rw [heq] at h1
        rcases Nat.lt_or_ge i listed.size with h' | h'
        · simp [h'] at h0 h1; rw [h0] at h1; cases h1
        · simp [Array.getElem?_eq_none h'] at h1
      have hjT : j ∉ T := fun h => by
        obtain ⟨_, o, ho, e, he, hb, hon⟩ := hT j h
        rw [hoj] at ho
        cases ho
        exact hnot e he hb hon
      have hl2 := late_set hl hjT
      have h2 := wpOp_putIf hoj (hfree j oj hoj hji hjun hnot) (fun cs b => hsel i oi cs b hi) (fun cs b => hsel j oj cs b hoj) hQ hy h1
      have hfree' : ∀ k ok, ops[k]? = some ok → k ≠ i → (listed.setIfInBounds j true).getD k true = false →
          (∀ e ∈ ok.after, Region.binds md e = true → e.on ≠ i) → oi.apart ops ok = true := fun k ok hk hki hun hno => by
        refine hfree k ok hk hki ?_ hno
        by_cases hjk : j = k
        · subst hjk; exact hjun
        · rw [getD_set_ne true hjk] at hun; exact hun
      refine wpOp_mono (fun a' w' h3 => ?_) h2
      obtain ⟨h3, h4, h5⟩ := h3
      have hS' : S w' := h4 (by rw [Array.setIfInBounds_comm _ _ (Ne.symm hji)]; exact late_set hl2 hiT)
      refine ⟨fun _ => hS', ih (listed.setIfInBounds j true) a' w' hfree' (ready_mono hr (Ne.symm hji)) hl2 h3 hS' ?_⟩
      rw [Array.setIfInBounds_comm _ _ hji]
      exact h5
/-- Take number i first. -/
theorem anyL_take {i : Nat} {oi : Oper} {v : Value} {fuel : Nat} {listed : Array Bool} {a : Act} {w : World} (hi : ops[i]? = some oi)
    (hs : Region.noSelect ops = true) (hf : Region.free md ops listed i = true) (hr : (Region.ready md ops listed).contains i = true) (hT : waitsL md ops T i = true) (hl : lateL T listed = false)
    (hQ : ∀ c a w, Q (.panic c) (a.put oi.dst v) w → Q (.panic c) a w) (hy : YieldsIf P ops S oi v a) (hS : S w)
    (h : anyL P md ops T Q S fuel (listed.setIfInBounds i true) (a.put oi.dst v) w) : anyL P md ops T Q S (fuel + 1) listed a w :=
  anyL_first hi (Region.noSelect_spec hs) hQ (fun t ht => by
    unfold waitsL at hT
    have h1 := List.all_eq_true.1 hT t ht
    rw [Bool.and_eq_true, bne_iff_ne] at h1
    refine ⟨h1.1, ?_⟩
    cases ho : ops[t]? with
    | none => rw [ho] at h1; exact absurd h1.2 (by simp)
    | some o =>
      rw [ho] at h1
      obtain ⟨e, he, h2⟩ := Array.any_eq_true'.1 h1.2
      rw [Bool.and_eq_true, beq_iff_eq] at h2
      exact ⟨o, rfl, e, he, h2⟩) fuel listed a w (Region.free_spec hi hf) (by simpa using hr) hl hy hS h
/-- The same for what yields in every world: nothing is asked of the late ones. -/
theorem anyL_first0 {i : Nat} {oi : Oper} {v : Value} (hi : ops[i]? = some oi) (hsel : ∀ (j : Nat) (o : Oper) cs b, ops[j]? = some o → o.op ≠ .select cs b)
    (hQ : ∀ c a w, Q (.panic c) (a.put oi.dst v) w → Q (.panic c) a w) (hiT : i ∉ T) :
    ∀ (fuel : Nat) (listed : Array Bool) (a : Act) (w : World),
      (∀ j oj, ops[j]? = some oj → j ≠ i → listed.getD j true = false → (∀ e ∈ oj.after, Region.binds md e = true → e.on ≠ i) → oi.apart ops oj = true) →
      i ∈ Region.ready md ops listed → Yields P ops oi v a → (lateL T listed = false → S w) →
      anyL P md ops T Q S fuel (listed.setIfInBounds i true) (a.put oi.dst v) w → anyL P md ops T Q S (fuel + 1) listed a w := by
  intro fuel
  have hback : ∀ listed : Array Bool, lateL T (listed.setIfInBounds i true) = false → lateL T listed = false := fun listed h => by
    unfold lateL at *
    rw [List.any_eq_false] at *
    intro t ht
    have := h t ht
    rw [getD_set_ne true (fun e : i = t => hiT (by rw [e]; exact ht))] at this
    exact this
  induction fuel with
  | zero =>
    intro listed a w _ hr hy hS H
    refine ⟨fun h => (by rw [h] at hr; cases hr), fun j hj => ?_⟩
    by_cases hji : j = i
    · subst hji; exact hy.wpOp hi ⟨fun h => hS (hback _ h), H⟩
    · have := ready_mono hj hji
      rw [H.1] at this
      cases this
  | succ fuel ih =>
    intro listed a w hfree hr hy hS H
    refine ⟨fun h => (by rw [h] at hr; cases hr), fun j hj => ?_⟩
    by_cases hji : j = i
    · subst hji; exact hy.wpOp hi ⟨fun h => hS (hback _ h), H⟩
    · have h1 := H.2 j (ready_mono hj hji)
      obtain ⟨hjun, oj, hoj, hall⟩ := mem_ready.1 hj
      have hnot : ∀ e ∈ oj.after, Region.binds md e = true → e.on ≠ i := fun e he hb heq => by
        have h1 := hall e he hb
        have h0 := (mem_ready.1 hr).1
        rw [heq] at h1
        rcases Nat.lt_or_ge i listed.size with h' | h'
        · simp [h'] at h0 h1; rw [h0] at h1; cases h1
        · simp [Array.getElem?_eq_none h'] at h1
      have h2 := wpOp_put hoj (hfree j oj hoj hji hjun hnot) (fun cs b => hsel i oi cs b hi) (fun cs b => hsel j oj cs b hoj) hQ hy h1
      have hfree' : ∀ k ok, ops[k]? = some ok → k ≠ i → (listed.setIfInBounds j true).getD k true = false →
          (∀ e ∈ ok.after, Region.binds md e = true → e.on ≠ i) → oi.apart ops ok = true := fun k ok hk hki hun hno => by
        refine hfree k ok hk hki ?_ hno
        by_cases hjk : j = k
        · subst hjk; exact hjun
        · rw [getD_set_ne true hjk] at hun; exact hun
      refine wpOp_mono (fun a' w' h3 => ?_) h2
      obtain ⟨h3, h4, h5⟩ := h3
      have hS' : lateL T (listed.setIfInBounds j true) = false → S w' := fun h => h4 (by
        rw [Array.setIfInBounds_comm _ _ (Ne.symm hji)]
        exact late_set h hiT)
      refine ⟨hS', ih (listed.setIfInBounds j true) a' w' hfree' (ready_mono hr (Ne.symm hji)) h3 hS' ?_⟩
      rw [Array.setIfInBounds_comm _ _ hji]
      exact h5
/-- Take number i first, which yields in every world. -/
theorem anyL_take0 {i : Nat} {oi : Oper} {v : Value} {fuel : Nat} {listed : Array Bool} {a : Act} {w : World} (hi : ops[i]? = some oi)
    (hs : Region.noSelect ops = true) (hf : Region.free md ops listed i = true) (hr : (Region.ready md ops listed).contains i = true) (hT : T.contains i = false)
    (hQ : ∀ c a w, Q (.panic c) (a.put oi.dst v) w → Q (.panic c) a w) (hy : Yields P ops oi v a) (hS : lateL T listed = true ∨ S w)
    (h : anyL P md ops T Q S fuel (listed.setIfInBounds i true) (a.put oi.dst v) w) : anyL P md ops T Q S (fuel + 1) listed a w :=
  anyL_first0 hi (Region.noSelect_spec hs) hQ (fun h => by simp [h] at hT) fuel listed a w (Region.free_spec hi hf) (by simpa using hr) hy (fun h => hS.elim (fun h' => by rw [h] at h'; cases h') id) h
/-- One alone may come up. -/
theorem anyL_one {i : Nat} {o : Oper} {fuel : Nat} {listed : Array Bool} {a : Act} {w : World} (hr : Region.ready md ops listed = [i]) (hi : ops[i]? = some o) (hw : Region.wanted o (yielded ops a.tmps) = true)
    (h : ∀ K : Act → World → Prop, (∀ a' w', (lateL T (listed.setIfInBounds i true) = false → S w') → anyL P md ops T Q S fuel (listed.setIfInBounds i true) a' w' → K a' w') → Oper.wp P o a w K Q) : anyL P md ops T Q S (fuel + 1) listed a w := by
  refine ⟨fun h0 => (by rw [h0] at hr; cases hr), fun j hj => ?_⟩
  rw [hr] at hj
  obtain rfl := List.mem_singleton.1 hj
  unfold wpOp
  simp only [hi, hw, if_true]
  exact .inl (h _ fun _ _ h1 h2 => ⟨h1, h2⟩)
/-- The same where it is a late one. -/
theorem anyL_late {i : Nat} {o : Oper} {fuel : Nat} {listed : Array Bool} {a : Act} {w : World} (hr : Region.ready md ops listed = [i]) (hi : ops[i]? = some o) (hw : Region.wanted o (yielded ops a.tmps) = true) (hl : lateL T (listed.setIfInBounds i true) = true)
    (h : ∀ K : Act → World → Prop, (∀ a' w', anyL P md ops T Q S fuel (listed.setIfInBounds i true) a' w' → K a' w') → Oper.wp P o a w K Q) : anyL P md ops T Q S (fuel + 1) listed a w :=
  anyL_one hr hi hw fun K hK => h K fun a' w' h' => hK a' w' (fun h0 => by rw [h0] at hl; cases hl) h'
theorem anyL_done {listed : Array Bool} {a : Act} {w : World} (hr : Region.ready md ops listed = []) (h : Q .normal a w) : ∀ fuel, anyL P md ops T Q S fuel listed a w
  | 0 => ⟨hr, h⟩
  | _ + 1 => ⟨fun _ => h, by rw [hr]; simp⟩
theorem wp_region_L (T : List Nat) (S : World → Prop) {id : Nat} {a : Act} {w : World} (hm : P.follows .mixedOrders = true) (hS : S w.drew)
    (h : S w.drew → anyL P .any ops T (NoPanic Q) S ops.size (Array.replicate ops.size false) a w.drew) : (Code.region id ops true).wp P Q a w :=
  wp_region_noPanic (wp_region_any hm (any_of_L _ _ _ _ (h hS)))
theorem anyL_end {listed : Array Bool} {a : Act} {w : World} (hr : Region.ready md ops listed = []) (h : Q .normal a w) (fuel : Nat) : anyL P md ops T (NoPanic Q) S fuel listed a w :=
  anyL_done hr (NoPanic.normal h) fuel
end
end Go.Proofs.YtcagdmaiemmfgaaGreat
