/- Slices of whole numbers that a call makes for itself: what append does to them; no condition. -/
import Derived.Test.YtcagdmaiemmfgaaGreatTo
import Derived.Maps.AppendAt
import Derived.OwnWalk
import Derived.Deep.OwnRows
namespace Go.Proofs.YtcagdmaiemmfgaaGreat
open Go.RowKit

def ints (xs : List Int) : List Value := xs.map (Value.int .i64)
theorem ints_length (xs : List Int) : (ints xs).length = xs.length := List.length_map _
theorem ints_app (xs ys : List Int) : ints (xs ++ ys) = ints xs ++ ints ys := List.map_append
theorem ints_at {xs : List Int} {j : Nat} {u : Value} (h : (ints xs)[j]? = some u) : ∃ x, xs[j]? = some x ∧ u = .int .i64 x := by
  simp only [ints, List.getElem?_map, Option.map_eq_some_iff] at h
  obtain ⟨x, h1, rfl⟩ := h
  exact ⟨x, h1, rfl⟩
theorem ints_one (xs : List Int) : ∀ u ∈ ints xs, u.oneCell' = true := by
  intro u hu
  obtain ⟨x, _, rfl⟩ := List.mem_map.1 hu
  rfl
theorem add_flat (g o j : Nat) : (⟨g, o, none⟩ : Addr).add j = ⟨g, o + j, none⟩ := by unfold Addr.add; split <;> simp_all
/-- A slice value of the call's own that holds the numbers xs. -/
def OwnI (base : Nat) (T : TypeId) (w : World) (v : Value) (xs : List Int) : Prop := w.ownsRow base T 1 v xs.length (ints xs)
theorem OwnI.nil (base : Nat) (T : TypeId) (w : World) : OwnI base T w (.slice none 0 0) [] := ⟨by simp [ints], .inl ⟨rfl, rfl⟩⟩
theorem OwnI.lit0 {base : Nat} {T : TypeId} {w : World} (hb : base ≤ w.heap.size) : OwnI base T (w.alloc (.cells #[] T)) (.slice (some ⟨w.heap.size, 0, none⟩) 0 0) [] :=
  ⟨by simp [ints], .inr ⟨w.heap.size, 0, #[], rfl, hb, heap_alloc_new w _, Nat.le_refl _, by unfold maxLen; omega, by simp, by simp [ints]⟩⟩
theorem OwnI.sl {base : Nat} {T : TypeId} {w : World} {v : Value} {xs : List Int} (h : OwnI base T w v xs) : ∃ A c, v = .slice A xs.length c ∧ Sl 1 (elInt .i64) (fun b => base ≤ b) w A c xs := by
  obtain ⟨_, h2⟩ := h
  rcases h2 with ⟨rfl, h0⟩ | ⟨g, cap, cur, rfl, hb, hh, hn, hm, hs, ht⟩
  · have : xs = [] := List.eq_nil_of_length_eq_zero h0
    subst this
    exact ⟨none, 0, rfl, Sl.nil⟩
  · refine ⟨_, cap, rfl, hn, hm, fun _ => ⟨g, 0, rfl, hb, fun i x hx => ?_⟩⟩
    have hi : i < xs.length := (List.getElem?_eq_some_iff.1 hx).1
    show w.cell? ⟨g, 0 + i * 1, none⟩ = _
    rw [Nat.zero_add, Nat.mul_one]
    have h3 : (cur.toList.take (xs.length * 1))[i]? = some (.int .i64 x) := by
      rw [ht]; simp [ints, hx]
    rw [List.getElem?_take, if_pos (by omega)] at h3
    simpa [World.cell?, hh] using h3
theorem OwnI.below {base : Nat} {T : TypeId} {w w' : World} {v : Value} {xs : List Int} (h : OwnI base T w v xs) (hb : Below w.heap.size w w') : OwnI base T w' v xs :=
  World.ownsRow.kept h (show w.grownBy w' none from ⟨hb.os, hb.tape, hb.output, hb.size, fun i hi _ => hb.block i hi⟩) (by cases v.ownBlock <;> simp)
theorem OwnI.base {base : Nat} {T : TypeId} {w : World} {v : Value} {xs : List Int} (h : OwnI base T w v xs) (k : Nat) (hk : v.ownBlock = some k) : base ≤ k ∧ k < w.heap.size := by
  rcases h.2 with ⟨rfl, _⟩ | ⟨g, cap, cur, rfl, hb, hh, _⟩
  · simp [Value.ownBlock] at hk
  · have : g = k := by simpa [Value.ownBlock] using hk
    subst this
    exact ⟨hb, (Array.getElem?_eq_some_iff.1 hh).1⟩
section
variable {P : Program} {ops : Array Oper} {rest : List Oper} {o : Oper} {a : Act} {Q : Exit → Act → World → Prop}
/-- append of a slice that came in, nil or not, onto one of the call's own. -/
theorem wp_app (w : World) (K : Act → World → Prop) (s x : Operand) (t T : TypeId) (ho : o.op = .call { callee := .builtin .append, args := #[s, x], argTypes := #[t, t] })
    (ht : P.underlying t = some (.slice T)) (hinfo : (P.info? T).map (fun i => (i.zero, i.size, i.bytes)) = some (some (.int .i64 0), 1, 8))
    (base : Nat) (v : Value) (xs : List Int) (hs : a.eval s = v) (hown : OwnI base T w v xs) (D : Dom) (A : Option Addr) (c : Nat) (ys : List Int) (hx : a.eval x = .slice A ys.length c) (hr : Sl 1 (elInt .i64) D w A c ys)
    (hl : xs.length + ys.length ≤ 17592186044416) (hbase : base ≤ w.heap.size)
    (h : ∀ v' w', OwnI base T w' v' (xs ++ ys) → w.grownBy w' v.ownBlock → (v'.ownBlock = v.ownBlock ∨ v'.ownBlock = some w.heap.size) → K (a.put o.dst v') w') : o.wp P a w K Q := by
  obtain ⟨i0, hi, hzz⟩ := Option.map_eq_some_iff.1 hinfo
  simp only [Prod.mk.injEq] at hzz
  obtain ⟨hz, hs1, hb⟩ := hzz
  cases A with
  | some ad =>
    have hnews : ∀ j u, (ints ys)[j]? = some u → w.cell? (ad.add j) = some u := by
      intro j u hu
      obtain ⟨y, hy, rfl⟩ := ints_at hu
      obtain ⟨b, off, ha, _, hc⟩ := hr.2.2 (by have := (List.getElem?_eq_some_iff.1 hy).1; omega)
      injection ha with ha
      subst ha
      rw [add_flat]
      simpa [elInt] using hc j y hy
    obtain ⟨v', w', hrun, h1, h2, _, h4⟩ := run_append_own_at (P := P) w base t o.type T i0 (.int .i64 0) 1 8 ht hi hz hs1 hb rfl (by omega) v xs.length (ints xs) hown ad ys.length c (ints ys) (by rw [ints_length]; omega) hnews (ints_one ys) (by unfold maxLen; omega) (by omega) hbase
    unfold Oper.wp execOp
    simp only [ho, resolve, invoke, builtin, Sem.run_bind, Sem.run_pure, Result.andThen_ok, List.map_toArray, List.map_cons, List.map_nil, hs, hx, hrun]
    exact h v' w' (by unfold OwnI; rw [List.length_append, ints_app]; exact h1) h2 h4
  | none =>
    have hy : ys = [] := by
      rcases Nat.eq_zero_or_pos ys.length with h0 | h0
      · exact List.eq_nil_of_length_eq_zero h0
      · obtain ⟨b, off, ha, _⟩ := hr.2.2 h0
        cases ha
    subst hy
    have hrun : (Builtin.append_ #[t, t] o.type #[v, .slice none 0 c]).run P w = .ok v w := by
      rcases hown.2 with ⟨rfl, _⟩ | ⟨g, cap, cur, rfl, _, _, hnc, _⟩
      · simp [Builtin.append_, run_underlying ht, sizeOf, typeInfo, hi, Builtin.lenOf, Builtin.firstCells]
      · simp [Builtin.append_, run_underlying ht, sizeOf, typeInfo, hi, Builtin.lenOf, Builtin.firstCells, hnc, storeCells]
    unfold Oper.wp execOp
    simp only [ho, resolve, invoke, builtin, Sem.run_bind, Sem.run_pure, Result.andThen_ok, List.map_toArray, List.map_cons, List.map_nil, hs, hx, List.length_nil, hrun]
    exact h v w (by rw [List.append_nil]; exact hown) (World.grownBy.refl w _) (.inl rfl)
theorem wpList_app (w : World) (hgd : o.guard = none) (s x : Operand) (t T : TypeId) (ho : o.op = .call { callee := .builtin .append, args := #[s, x], argTypes := #[t, t] })
    (ht : P.underlying t = some (.slice T)) (hinfo : (P.info? T).map (fun i => (i.zero, i.size, i.bytes)) = some (some (.int .i64 0), 1, 8))
    (base : Nat) (v : Value) (xs : List Int) (hs : a.eval s = v) (hown : OwnI base T w v xs) (D : Dom) (A : Option Addr) (c : Nat) (ys : List Int) (hx : a.eval x = .slice A ys.length c) (hr : Sl 1 (elInt .i64) D w A c ys)
    (hl : xs.length + ys.length ≤ 17592186044416) (hbase : base ≤ w.heap.size)
    (h : ∀ v' w', OwnI base T w' v' (xs ++ ys) → w.grownBy w' v.ownBlock → (v'.ownBlock = v.ownBlock ∨ v'.ownBlock = some w.heap.size) → wpList P ops Q rest (a.put o.dst v') w') : wpList P ops Q (o :: rest) a w :=
  wpList_plain hgd fun K hK => wp_app w K s x t T ho ht hinfo base v xs hs hown D A c ys hx hr hl hbase fun v' w' h1 h2 h3 => hK _ _ (h v' w' h1 h2 h3)
theorem step_app {K : Act → World → Prop} {E : Prop} (w : World) (hgd : o.guard = none) (s x : Operand) (t T : TypeId) (ho : o.op = .call { callee := .builtin .append, args := #[s, x], argTypes := #[t, t] })
    (ht : P.underlying t = some (.slice T)) (hinfo : (P.info? T).map (fun i => (i.zero, i.size, i.bytes)) = some (some (.int .i64 0), 1, 8))
    (base : Nat) (v : Value) (xs : List Int) (hs : a.eval s = v) (hown : OwnI base T w v xs) (D : Dom) (A : Option Addr) (c : Nat) (ys : List Int) (hx : a.eval x = .slice A ys.length c) (hr : Sl 1 (elInt .i64) D w A c ys)
    (hl : xs.length + ys.length ≤ 17592186044416) (hbase : base ≤ w.heap.size)
    (h : ∀ v' w', OwnI base T w' v' (xs ++ ys) → w.grownBy w' v.ownBlock → (v'.ownBlock = v.ownBlock ∨ v'.ownBlock = some w.heap.size) → K (a.put o.dst v') w') : if Region.wanted o (yielded ops a.tmps) = true then Oper.wp P o a w K Q else E := by
  rw [if_pos (by simp [Region.wanted, hgd])]
  exact wp_app w K s x t T ho ht hinfo base v xs hs hown D A c ys hx hr hl hbase h
end
/-- A call hands back numbers in a slice of its own. -/
def RetOwn (T : TypeId) (w : World) (xs : List Int) (e : Ending) (w' : World) : Prop := ∃ v, e = .returned v ∧ OwnI w.heap.size T w' v xs ∧ Below w.heap.size w w'
theorem OwnI.below_of {base : Nat} {T : TypeId} {w0 w w' : World} {v : Value} {xs : List Int} (h : OwnI base T w v xs) (hB : Below base w0 w) (hbase : base ≤ w.heap.size) (hg : w.grownBy w' v.ownBlock) : Below base w0 w' :=
  hB.grown hg hbase fun k hk => (h.base k hk).1
end Go.Proofs.YtcagdmaiemmfgaaGreat
