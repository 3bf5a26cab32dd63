/- Slices whose arrays are a run's own, from any place on: what append does to them; no condition. -/
import Derived.Test.YtcagdmaiemmfgaaGreatP
import Derived.Deep.Upon
namespace Go.Proofs.YtcagdmaiemmfgaaGreat
open Go.RowKit

/-- The block of a slice that has room. -/
def ownB (A : Option Addr) (c : Nat) : Option Nat := if 0 < c then A.map Addr.block else none
theorem ownB_some {b off c : Nat} (h : 0 < c) : ownB (some ⟨b, off, none⟩) c = some b := by simp [ownB, h]
theorem ownB_zero {A : Option Addr} : ownB A 0 = none := by simp [ownB]
/-- A slice whose array may be written; what its elements point to lies in D, the array not. -/
structure OwnSl {α : Type} (sz : Nat) (e : El α) (D : Dom) (w : World) (A : Option Addr) (c : Nat) (xs : List α) : Prop where
  le : xs.length ≤ c
  max : c ≤ maxLen
  at_ : 0 < c → ∃ b off, A = some ⟨b, off, none⟩ ∧ b < w.heap.size ∧ ¬ D b ∧ (∀ i x, xs[i]? = some x → e D w b (off + i * sz) x) ∧ ∀ j, j < c * sz → (w.cell? ⟨b, off + j, none⟩).isSome = true ∧ w.frozen? ⟨b, off + j, none⟩ = false
/-- Elements that lie at an address, whatever its block. -/
def Lies {α : Type} (sz : Nat) (e : El α) (D : Dom) (w : World) (A : Option Addr) (ys : List α) : Prop :=
  0 < ys.length → ∃ b off, A = some ⟨b, off, none⟩ ∧ ∀ i y, ys[i]? = some y → e D w b (off + i * sz) y
/-- What such a kind's cells hold is one cell each. -/
def El.One {α : Type} (sz : Nat) (e : El α) : Prop := ∀ (D : Dom) (w : World) (b o : Nat) (x : α), e D w b o x → ∀ j, j < sz → ∀ v, w.cell? ⟨b, o + j, none⟩ = some v → v.oneCell' = true
theorem elInt_one (k : IntKind) : El.One 1 (elInt k) := fun _ _ _ _ _ h j hj v hv => by
  obtain rfl := j_zero hj
  have : some v = _ := hv.symm.trans h
  injection this with this
  subst this
  rfl
section
variable {α : Type} {sz : Nat} {e : El α} {D D' : Dom} {w w' : World} {A : Option Addr} {c : Nat} {xs ys : List α}
theorem Sl.lies (h : Sl sz e D w A c xs) : Lies sz e D w A xs := fun hn => by
  obtain ⟨b, off, ha, _, hc⟩ := h.2.2 hn
  exact ⟨b, off, ha, hc⟩
theorem OwnSl.lies (h : OwnSl sz e D w A c xs) : Lies sz e D w A xs := fun hn => by
  obtain ⟨b, off, ha, _, _, hc, _⟩ := h.at_ (by have := h.le; omega)
  exact ⟨b, off, ha, hc⟩
theorem OwnSl.nil : OwnSl sz e D w A 0 [] := ⟨by simp, by simp [maxLen], fun h => absurd h (by omega)⟩
theorem OwnSl.sl (ge : El.Good sz e) (h : OwnSl sz e D w A c xs) (hd : ∀ k, D k → k < w.heap.size → D' k) (hb : ∀ b, ownB A c = some b → b < w.heap.size → D' b) : Sl sz e D' w A c xs :=
  ⟨h.le, h.max, fun hn => by
    have hc : 0 < c := by have := h.le; omega
    obtain ⟨b, off, ha, hl, _, he, _⟩ := h.at_ hc
    exact ⟨b, off, ha, hb b (by rw [ha]; exact ownB_some hc) hl, fun i x hx => ge.mono hd (he i x hx)⟩⟩
theorem OwnSl.keep (ge : El.Good sz e) (h : OwnSl sz e D w A c xs) (hs : Same D w w') (hz : w.heap.size ≤ w'.heap.size) (hb : ∀ b, ownB A c = some b → w'.heap[b]? = w.heap[b]?) : OwnSl sz e D w' A c xs :=
  ⟨h.le, h.max, fun hc => by
    obtain ⟨b, off, ha, hl, hd, he, hf⟩ := h.at_ hc
    have hk := hb b (by rw [ha]; exact ownB_some hc)
    refine ⟨b, off, ha, by omega, hd, fun i x hx => ge.copy (fun _ _ => World.cell?_of_block hk) hs (he i x hx), fun j hj => ?_⟩
    rw [World.cell?_of_block (a := ⟨b, off + j, none⟩) hk, World.frozen?_of_block (a := ⟨b, off + j, none⟩) hk]
    exact hf j hj⟩
theorem OwnSl.mono (ge : El.Good sz e) (h : OwnSl sz e D w A c xs) (hd : ∀ k, D k → k < w.heap.size → D' k) (hb : ∀ b, ownB A c = some b → ¬ D' b) : OwnSl sz e D' w A c xs :=
  ⟨h.le, h.max, fun hc => by
    obtain ⟨b, off, ha, hl, _, he, hf⟩ := h.at_ hc
    exact ⟨b, off, ha, hl, hb b (by rw [ha]; exact ownB_some hc), fun i x hx => ge.mono hd (he i x hx), hf⟩⟩
theorem OwnSl.own (h : OwnSl sz e D w A c xs) {b : Nat} (hb : ownB A c = some b) : b < w.heap.size ∧ ¬ D b := by
  rcases Nat.eq_zero_or_pos c with h0 | h0
  · subst h0; rw [ownB_zero] at hb; cases hb
  · obtain ⟨b', off, ha, hl, hd, _⟩ := h.at_ h0
    rw [ha, ownB_some h0] at hb
    cases hb
    exact ⟨hl, hd⟩
end
theorem cells_list {w : World} {b o n : Nat} (h : ∀ j, j < n → ∃ v, w.cell? ⟨b, o + j, none⟩ = some v) : ∃ cs : List Value, cs.length = n ∧ ∀ j u, cs[j]? = some u → w.cell? ⟨b, o + j, none⟩ = some u := by
  induction n with
  | zero => exact ⟨[], rfl, fun j u h => by simp at h⟩
  | succ n ih =>
    obtain ⟨cs, h1, h2⟩ := ih fun j hj => h j (by omega)
    obtain ⟨v, hv⟩ := h n (by omega)
    refine ⟨cs ++ [v], by simp [h1], fun j u hu => ?_⟩
    rcases Nat.lt_or_ge j cs.length with hl | hl
    · rw [List.getElem?_append_left hl] at hu
      exact h2 j u hu
    · rw [List.getElem?_append_right hl] at hu
      have hj : j - cs.length = 0 := by
        have := (List.getElem?_eq_some_iff.1 hu).1
        simp at this
        omega
      rw [hj] at hu
      simp at hu
      subst hu
      have : j = n := by omega
      subst this
      exact hv
theorem cell_div {n sz j : Nat} (hsz : 0 < sz) (hj : j < n * sz) : j / sz < n ∧ j % sz < sz ∧ j = j / sz * sz + j % sz :=
  ⟨(Nat.div_lt_iff_lt_mul hsz).2 hj, Nat.mod_lt _ hsz, by rw [Nat.mul_comm]; exact (Nat.div_add_mod j sz).symm⟩
theorem lies_cells {α : Type} {sz : Nat} {e : El α} {D : Dom} {w : World} {b off : Nat} {ys : List α} (ge : El.Good sz e) (h : ∀ i y, ys[i]? = some y → e D w b (off + i * sz) y) : ∃ cs : List Value, cs.length = ys.length * sz ∧ ∀ j u, cs[j]? = some u → w.cell? ⟨b, off + j, none⟩ = some u := by
  refine cells_list fun j hj => ?_
  obtain ⟨h1, h2, h3⟩ := cell_div ge.pos hj
  obtain ⟨v, hv⟩ := ge.cell (h _ _ (List.getElem?_eq_getElem h1)) _ h2
  exact ⟨v, by rw [h3, ← Nat.add_assoc]; exact hv⟩
theorem lies_one {α : Type} {sz : Nat} {e : El α} {D : Dom} {w : World} {b off : Nat} {ys : List α} (ge : El.Good sz e) (h1 : El.One sz e) (h : ∀ i y, ys[i]? = some y → e D w b (off + i * sz) y) {cs : List Value} (hl : cs.length = ys.length * sz)
    (hc : ∀ j u, cs[j]? = some u → w.cell? ⟨b, off + j, none⟩ = some u) : ∀ u ∈ cs, u.oneCell' = true := by
  intro u hu
  obtain ⟨j, hj⟩ := List.getElem?_of_mem hu
  have hlt := (List.getElem?_eq_some_iff.1 hj).1
  obtain ⟨h2, h3, h4⟩ := cell_div ge.pos (hl ▸ hlt)
  refine h1 _ _ _ _ _ (h _ _ (List.getElem?_eq_getElem h2)) _ h3 u ?_
  rw [Nat.add_assoc, ← h4]
  exact hc j u hj
theorem setCells_tape (b : Nat) : ∀ (vs : List Value) (o : Nat) (w : World), (w.setCells b o vs).tape = w.tape ∧ (w.setCells b o vs).heap.size = w.heap.size
  | [], _, _ => ⟨rfl, rfl⟩
  | v :: vs, o, w => by
    obtain ⟨h1, h2⟩ := setCells_tape b vs (o + 1) (w.setCell ⟨b, o, none⟩ v)
    exact ⟨h1, h2.trans (by simp [World.setCell])⟩
theorem grown_setCells (w : World) (b o : Nat) (vs : List Value) : w.grownBy (w.setCells b o vs) (some b) :=
  ⟨World.os_setCells w b o vs, (setCells_tape b vs o w).1, World.output_setCells w b o vs, Nat.le_of_eq (setCells_tape b vs o w).2.symm, fun k hk hne => World.heap_setCells_other w b o vs hk fun h => hne (by rw [h])⟩
/-- The elements of two slices, one behind the other at a new place. -/
theorem elems_of {α : Type} {sz : Nat} {e : El α} {D : Dom} {w w' : World} {b off b2 off2 b' off' : Nat} {xs ys : List α} {olds news : List Value} (ge : El.Good sz e)
    (hx : ∀ i x, xs[i]? = some x → e D w b (off + i * sz) x) (hy : ∀ i y, ys[i]? = some y → e D w b2 (off2 + i * sz) y)
    (ol : olds.length = xs.length * sz) (oc : ∀ j u, olds[j]? = some u → w.cell? ⟨b, off + j, none⟩ = some u) (nl : news.length = ys.length * sz) (nc : ∀ j u, news[j]? = some u → w.cell? ⟨b2, off2 + j, none⟩ = some u)
    (hs : Same D w w') (hK : ∀ j, j < (xs.length + ys.length) * sz → w'.cell? ⟨b', off' + j, none⟩ = (olds ++ news)[j]?) : ∀ i x, (xs ++ ys)[i]? = some x → e D w' b' (off' + i * sz) x := by
  intro i x hi
  rcases Nat.lt_or_ge i xs.length with hl | hl
  · rw [List.getElem?_append_left hl] at hi
    refine ge.copy (fun j hj => ?_) hs (hx i x hi)
    have h1 : i * sz + j < xs.length * sz := by
      have : (i + 1) * sz ≤ xs.length * sz := Nat.mul_le_mul_right _ (by omega)
      rw [Nat.add_mul] at this
      omega
    rw [Nat.add_assoc, hK _ (by rw [Nat.add_mul]; omega), List.getElem?_append_left (by omega), List.getElem?_eq_getElem (by omega), Nat.add_assoc]
    exact (oc _ _ (List.getElem?_eq_getElem (by omega))).symm
  · rw [List.getElem?_append_right hl] at hi
    have hl2 := (List.getElem?_eq_some_iff.1 hi).1
    obtain ⟨k, rfl⟩ : ∃ k, i = xs.length + k := ⟨i - xs.length, by omega⟩
    rw [Nat.add_sub_cancel_left] at hi hl2
    refine ge.copy (fun j hj => ?_) hs (hy k x hi)
    have h1 : k * sz + j < ys.length * sz := by
      have : (k + 1) * sz ≤ ys.length * sz := Nat.mul_le_mul_right _ (by omega)
      rw [Nat.add_mul] at this
      omega
    have h2 : (xs.length + k) * sz + j = olds.length + (k * sz + j) := by rw [Nat.add_mul]; omega
    rw [Nat.add_assoc, h2, hK _ (by rw [Nat.add_mul]; omega), List.getElem?_append_right (by omega), Nat.add_sub_cancel_left, List.getElem?_eq_getElem (by omega), Nat.add_assoc]
    exact (nc _ _ (List.getElem?_eq_getElem (by omega))).symm
section
variable {P : Program} {α : Type} {sz : Nat} {e : El α} {D : Dom} {w : World} {A A2 : Option Addr} {c c2 : Nat} {xs ys : List α}
/-- append onto such a slice. -/
theorem run_app (ge : El.Good sz e) (g1 : El.One sz e) (t ty T : TypeId) (i : TypeInfo) (z : Value) (bytes : Nat) (ht : P.underlying t = some (.slice T)) (hi : P.info? T = some i) (hz : i.zero = some z) (hsize : i.size = sz) (hby : i.bytes = bytes) (hzs : z.cells.size = sz)
    (h : OwnSl sz e D w A c xs) (hy : Lies sz e D w A2 ys) (h63 : xs.length + ys.length ≤ maxLen) (hbytes : (xs.length + ys.length) * bytes ≤ 140737488355328) (hD : ∀ k, D k → k < w.heap.size) :
    ∃ A' c' w', (Builtin.append_ #[t, t] ty #[.slice A xs.length c, .slice A2 ys.length c2]).run P w = .ok (.slice A' (xs ++ ys).length c') w' ∧ OwnSl sz e D w' A' c' (xs ++ ys) ∧ w.grownBy w' (ownB A c) ∧ (ownB A' c' = ownB A c ∨ ownB A' c' = some w.heap.size) := by
  subst hsize
  subst hby
  have hsmall : xs.length + ys.length ≤ 9223372036854775807 := by simp only [maxLen] at h63; omega
  -- what comes in
  obtain ⟨b2, off2, news, nl, hy2, nc, hsrc⟩ : ∃ b2 off2, ∃ news : List Value, news.length = ys.length * i.size ∧ (∀ k y, ys[k]? = some y → e D w b2 (off2 + k * i.size) y) ∧ (∀ j u, news[j]? = some u → w.cell? ⟨b2, off2 + j, none⟩ = some u) ∧ Src P i.size t (.slice A2 ys.length c2) ys.length news w := by
    rcases Nat.eq_zero_or_pos ys.length with h0 | h0
    · have hy0 : ys = [] := List.eq_nil_of_length_eq_zero h0
      subst hy0
      refine ⟨0, 0, [], by simp, by simp, by simp, ?_⟩
      cases A2 with
      | none => exact Src.ofNil w ht c2
      | some a => exact Src.ofSlice w ht a 0 c2 [] (by simp) (by simp) (by simp)
    · obtain ⟨b2, off2, rfl, hy2⟩ := hy h0
      obtain ⟨news, nl, nc⟩ := lies_cells ge hy2
      exact ⟨b2, off2, news, nl, hy2, nc, Src.ofSlice w ht _ _ _ news nl (fun j u hu => by rw [add_flat]; exact nc j u hu) (lies_one ge g1 hy2 nl nc)⟩
  by_cases hfit : xs.length + ys.length ≤ c
  · rcases Nat.eq_zero_or_pos c with h0 | hc
    · subst h0
      obtain rfl : xs = [] := List.eq_nil_of_length_eq_zero (by omega)
      obtain rfl : ys = [] := List.eq_nil_of_length_eq_zero (by simpa using hfit)
      obtain rfl : news = [] := List.eq_nil_of_length_eq_zero (by simpa using nl)
      exact ⟨A, 0, w, run_append_nothing w t t ty T i ht hi A 0 0 (Nat.le_refl _) _ hsrc, OwnSl.nil, World.grownBy.refl w _, .inl rfl⟩
    · obtain ⟨b, off, rfl, hl, hd, hx, hf⟩ := h.at_ hc
      obtain ⟨olds, ol, oc⟩ := lies_cells ge hx
      have hcs : (xs.length + ys.length) * i.size ≤ c * i.size := Nat.mul_le_mul_right _ hfit
      rw [Nat.add_mul] at hcs
      have hsome : ∀ j, j < news.length → (w.cell? ⟨b, off + xs.length * i.size + j, none⟩).isSome = true := fun j hj => by
        have := (hf (xs.length * i.size + j) (by omega)).1
        rwa [← Nat.add_assoc] at this
      have hrun := run_append_room_src (P := P) w t t ty T i ht hi b off xs.length c _ ys.length news hsrc hfit hsome (fun j hj => by
        have := (hf (xs.length * i.size + j) (by omega)).2
        rwa [← Nat.add_assoc] at this)
      have hg := grown_setCells w b (off + xs.length * i.size) news
      have hS : Same D w (w.setCells b (off + xs.length * i.size) news) := fun k hk => World.heap_setCells_other w _ _ _ (hD k hk) (fun h => hd (h ▸ hk))
      refine ⟨_, _, _, by rw [List.length_append]; exact hrun, ⟨by rw [List.length_append]; exact hfit, h.max, fun _ => ⟨b, off, rfl, Nat.lt_of_lt_of_le hl hg.size, hd, ?_, fun j hj => ?_⟩⟩, by rw [ownB_some hc]; exact hg, .inl rfl⟩
      · refine elems_of ge hx hy2 ol oc nl nc hS fun j hj => ?_
        rcases Nat.lt_or_ge j olds.length with hj2 | hj2
        · rw [World.cell?_setCells_out b _ _ _ _ (fun _ _ => .inl (by show off + j < off + xs.length * i.size; omega)), List.getElem?_append_left hj2, List.getElem?_eq_getElem hj2]
          exact oc _ _ (List.getElem?_eq_getElem hj2)
        · have hj3 : j - olds.length < news.length := by rw [Nat.add_mul] at hj; omega
          have := World.cell?_setCells_in b news (off + xs.length * i.size) w hsome (j - olds.length) hj3
          rw [Nat.add_assoc, show xs.length * i.size + (j - olds.length) = j by omega] at this
          rw [this, List.getElem?_append_right hj2, List.getElem?_eq_getElem hj3]
      · refine ⟨?_, ?_⟩
        · by_cases hin : xs.length * i.size ≤ j ∧ j < xs.length * i.size + news.length
          · have := World.cell?_setCells_in b news (off + xs.length * i.size) w hsome (j - xs.length * i.size) (by omega)
            rw [Nat.add_assoc, show xs.length * i.size + (j - xs.length * i.size) = j by omega] at this
            rw [this]
            rfl
          · rw [World.cell?_setCells_out b _ _ _ _ (fun _ _ => by show off + j < off + xs.length * i.size ∨ off + xs.length * i.size + news.length ≤ off + j; omega)]
            exact (hf j hj).1
        · rw [World.frozen?_setCells]
          exact (hf j hj).2
  · obtain ⟨b, off, olds, ol, hx, oc, hold⟩ : ∃ b off, ∃ olds : List Value, olds.length = xs.length * i.size ∧ (∀ k y, xs[k]? = some y → e D w b (off + k * i.size) y) ∧ (∀ j u, olds[j]? = some u → w.cell? ⟨b, off + j, none⟩ = some u) ∧ (Builtin.firstCells i.size xs.length (.slice A xs.length c)).run P w.drew = .ok olds.toArray w.drew := by
      rcases Nat.eq_zero_or_pos c with h0 | hc
      · subst h0
        obtain rfl : xs = [] := List.eq_nil_of_length_eq_zero (by have := h.le; omega)
        refine ⟨0, 0, [], by simp, by simp, by simp, ?_⟩
        cases A with
        | none => exact run_firstCells_none w.drew _ _ _ _
        | some a => exact run_firstCells_some w.drew _ _ _ _ _ [] (by simp) (by simp)
      · obtain ⟨b, off, rfl, hl, hd, hx, hf⟩ := h.at_ hc
        obtain ⟨olds, ol, oc⟩ := lies_cells ge hx
        exact ⟨b, off, olds, ol, hx, oc, run_firstCells_some w.drew _ _ _ _ _ olds ol (fun j u hu => by rw [add_flat]; exact oc j u hu)⟩
    have hlt : c < xs.length + ys.length := by omega
    have hrun := run_append_grow_src (P := P) w t t ty T i z ht hi hz A xs.length c olds hold _ ys.length news hsrc hlt (by omega) (growslice_fits hlt hbytes)
    have hge := grownCap_ge w (xs.length + ys.length) c T
    have hcm := grownCap_le_maxLen w (xs.length + ys.length) c T h63
    have hb1 : Below w.heap.size w (w.drew.alloc (.cells ((olds ++ news).toArray ++ Builtin.zeroCells z.cells (grownCap w (xs.length + ys.length) c T - (xs.length + ys.length))) T)) := ⟨(bel1 w.drew _).os, (bel1 w.drew _).tape, (bel1 w.drew _).output, (bel1 w.drew _).size, (bel1 w.drew _).block⟩
    have hsz : ((olds ++ news).toArray ++ Builtin.zeroCells z.cells (grownCap w (xs.length + ys.length) c T - (xs.length + ys.length))).size = grownCap w (xs.length + ys.length) c T * i.size := by
      rw [Array.size_append, List.size_toArray, List.length_append, ol, nl, size_zeroCells, hzs, ← Nat.add_mul, ← Nat.add_mul]
      congr 1
      omega
    have hcell : ∀ j, (w.drew.alloc (.cells ((olds ++ news).toArray ++ Builtin.zeroCells z.cells (grownCap w (xs.length + ys.length) c T - (xs.length + ys.length))) T)).cell? ⟨w.heap.size, j, none⟩ = ((olds ++ news).toArray ++ Builtin.zeroCells z.cells (grownCap w (xs.length + ys.length) c T - (xs.length + ys.length)))[j]? := fun j => World.cell?_alloc_new w.drew _ _ j
    have hy0 : 0 < grownCap w (xs.length + ys.length) c T := by omega
    refine ⟨_, _, _, by rw [List.length_append]; exact hrun, ⟨by rw [List.length_append]; exact hge, hcm, fun _ => ⟨w.heap.size, 0, rfl, by simp, fun h => absurd (hD _ h) (by omega), ?_, fun j hj => ⟨?_, ?_⟩⟩⟩, ⟨hb1.os, hb1.tape, hb1.output, hb1.size, fun k hk _ => hb1.block k hk⟩, .inr (ownB_some hy0)⟩
    · refine elems_of ge hx hy2 ol oc nl nc (fun k hk => hb1.block k (hD k hk)) fun j hj => ?_
      rw [Nat.zero_add, hcell, Array.getElem?_append_left (by rw [List.size_toArray, List.length_append, ol, nl, ← Nat.add_mul]; exact hj), List.getElem?_toArray]
    · rw [Nat.zero_add, hcell, Array.getElem?_eq_getElem (by rw [hsz]; exact hj)]
      rfl
    · exact World.frozen?_alloc_new w.drew _ _ _
end
section
variable {P : Program} {ops : Array Oper} {rest : List Oper} {o : Oper} {a : Act} {Q : Exit → Act → World → Prop} {α : Type} {sz : Nat} {e : El α} {D : Dom} {A A2 : Option Addr} {c c2 : Nat} {xs ys : List α} {z : Value} {bytes : Nat}
theorem wp_own (w : World) (K : Act → World → Prop) (ge : El.Good sz e) (g1 : El.One sz e) (s x : Operand) (t T : TypeId) (ho : o.op = .call { callee := .builtin .append, args := #[s, x], argTypes := #[t, t] })
    (ht : P.underlying t = some (.slice T)) (hinfo : (P.info? T).map (fun i => (i.zero, i.size, i.bytes)) = some (some z, sz, bytes)) (hzs : z.cells.size = sz)
    (hs : a.eval s = .slice A xs.length c) (h : OwnSl sz e D w A c xs) (hx : a.eval x = .slice A2 ys.length c2) (hy : Lies sz e D w A2 ys) (h63 : xs.length + ys.length ≤ maxLen) (hbytes : (xs.length + ys.length) * bytes ≤ 140737488355328) (hD : ∀ k, D k → k < w.heap.size)
    (hK : ∀ A' c' w', OwnSl sz e D w' A' c' (xs ++ ys) → w.grownBy w' (ownB A c) → (ownB A' c' = ownB A c ∨ ownB A' c' = some w.heap.size) → K (a.put o.dst (.slice A' (xs ++ ys).length c')) w') : o.wp P a w K Q := by
  obtain ⟨i0, hi, hzz⟩ := Option.map_eq_some_iff.1 hinfo
  simp only [Prod.mk.injEq] at hzz
  obtain ⟨hz, hs1, hb⟩ := hzz
  obtain ⟨A', c', w', hrun, h1, h2, h3⟩ := run_app (P := P) (c2 := c2) ge g1 t o.type T i0 z bytes ht hi hz hs1 hb hzs h hy h63 hbytes hD
  unfold Oper.wp execOp
  simp only [ho, resolve, invoke, builtin, Sem.run_bind, Sem.run_pure, Result.andThen_ok, List.map_toArray, List.map_cons, List.map_nil, hs, hx, hrun]
  exact hK A' c' w' h1 h2 h3
theorem wpList_own (w : World) (hgd : o.guard = none) (ge : El.Good sz e) (g1 : El.One sz e) (s x : Operand) (t T : TypeId) (ho : o.op = .call { callee := .builtin .append, args := #[s, x], argTypes := #[t, t] })
    (ht : P.underlying t = some (.slice T)) (hinfo : (P.info? T).map (fun i => (i.zero, i.size, i.bytes)) = some (some z, sz, bytes)) (hzs : z.cells.size = sz)
    (hs : a.eval s = .slice A xs.length c) (h : OwnSl sz e D w A c xs) (hx : a.eval x = .slice A2 ys.length c2) (hy : Lies sz e D w A2 ys) (h63 : xs.length + ys.length ≤ maxLen) (hbytes : (xs.length + ys.length) * bytes ≤ 140737488355328) (hD : ∀ k, D k → k < w.heap.size)
    (hK : ∀ A' c' w', OwnSl sz e D w' A' c' (xs ++ ys) → w.grownBy w' (ownB A c) → (ownB A' c' = ownB A c ∨ ownB A' c' = some w.heap.size) → wpList P ops Q rest (a.put o.dst (.slice A' (xs ++ ys).length c')) w') : wpList P ops Q (o :: rest) a w :=
  wpList_plain hgd fun K hKK => wp_own w K ge g1 s x t T ho ht hinfo hzs hs h hx hy h63 hbytes hD fun A' c' w' h1 h2 h3 => hKK _ _ (hK A' c' w' h1 h2 h3)
theorem step_own {K : Act → World → Prop} {E : Prop} (w : World) (hgd : o.guard = none) (ge : El.Good sz e) (g1 : El.One sz e) (s x : Operand) (t T : TypeId) (ho : o.op = .call { callee := .builtin .append, args := #[s, x], argTypes := #[t, t] })
    (ht : P.underlying t = some (.slice T)) (hinfo : (P.info? T).map (fun i => (i.zero, i.size, i.bytes)) = some (some z, sz, bytes)) (hzs : z.cells.size = sz)
    (hs : a.eval s = .slice A xs.length c) (h : OwnSl sz e D w A c xs) (hx : a.eval x = .slice A2 ys.length c2) (hy : Lies sz e D w A2 ys) (h63 : xs.length + ys.length ≤ maxLen) (hbytes : (xs.length + ys.length) * bytes ≤ 140737488355328) (hD : ∀ k, D k → k < w.heap.size)
    (hK : ∀ A' c' w', OwnSl sz e D w' A' c' (xs ++ ys) → w.grownBy w' (ownB A c) → (ownB A' c' = ownB A c ∨ ownB A' c' = some w.heap.size) → K (a.put o.dst (.slice A' (xs ++ ys).length c')) w') : if Region.wanted o (yielded ops a.tmps) = true then Oper.wp P o a w K Q else E := by
  rw [if_pos (by simp [Region.wanted, hgd])]
  exact wp_own w K ge g1 s x t T ho ht hinfo hzs hs h hx hy h63 hbytes hD hK
end
end Go.Proofs.YtcagdmaiemmfgaaGreat
