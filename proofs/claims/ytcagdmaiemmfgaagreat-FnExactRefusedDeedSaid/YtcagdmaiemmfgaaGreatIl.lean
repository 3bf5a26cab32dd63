/- The library's deletion of one parcel among the works' own; for all lists of parcels. -/
import Derived.Test.YtcagdmaiemmfgaaGreatIk
namespace Go.Proofs.YtcagdmaiemmfgaaGreat
open Go.RowKit

section
variable {P : Program} {α : Type} {sz : Nat} {e : El α} {D : Dom} {w : World} {A A2 : Option Addr} {c c2 : Nat} {xs ys : List α}
/-- append onto such a slice, where there is room. -/
theorem run_app_fit (ge : El.Good sz e) (g1 : El.One sz e) (t ty T : TypeId) (i : TypeInfo) (ht : P.underlying t = some (.slice T)) (hi : P.info? T = some i) (hsize : i.size = sz)
    (h : OwnSl sz e D w A c xs) (hy : Lies sz e D w A2 ys) (hfit : xs.length + ys.length ≤ c) (hD : ∀ k, D k → k < w.heap.size) :
    ∃ w', (Builtin.append_ #[t, t] ty #[.slice A xs.length c, .slice A2 ys.length c2]).run P w = .ok (.slice A (xs ++ ys).length c) w' ∧ OwnSl sz e D w' A c (xs ++ ys) ∧ w.grownBy w' (ownB A c) := by
  subst hsize
  obtain ⟨b2, off2, news, nl, hy2, nc, hsrc⟩ : ∃ b2 off2, ∃ news : List Value, news.length = ys.length * i.size ∧ (∀ k y, ys[k]? = some y → e D w b2 (off2 + k * i.size) y) ∧ (∀ j u, news[j]? = some u → w.cell? ⟨b2, off2 + j, none⟩ = some u) ∧ Src P i.size t (.slice A2 ys.length c2) ys.length news w := by
    rcases Nat.eq_zero_or_pos ys.length with h0 | h0
    · have hy0 : ys = [] := List.eq_nil_of_length_eq_zero h0
      subst hy0
      refine ⟨0, 0, [], by simp, by simp, by simp, ?_⟩
      cases A2 with
      | none => exact Src.ofNil w ht c2
      | some a => exact Src.ofSlice w ht a 0 c2 [] (by simp) (by simp) (by simp)
    · obtain ⟨b2, off2, rfl, hy2⟩ := hy h0
      obtain ⟨news, nl, nc⟩ := lies_cells ge hy2
      exact ⟨b2, off2, news, nl, hy2, nc, Src.ofSlice w ht _ _ _ news nl (fun j u hu => by rw [add_flat]; exact nc j u hu) (lies_one ge g1 hy2 nl nc)⟩
  rcases Nat.eq_zero_or_pos c with h0 | hc
  · subst h0
    obtain rfl : xs = [] := List.eq_nil_of_length_eq_zero (by omega)
    obtain rfl : ys = [] := List.eq_nil_of_length_eq_zero (by simpa using hfit)
    obtain rfl : news = [] := List.eq_nil_of_length_eq_zero (by simpa using nl)
    exact ⟨w, run_append_nothing w t t ty T i ht hi A 0 0 (Nat.le_refl _) _ hsrc, h, World.grownBy.refl w _⟩
  · obtain ⟨b, off, rfl, hl, hd, hx, hf⟩ := h.at_ hc
    obtain ⟨olds, ol, oc⟩ := lies_cells ge hx
    have hcs : (xs.length + ys.length) * i.size ≤ c * i.size := Nat.mul_le_mul_right _ hfit
    rw [Nat.add_mul] at hcs
    have hsome : ∀ j, j < news.length → (w.cell? ⟨b, off + xs.length * i.size + j, none⟩).isSome = true := fun j hj => by
      have := (hf (xs.length * i.size + j) (by omega)).1
      rwa [← Nat.add_assoc] at this
    have hrun := run_append_room_src (P := P) w t t ty T i ht hi b off xs.length c _ ys.length news hsrc hfit hsome (fun j hj => by
      have := (hf (xs.length * i.size + j) (by omega)).2
      rwa [← Nat.add_assoc] at this)
    have hg := grown_setCells w b (off + xs.length * i.size) news
    have hS : Same D w (w.setCells b (off + xs.length * i.size) news) := fun k hk => World.heap_setCells_other w _ _ _ (hD k hk) (fun h => hd (h ▸ hk))
    refine ⟨_, by rw [List.length_append]; exact hrun, ⟨by rw [List.length_append]; exact hfit, h.max, fun _ => ⟨b, off, rfl, Nat.lt_of_lt_of_le hl hg.size, hd, ?_, fun j hj => ?_⟩⟩, by rw [ownB_some hc]; exact hg⟩
    · refine elems_of ge hx hy2 ol oc nl nc hS fun j hj => ?_
      rcases Nat.lt_or_ge j olds.length with hj2 | hj2
      · rw [World.cell?_setCells_out b _ _ _ _ (fun _ _ => .inl (by show off + j < off + xs.length * i.size; omega)), List.getElem?_append_left hj2, List.getElem?_eq_getElem hj2]
        exact oc _ _ (List.getElem?_eq_getElem hj2)
      · have hj3 : j - olds.length < news.length := by rw [Nat.add_mul] at hj; omega
        have := World.cell?_setCells_in b news (off + xs.length * i.size) w hsome (j - olds.length) hj3
        rw [Nat.add_assoc, show xs.length * i.size + (j - olds.length) = j by omega] at this
        rw [this, List.getElem?_append_right hj2, List.getElem?_eq_getElem hj3]
    · refine ⟨?_, ?_⟩
      · by_cases hin : xs.length * i.size ≤ j ∧ j < xs.length * i.size + news.length
        · have := World.cell?_setCells_in b news (off + xs.length * i.size) w hsome (j - xs.length * i.size) (by omega)
          rw [Nat.add_assoc, show xs.length * i.size + (j - xs.length * i.size) = j by omega] at this
          rw [this]
          rfl
        · rw [World.cell?_setCells_out b _ _ _ _ (fun _ _ => by show off + j < off + xs.length * i.size ∨ off + xs.length * i.size + news.length ≤ off + j; omega)]
          exact (hf j hj).1
      · rw [World.frozen?_setCells]
        exact (hf j hj).2
theorem OwnSl.take' (h : OwnSl sz e D w A c xs) (k : Nat) {l : List α} (hl : l = xs.take k) : OwnSl sz e D w A c l := by
  subst hl
  refine ⟨Nat.le_trans (by simp; omega) h.le, h.max, fun hc => ?_⟩
  obtain ⟨b, o, ha, hb, hd, he, hf⟩ := h.at_ hc
  refine ⟨b, o, ha, hb, hd, fun i x hx => he i x ?_, hf⟩
  rw [List.getElem?_take] at hx
  split at hx
  · exact hx
  · cases hx
theorem OwnSl.drewO (ge : El.Good sz e) (h : OwnSl sz e D w A c xs) (m : Nat) : OwnSl sz e D (w.drewN m) A c xs := h.keep ge (fun _ _ => rfl) (Nat.le_refl _) fun _ _ => rfl
theorem Lies.drewL (ge : El.Good sz e) (h : Lies sz e D w A xs) (m : Nat) : Lies sz e D (w.drewN m) A xs := fun hn => by
  obtain ⟨b, o, ha, he⟩ := h hn
  exact ⟨b, o, ha, fun i y hy => ge.copy (w := w) (w' := w.drewN m) (fun _ _ => rfl) (fun _ _ => rfl) (he i y hy)⟩
theorem drew_grown {w1 : World} {row : Option Nat} (h : w.drew.grownBy w1 row) : w.grownBy w1 row := ⟨h.os, h.tape, h.output, h.size, h.block⟩
theorem setCells_some {b p : Nat} : ∀ (vs : List Value) (q : Nat) {w : World}, (w.cell? ⟨b, p, none⟩).isSome = true → ((w.setCells b q vs).cell? ⟨b, p, none⟩).isSome = true
  | [], _, _, h => h
  | v :: vs, q, w, h => by
    show (((w.setCell ⟨b, q, none⟩ v).setCells b (q + 1) vs).cell? ⟨b, p, none⟩).isSome = true
    refine setCells_some vs (q + 1) ?_
    by_cases hp : p = q
    · subst hp
      obtain ⟨u, hu⟩ := Option.isSome_iff_exists.1 h
      rw [cell_set hu]
      rfl
    · rw [cell_set_ne hp]
      exact h
/-- Cells behind the elements are written. -/
theorem OwnSl.beyond (ge : El.Good sz e) {b o : Nat} (h : OwnSl sz e D w (some ⟨b, o, none⟩) c xs) {k : Nat} {vs : List Value} (hk : xs.length * sz ≤ k) (hD : ∀ k, D k → k < w.heap.size) : OwnSl sz e D (w.setCells b (o + k) vs) (some ⟨b, o, none⟩) c xs := by
  refine ⟨h.le, h.max, fun hc => ?_⟩
  obtain ⟨b', o', ha, hb, hd, he, hf⟩ := h.at_ hc
  simp only [Option.some.injEq, Addr.mk.injEq, and_true] at ha
  obtain ⟨rfl, rfl⟩ := ha
  refine ⟨b, o, rfl, Nat.lt_of_lt_of_le hb (grown_setCells w b (o + k) vs).size, hd, fun i x hx => ge.copy (fun j hj => ?_) (fun k2 hk2 => World.heap_setCells_other w _ _ _ (hD k2 hk2) fun e => hd (e ▸ hk2)) (he i x hx), fun j hj => ⟨?_, ?_⟩⟩
  · have hi := (List.getElem?_eq_some_iff.1 hx).1
    have : (i + 1) * sz ≤ xs.length * sz := Nat.mul_le_mul_right _ (by omega)
    rw [Nat.add_mul] at this
    exact World.cell?_setCells_out b _ _ _ _ fun _ _ => .inl (by show o + i * sz + j < o + k; omega)
  · have hs := setCells_some (w := w) (b := b) (p := o + j) vs (o + k) (hf j hj).1
    exact hs
  · rw [World.frozen?_setCells]
    exact (hf j hj).2
end
section
variable {P : Program} {ops : Array Oper} {rest : List Oper} {o : Oper} {a : Act} {Q : Exit → Act → World → Prop} {α : Type} {sz : Nat} {e : El α} {D : Dom} {A A2 : Option Addr} {c c2 : Nat} {xs ys : List α} {z : Value} {bytes : Nat}
theorem wp_own_fit (w : World) (K : Act → World → Prop) (ge : El.Good sz e) (g1 : El.One sz e) (s x : Operand) (t T : TypeId) (ho : o.op = .call { callee := .builtin .append, args := #[s, x], argTypes := #[t, t] })
    (ht : P.underlying t = some (.slice T)) (hinfo : (P.info? T).map (fun i => (i.zero, i.size, i.bytes)) = some (some z, sz, bytes))
    (hs : a.eval s = .slice A xs.length c) (h : OwnSl sz e D w A c xs) (hx : a.eval x = .slice A2 ys.length c2) (hy : Lies sz e D w A2 ys) (hfit : xs.length + ys.length ≤ c) (hD : ∀ k, D k → k < w.heap.size)
    (hK : ∀ w', OwnSl sz e D w' A c (xs ++ ys) → w.grownBy w' (ownB A c) → K (a.put o.dst (.slice A (xs ++ ys).length c)) w') : o.wp P a w K Q := by
  obtain ⟨i0, hi, hzz⟩ := Option.map_eq_some_iff.1 hinfo
  simp only [Prod.mk.injEq] at hzz
  obtain ⟨hz, hs1, hb⟩ := hzz
  obtain ⟨w', hrun, h1, h2⟩ := run_app_fit (P := P) (c2 := c2) ge g1 t o.type T i0 ht hi hs1 h hy hfit hD
  unfold Oper.wp execOp
  simp only [ho, resolve, invoke, builtin, Sem.run_bind, Sem.run_pure, Result.andThen_ok, List.map_toArray, List.map_cons, List.map_nil, hs, hx, hrun]
  exact hK w' h1 h2
end
theorem run_clear1 {P : Program} (w : World) (t e ty : TypeId) (b o c : Nat) (ht : P.underlying t = some (.slice e)) (hv : ∀ w, (zeroValue e).run P w = .ok (.agg #[.int .i64 0, .slice none 0 0]) w)
    (hc : ∀ j, j < 2 → (w.cell? ⟨b, o + j, none⟩).isSome = true) (hf : ∀ j, j < 2 → w.frozen? ⟨b, o + j, none⟩ = false) :
    (Builtin.clear_ #[t] ty #[.slice (some ⟨b, o, none⟩) 1 c]).run P w = .ok (.tuple #[]) (w.setCells b o [.int .i64 0, .slice none 0 0]) := by
  have hst := run_storeCells_cells (P := P) b o [.int .i64 0, .slice none 0 0] 0 w (by simpa using hc) (by simpa using hf) (by intro v hv'; simp at hv'; rcases hv' with rfl | rfl <;> rfl)
  simp only [Nat.add_zero] at hst
  have hz : (Builtin.zeroCells (Value.agg #[.int .i64 0, .slice none 0 0]).cells 1).toList = [.int .i64 0, .slice none 0 0] := by kernel_rfl
  simp [Builtin.clear_, run_underlying ht, hv, hz, hst]
/-- A parcel is taken out of its place. -/
def RetDel (D : Dom) (w : World) (A : Option Addr) (c : Nat) (xs : List ParcelP) (i : Nat) (e : Ending) (w' : World) : Prop :=
  e = .returned (.slice A (xs.eraseIdx i).length c) ∧ OwnSl 2 elParcel D w' A c (xs.eraseIdx i) ∧ w.grownBy w' (ownB A c)
set_option maxHeartbeats 4000000 in
set_option maxRecDepth 100000 in
theorem delete_c (D : Dom) (A : Option Addr) (c : Nat) (xs : List ParcelP) (i : Nat) (w : World) (h : OwnSl 2 elParcel D w A c xs) (hi : i < xs.length) (hn : xs.length ≤ 12) (hD : ∀ k, D k → k < w.heap.size) :
    Calls Tryz.prog 174 #[.slice A xs.length c, .int .i64 i, .int .i64 ((i : Int) + 1)] w (RetDel D w A c xs i) := by
  obtain ⟨b, o, rfl, hb, _, _, hf⟩ := h.at_ (by have := h.le; omega)
  have hle := h.le
  obtain ⟨hd, hhd⟩ : ∃ hd, hd = xs.take i := ⟨_, rfl⟩
  obtain ⟨tl, htl⟩ : ∃ tl, tl = xs.drop (i + 1) := ⟨_, rfl⟩
  have HHD := Lib.hid hhd
  have HTK : Hid (hd.length = i) := Lib.hid (by rw [hhd]; simp; omega)
  have HDP : Hid (tl.length = xs.length - (i + 1)) := Lib.hid (by rw [htl]; simp)
  obtain ⟨rr, hrr⟩ : ∃ rr, rr = hd ++ tl := ⟨_, rfl⟩
  have HRR := Lib.hid hrr
  have HER : Hid (rr = xs.eraseIdx i) := Lib.hid (by rw [hrr, hhd, htl, List.eraseIdx_eq_take_drop_succ])
  have hel : rr.length = xs.length - 1 := by rw [hrr, List.length_append, HTK.out, HDP.out]; omega
  have HEL := Lib.hid hel
  obtain ⟨AF, hAF⟩ : ∃ AF, AF = from_ (some (⟨b, o, none⟩ : Addr)) c (i + 1) 2 := ⟨_, rfl⟩
  have HL : Hid (Lies 2 elParcel D w AF tl) := Lib.hid (by rw [hAF, htl]; exact h.lies.drop (by omega) hle)
  have hq0 : ∃ V, ∀ w, (Instr.slice 81 (.slice (some ⟨b, o, none⟩) xs.length c) (some (.int .i64 (i : Int))) (some (.int .i64 ((i : Int) + 1))) (some (.int .i64 (xs.length : Int)))).run Tryz.prog w = .ok V w := by
    refine ⟨sliced (some ⟨b, o, none⟩) i (i + 1) xs.length 2, fun w => ?_⟩
    have he : Tryz.prog.elem 81 = 170 := by simp [Program.elem, Tryz.underlying81]
    have hs : ∀ w, (sizeOf 170).run Tryz.prog w = .ok 2 w := fun w => by kernel_rfl
    rw [run_slice_lhm w _ _ _ _ (by rw [he]; exact Tryz.underlying81) .i64 .i64 .i64 _ _ _ (by omega) (by omega) (by omega) (by omega), he, hs]
    simp only [Result.andThen]
    congr 2
  obtain ⟨V0, hq0⟩ := hq0
  have hq1 : ∀ w, (Instr.slice 81 (.slice (some ⟨b, o, none⟩) xs.length c) none (some (.int .i64 (i : Int))) none).run Tryz.prog w = .ok (.slice (some ⟨b, o, none⟩) i c) w := fun w => run_upto w _ _ _ _ _ _ _ 2 Tryz.underlying81 (by kernel_rfl) (by omega) hle
  have hq2 : ∀ w, (Instr.slice 81 (.slice (some ⟨b, o, none⟩) xs.length c) (some (.int .i64 ((i : Int) + 1))) none none).run Tryz.prog w = .ok (.slice AF tl.length (c - (i + 1))) w := fun w => by
    rw [hAF, HDP.out]
    exact run_from w _ _ _ _ _ _ _ _ (by omega) Tryz.underlying81 (by kernel_rfl) (by omega)
  have hq3 : ∀ w, (Instr.slice 81 (.slice (some ⟨b, o, none⟩) rr.length c) (some (.int .i64 (rr.length : Int))) (some (.int .i64 (xs.length : Int))) none).run Tryz.prog w = .ok (.slice (some ⟨b, o + (xs.length - 1) * 2, none⟩) 1 (c - (xs.length - 1))) w := fun w => by
    rw [run_part w _ _ _ _ _ (xs.length - 1) xs.length 2 _ _ (by omega) rfl Tryz.underlying81 (by kernel_rfl) (by omega) hle, from_, if_neg (by omega), Option.map_some, add_flat, show xs.length - (xs.length - 1) = 1 by omega]
  have HCL : Hid (∀ w1, OwnSl 2 elParcel D w1 (some ⟨b, o, none⟩) c rr → ∀ ty, (Builtin.clear_ #[81] ty #[.slice (some ⟨b, o + (xs.length - 1) * 2, none⟩) 1 (c - (xs.length - 1))]).run Tryz.prog w1 = .ok (.tuple #[]) (w1.setCells b (o + (xs.length - 1) * 2) [.int .i64 0, .slice none 0 0])) := Lib.hid fun w1 ho ty => by
    obtain ⟨b', o', ha, _, _, _, hf1⟩ := ho.at_ (by omega)
    simp only [Option.some.injEq, Addr.mk.injEq, and_true] at ha
    obtain ⟨rfl, rfl⟩ := ha
    exact run_clear1 w1 _ _ ty _ _ _ Tryz.underlying81 Tryz.zeroValue170 (fun j hj => by have := (hf1 ((xs.length - 1) * 2 + j) (by omega)).1; rwa [← Nat.add_assoc] at this) (fun j hj => by have := (hf1 ((xs.length - 1) * 2 + j) (by omega)).2; rwa [← Nat.add_assoc] at this)
  have HO := Lib.hid h
  have HD := Lib.hid hD
  have HFit : Hid (hd.length + tl.length ≤ c) := Lib.hid (by rw [← List.length_append, ← hrr, hel]; omega)
  have hne : ((i : Int) == (i : Int) + 1) = false := beq_eq_false_iff_ne.2 (by omega)
  have HOB : Hid (ownB (some (⟨b, o, none⟩ : Addr)) c = some b) := Lib.hid (ownB_some (by omega))
  clear h hhd htl hel hAF hf hD hrr
  go_enter Tryz.func174, Tryz.ntmps174
  go_wp2_with fail
  refine wp_region_L [] (fun _ => True) (by kernel_rfl) (trivial) (fun hS => ?_)
  refine anyL_take0 (i := 0) (oi := ?od0) (v := ?vd0) ?hd0 (by kernel_rfl) (by kernel_rfl) (by kernel_rfl) (by kernel_rfl) (fun _ _ _ h => h) (Or.inl ⟨?wd0, ?yd0⟩) (Or.inr hS) ?_
  case hd0 => simp only [List.getElem?_toArray, List.getElem?_cons_zero]; rfl
  case wd0 => rfl
  case yd0 => (intro w; go_simp; try with_reducible rfl)
  try simp only [Act.put, List.setIfInBounds_toArray, List.set_cons_zero, List.set_cons_succ]
  refine anyL_take0 (i := 1) (oi := ?od1) (v := ?vd1) ?hd1 (by kernel_rfl) (by kernel_rfl) (by kernel_rfl) (by kernel_rfl) (fun _ _ _ h => h) (Or.inl ⟨?wd1, ?yd1⟩) (Or.inr hS) ?_
  case hd1 => simp only [List.getElem?_toArray, List.getElem?_cons_succ, List.getElem?_cons_zero]; rfl
  case wd1 => rfl
  case yd1 => (intro w; go_simp; try with_reducible rfl)
  try simp only [Act.put, List.setIfInBounds_toArray, List.set_cons_zero, List.set_cons_succ]
  refine anyL_take0 (i := 2) (oi := ?od2) (v := ?vd2) ?hd2 (by kernel_rfl) (by kernel_rfl) (by kernel_rfl) (by kernel_rfl) (fun _ _ _ h => h) (Or.inl ⟨?wd2, ?yd2⟩) (Or.inr hS) ?_
  case hd2 => simp only [List.getElem?_toArray, List.getElem?_cons_succ, List.getElem?_cons_zero]; rfl
  case wd2 => rfl
  case yd2 => (intro w; go_simp; try with_reducible rfl)
  try simp only [Act.put, List.setIfInBounds_toArray, List.set_cons_zero, List.set_cons_succ]
  refine anyL_take0 (i := 3) (oi := ?od3) (v := ?vd3) ?hd3 (by kernel_rfl) (by kernel_rfl) (by kernel_rfl) (by kernel_rfl) (fun _ _ _ h => h) (Or.inl ⟨?wd3, ?yd3⟩) (Or.inr hS) ?_
  case hd3 => simp only [List.getElem?_toArray, List.getElem?_cons_succ, List.getElem?_cons_zero]; rfl
  case wd3 => rfl
  case yd3 => (intro w; go_simp; try with_reducible rfl)
  try simp only [Act.put, List.setIfInBounds_toArray, List.set_cons_zero, List.set_cons_succ]
  refine anyL_take0 (i := 4) (oi := ?od4) (v := ?vd4) ?hd4 (by kernel_rfl) (by kernel_rfl) (by kernel_rfl) (by kernel_rfl) (fun _ _ _ h => h) (Or.inl ⟨?wd4, ?yd4⟩) (Or.inr hS) ?_
  case hd4 => simp only [List.getElem?_toArray, List.getElem?_cons_succ, List.getElem?_cons_zero]; rfl
  case wd4 => rfl
  case yd4 => (intro w; go_simp; try with_reducible rfl)
  try simp only [Act.put, List.setIfInBounds_toArray, List.set_cons_zero, List.set_cons_succ]
  refine anyL_take0 (i := 5) (oi := ?od5) (v := ?vd5) ?hd5 (by kernel_rfl) (by kernel_rfl) (by kernel_rfl) (by kernel_rfl) (fun _ _ _ h => h) (Or.inl ⟨?wd5, ?yd5⟩) (Or.inr hS) ?_
  case hd5 => simp only [List.getElem?_toArray, List.getElem?_cons_succ, List.getElem?_cons_zero]; rfl
  case wd5 => rfl
  case yd5 => (intro w; go_simp; try with_reducible rfl)
  try simp only [Act.put, List.setIfInBounds_toArray, List.set_cons_zero, List.set_cons_succ]
  refine anyL_one (i := 6) (o := ?od6) (by kernel_rfl) ?hd6 ?wd6 (fun K hK => ?_)
  case hd6 => simp only [List.getElem?_toArray, List.getElem?_cons_succ, List.getElem?_cons_zero]; rfl
  case wd6 => rfl
  refine wp_own_fit _ K elParcel_good elParcel_one (.tmp 22) (.tmp 25) 81 170 rfl Tryz.underlying81 info_toParcel (D := D) (A := some ⟨b, o, none⟩) (c := c) (xs := hd) (by rw [HTK.out]; rfl) (HO.out.take' _ HHD.out |>.drewO elParcel_good 1) (A2 := AF) (c2 := c - (i + 1)) (ys := tl) rfl (HL.out.drewL elParcel_good 1) HFit.out (fun k hk => HD.out k hk) ?_
  intro w1 ho1 hg1
  rw [← HRR.out] at ho1 ⊢
  have HO1 := Lib.hid ho1
  have HG1 : Hid (w.grownBy w1 (some b)) := Lib.hid (by have h := drew_grown hg1; rw [HOB.out] at h; exact h)
  have hclr := HCL.out w1 ho1
  clear ho1 hg1
  refine hK _ _ (fun _ => trivial) ?_
  clear hK K
  try simp only [Act.put, List.setIfInBounds_toArray, List.set_cons_zero, List.set_cons_succ]
  refine anyL_take0 (i := 7) (oi := ?od7) (v := ?vd7) ?hd7 (by kernel_rfl) (by kernel_rfl) (by kernel_rfl) (by kernel_rfl) (fun _ _ _ h => h) (Or.inl ⟨?wd7, ?yd7⟩) (Or.inr hS) ?_
  case hd7 => simp only [List.getElem?_toArray, List.getElem?_cons_succ, List.getElem?_cons_zero]; rfl
  case wd7 => rfl
  case yd7 => (intro w; go_simp; try with_reducible rfl)
  try simp only [Act.put, List.setIfInBounds_toArray, List.set_cons_zero, List.set_cons_succ]
  refine anyL_end (by kernel_rfl) ?_ _
  go_wp2_with fail
  go_ret
  have hel := HEL.out
  refine ⟨?_, ?_, ?_⟩
  · rw [← HER.out]; rfl
  · rw [← HER.out]
    exact HO1.out.beyond elParcel_good (by rw [hel]; exact Nat.le_refl _) fun k hk => Nat.lt_of_lt_of_le (HD.out k hk) HG1.out.size
  · rw [HOB.out]
    have hg2 := grown_setCells w1 b (o + (xs.length - 1) * 2) [.int .i64 0, .slice none 0 0]
    exact ⟨hg2.os.trans HG1.out.os, hg2.tape.trans HG1.out.tape, hg2.output.trans HG1.out.output, Nat.le_trans HG1.out.size hg2.size, fun k hk hne => (hg2.block k (Nat.lt_of_lt_of_le hk HG1.out.size) hne).trans (HG1.out.block k hk hne)⟩
end Go.Proofs.YtcagdmaiemmfgaaGreat
