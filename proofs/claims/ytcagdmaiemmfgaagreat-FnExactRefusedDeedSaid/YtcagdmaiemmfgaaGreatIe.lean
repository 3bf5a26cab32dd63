/- The program's copies of numbers and its search among them; for all lists. -/
import Derived.Test.YtcagdmaiemmfgaaGreatId
namespace Go.Proofs.YtcagdmaiemmfgaaGreat
open Go.RowKit

set_option maxHeartbeats 400000 in
theorem clone_c (D : Dom) (A : Option Addr) (c : Nat) (xs : List Int) (w : World) (hs : Sl 1 (elInt .i64) D w A c xs) (hn : xs.length ≤ 1048576) :
    Calls Tryz.prog 182 #[.slice A xs.length c] w (RetOwn 2 w xs) := by
  have hne := fun (w : World) (A : Option Addr) (n c : Nat) => Lib.run_eql_slice_nil (P := Tryz.prog) w 70 2 A n c 0 0 Tryz.underlying70
  cases A with
  | none =>
    have h0 : xs = [] := by
      rcases Nat.eq_zero_or_pos xs.length with h0 | h0
      · exact List.eq_nil_of_length_eq_zero h0
      · obtain ⟨b, off, ha, _⟩ := hs.2.2 h0
        cases ha
    subst h0
    clear hs
    go_enter Tryz.func182, Tryz.ntmps182
    go_wp2_with fail
    go_ret
    exact ⟨_, rfl, OwnI.nil _ _ _, Below.refl _ _⟩
  | some a =>
    have HS := Lib.hid hs
    clear hs
    go_enter Tryz.func182, Tryz.ntmps182
    go_wp2_with (at_builtin; refine wpList_app _ rfl (.tmp 5) (.tmp 6) 70 2 rfl Tryz.underlying70 info_i64 w.heap.size _ [] rfl (OwnI.lit0 (Nat.le_refl _)) D (some a) c xs rfl (HS.out.below ints_good (bel1 _ _)) (by simp; omega) (by simp) ?_; intro v1 w1 ho hg _; have HO := Lib.hid ho; have HB := Lib.hid (OwnI.below_of (OwnI.lit0 (Nat.le_refl _)) (bel1 _ _) (by simp) hg); clear ho hg)
    go_ret
    exact ⟨v1, rfl, by simpa using HO.out, HB.out⟩
def IdxSame (b : Bool) (w : World) (e : Ending) (w' : World) : Prop := ∃ r : Int, e = .returned (.int .i64 r) ∧ (if b then 0 ≤ r else r = -1) ∧ w = w'
set_option maxHeartbeats 400000 in
theorem indexI_c (D : Dom) (A : Option Addr) (c : Nat) (xs : List Int) (n : Int) (w : World) (hs : Sl 1 (elInt .i64) D w A c xs) :
    Calls Tryz.prog 211 #[.slice A xs.length c, .int .i64 n] w (IdxSame (xs.contains n) w) := by
  have lx := hs.le
  obtain ⟨cq, hcq⟩ : ∃ cq, cq = xs.contains n := ⟨_, rfl⟩
  rw [← hcq]
  have HC := Lib.hid hcq
  have HS := Lib.hid hs
  clear hs hcq
  go_enter Tryz.func211, Tryz.ntmps211
  go_wp2_with fail
  go_loopg [8] xs.length (fun q v wr => ∃ k : Nat, k ≤ xs.length ∧ q = xs.length - k ∧ v = .int .i64 k ∧ (∀ j (h : j < xs.length), j < k → xs[j] ≠ n) ∧ wr = w)
  case atStart => exact ⟨0, by omega, by omega, rfl, fun j _ hj => by omega, rfl⟩
  case round =>
    obtain ⟨k, hk, hq, rfl, hall, rfl⟩ := hrel
    have HQ := Lib.hid hq
    have HA := Lib.hid hall
    clear hq hall
    by_cases hlt : k < xs.length
    · obtain ⟨b4, o4, rfl, h1⟩ := HS.out.at_ hlt
      simp only [elInt, Nat.mul_one] at h1
      have HM : Hid (xs[k] = n → xs.contains n = true) := Lib.hid fun h => by rw [← h]; simp
      have HN : Hid (xs[k] ≠ n → ∀ j (h : j < xs.length), j < k + 1 → xs[j] ≠ n) := Lib.hid fun h j hj hk => by
        rcases Nat.lt_or_ge j k with h0 | h0
        · exact HA.out j hj h0
        · obtain rfl : j = k := by omega
          exact h
      generalize xs[k] = x at *
      by_cases he : x = n
      · have HE := Lib.hid (HM.out he)
        subst he
        go_wp2_with fail
        go_ret
        exact ⟨k, rfl, by rw [HC.out, HE.out]; simp, rfl⟩
      · have HE := Lib.hid (HN.out he)
        have he2 : (n == x) = false := beq_eq_false_iff_ne.2 (Ne.symm he)
        go_wp2_with fail
        go_roundg (xs.length - (k + 1))
        case measure => have := HQ.out; omega
        case rel => exact ⟨k + 1, by omega, rfl, by go_num, HE.out, rfl⟩
    · have hf : xs.contains n = false := by
        rw [List.contains_eq_mem, decide_eq_false_iff_not]
        intro hm
        obtain ⟨j, hj, e⟩ := List.getElem_of_mem hm
        exact HA.out j hj (by omega) e
      have HF := Lib.hid hf
      clear hf
      go_wp2_with fail
      go_ret
      exact ⟨-1, rfl, by rw [HC.out, HF.out]; simp, rfl⟩
set_option maxHeartbeats 400000 in
theorem contains_c (D : Dom) (A : Option Addr) (c : Nat) (xs : List Int) (n : Int) (w : World) (hs : Sl 1 (elInt .i64) D w A c xs) :
    Calls Tryz.prog 178 #[.slice A xs.length c, .int .i64 n] w fun e w' => e = .returned (.bool (xs.contains n)) ∧ w = w' := by
  have HS := Lib.hid hs
  clear hs
  obtain ⟨q, hq⟩ : ∃ q, q = xs.contains n := ⟨_, rfl⟩
  rw [← hq]
  have HQ := Lib.hid hq
  clear hq
  go_enter Tryz.func178, Tryz.ntmps178
  go_wp2_with fail
  refine (indexI_c D A c xs n _ HS.out).mono ?_
  rintro e w' ⟨r, rfl, hr, rfl⟩
  rw [← HQ.out] at hr
  cases q
  · simp only [Bool.false_eq_true, if_false] at hr
    subst hr
    go_wp2_with fail
    go_ret
    exact ⟨rfl, rfl⟩
  · simp only [if_true] at hr
    go_wp2_with fail
    go_ret
    first | exact ⟨ret_b (by simp; omega), rfl⟩ | exact ⟨rfl, rfl⟩
/-- A desk handed back by value; its waiting numbers lie in an array of its own. -/
def RetDeskO (w : World) (k : DeskP) (e : Ending) (w' : World) : Prop :=
  ∃ A c A' c', e = .returned (.agg #[.int .i64 k.read, .int .i64 k.state, .slice A k.stack.length c, .slice A' k.waiting.length c']) ∧ Sl 1 (elInt .i64) (fun b => w.heap.size ≤ b ∧ ownB A' c' ≠ some b) w' A c k.stack ∧ OwnI w.heap.size 2 w' (.slice A' k.waiting.length c') k.waiting ∧ Below w.heap.size w w'
set_option maxHeartbeats 4000000 in
set_option maxRecDepth 100000 in
theorem copied_c (D : Dom) (A : Option Addr) (c : Nat) (A' : Option Addr) (c' : Nat) (k : DeskP) (w : World) (s2 : Sl 1 (elInt .i64) D w A c k.stack) (s3 : Sl 1 (elInt .i64) D w A' c' k.waiting) (h1 : k.stack.length ≤ 1048576) (h2 : k.waiting.length ≤ 1048576) :
    Calls Tryz.prog 114 #[.agg #[.int .i64 k.read, .int .i64 k.state, .slice A k.stack.length c, .slice A' k.waiting.length c']] w (RetDeskO w k) := by
  have S2 := Lib.hid s2
  have S3 := Lib.hid s3
  clear s2 s3
  obtain ⟨W, hW⟩ : ∃ W, W = w.alloc (.cells #[.int .i64 k.read, .int .i64 k.state, .slice A k.stack.length c, .slice A' k.waiting.length c'] 80) := ⟨_, rfl⟩
  obtain ⟨V, hV⟩ : ∃ V, V = W.alloc (.cells #[.int .i64 0, .int .i64 0, .slice none 0 0, .slice none 0 0] 80) := ⟨_, rfl⟩
  have hz1 : W.heap.size = w.heap.size + 1 := by rw [hW]; simp
  have hz2 : V.heap.size = w.heap.size + 2 := by rw [hV]; simp [hz1]
  have HZ := Lib.hid hz2
  have HBV : Hid (Below w.heap.size w V) := Lib.hid (Below.trans (b := W) (hW ▸ bel1 w _) (hV ▸ (bel1 W _).mono (by omega)))
  have hold : ∀ o, V.cell? ⟨w.heap.size, o, none⟩ = (#[.int .i64 k.read, .int .i64 k.state, .slice A k.stack.length c, .slice A' k.waiting.length c'] : Array Value)[o]? := fun o => by rw [hV, cell_old (by omega), hW, cell_new]
  have hnew : ∀ o, V.cell? ⟨w.heap.size + 1, o, none⟩ = (#[.int .i64 0, .int .i64 0, .slice none 0 0, .slice none 0 0] : Array Value)[o]? := fun o => by rw [hV, ← hz1, cell_new]
  have hfr : ∀ o, V.frozen? ⟨w.heap.size + 1, o, none⟩ = false := fun o => by rw [hV, ← hz1]; exact World.frozen?_alloc_new _ _ _ _
  have HWV : Hid ((w.alloc (.cells #[.int .i64 k.read, .int .i64 k.state, .slice A k.stack.length c, .slice A' k.waiting.length c'] 80)).alloc (.cells #[.int .i64 0, .int .i64 0, .slice none 0 0, .slice none 0 0] 80) = V) := Lib.hid (by rw [hV, hW])
  obtain ⟨S, hSI, hSE⟩ : ∃ S : World → Prop, (∀ w', S w' → w'.cell? ⟨w.heap.size, 0, none⟩ = some (.int .i64 k.read) ∧ w'.cell? ⟨w.heap.size, 1, none⟩ = some (.int .i64 k.state) ∧ w'.cell? ⟨w.heap.size, 2, none⟩ = some (.slice A k.stack.length c) ∧ w'.cell? ⟨w.heap.size, 3, none⟩ = some (.slice A' k.waiting.length c') ∧
      w'.cell? ⟨w.heap.size + 1, 0, none⟩ = some (.int .i64 0) ∧ w'.cell? ⟨w.heap.size + 1, 1, none⟩ = some (.int .i64 0) ∧ w'.cell? ⟨w.heap.size + 1, 2, none⟩ = some (.slice none 0 0) ∧ w'.cell? ⟨w.heap.size + 1, 3, none⟩ = some (.slice none 0 0) ∧
      w'.frozen? ⟨w.heap.size + 1, 0, none⟩ = false ∧ w'.frozen? ⟨w.heap.size + 1, 1, none⟩ = false ∧ w'.frozen? ⟨w.heap.size + 1, 2, none⟩ = false ∧ w'.frozen? ⟨w.heap.size + 1, 3, none⟩ = false) ∧ ∀ w2, Below V.heap.size V w2 → S w2 := by
    refine ⟨fun w' => Below V.heap.size V w', fun w' h => ?_, fun w2 h => h⟩
    obtain ⟨q1, q2⟩ := bcell h (Nat.le_refl _)
    exact ⟨(q1 _ _ (by omega)).trans (hold 0), (q1 _ _ (by omega)).trans (hold 1), (q1 _ _ (by omega)).trans (hold 2), (q1 _ _ (by omega)).trans (hold 3), (q1 _ _ (by omega)).trans (hnew 0), (q1 _ _ (by omega)).trans (hnew 1), (q1 _ _ (by omega)).trans (hnew 2), (q1 _ _ (by omega)).trans (hnew 3), (q2 _ _ (by omega)).trans (hfr 0), (q2 _ _ (by omega)).trans (hfr 1), (q2 _ _ (by omega)).trans (hfr 2), (q2 _ _ (by omega)).trans (hfr 3)⟩
  have HSI := Lib.hid hSI
  have HSE := Lib.hid hSE
  clear hSI hSE hold hnew hfr hW hV hz1 hz2
  go_enter Tryz.func114, Tryz.ntmps114
  go_wp2_with fail
  rw [HWV.out]
  refine wp_region_L [11] S (by kernel_rfl) (HSE.out _ (bel_drew (Below.refl _ _))) (fun hS => ?_)
  refine anyL_take0 (i := 0) (oi := ?oc0) (v := ?vc0) ?hc0 (by kernel_rfl) (by kernel_rfl) (by kernel_rfl) (by kernel_rfl) (fun _ _ _ h => h) (Or.inl ⟨?wc0, ?yc0⟩) (Or.inr hS) ?_
  case hc0 => simp only [List.getElem?_toArray, List.getElem?_cons_zero]; rfl
  case wc0 => rfl
  case yc0 => (intro w; go_simp; try with_reducible rfl)
  try simp only [Act.put, List.setIfInBounds_toArray, List.set_cons_zero, List.set_cons_succ]
  refine anyL_take (i := 1) (oi := ?oc1) (v := ?vc1) ?hc1 (by kernel_rfl) (by kernel_rfl) (by kernel_rfl) (by kernel_rfl) (by kernel_rfl) (fun _ _ _ h => h) (Or.inl ⟨?wc1, ?yc1⟩) hS ?_
  case hc1 => simp only [List.getElem?_toArray, List.getElem?_cons_succ, List.getElem?_cons_zero]; rfl
  case wc1 => rfl
  case yc1 => (intro w hSw; replace hSw := HSI.out _ hSw; go_simp; try with_reducible rfl)
  try simp only [Act.put, List.setIfInBounds_toArray, List.set_cons_zero, List.set_cons_succ]
  refine anyL_take0 (i := 2) (oi := ?oc2) (v := ?vc2) ?hc2 (by kernel_rfl) (by kernel_rfl) (by kernel_rfl) (by kernel_rfl) (fun _ _ _ h => h) (Or.inl ⟨?wc2, ?yc2⟩) (Or.inr hS) ?_
  case hc2 => simp only [List.getElem?_toArray, List.getElem?_cons_succ, List.getElem?_cons_zero]; rfl
  case wc2 => rfl
  case yc2 => (intro w; go_simp; try with_reducible rfl)
  try simp only [Act.put, List.setIfInBounds_toArray, List.set_cons_zero, List.set_cons_succ]
  refine anyL_take (i := 3) (oi := ?oc3) (v := ?vc3) ?hc3 (by kernel_rfl) (by kernel_rfl) (by kernel_rfl) (by kernel_rfl) (by kernel_rfl) (fun _ _ _ h => h) (Or.inl ⟨?wc3, ?yc3⟩) hS ?_
  case hc3 => simp only [List.getElem?_toArray, List.getElem?_cons_succ, List.getElem?_cons_zero]; rfl
  case wc3 => rfl
  case yc3 => (intro w hSw; replace hSw := HSI.out _ hSw; go_simp; try with_reducible rfl)
  try simp only [Act.put, List.setIfInBounds_toArray, List.set_cons_zero, List.set_cons_succ]
  refine anyL_take0 (i := 4) (oi := ?oc4) (v := ?vc4) ?hc4 (by kernel_rfl) (by kernel_rfl) (by kernel_rfl) (by kernel_rfl) (fun _ _ _ h => h) (Or.inl ⟨?wc4, ?yc4⟩) (Or.inr hS) ?_
  case hc4 => simp only [List.getElem?_toArray, List.getElem?_cons_succ, List.getElem?_cons_zero]; rfl
  case wc4 => rfl
  case yc4 => (intro w; go_simp; try with_reducible rfl)
  try simp only [Act.put, List.setIfInBounds_toArray, List.set_cons_zero, List.set_cons_succ]
  refine anyL_take (i := 5) (oi := ?oc5) (v := ?vc5) ?hc5 (by kernel_rfl) (by kernel_rfl) (by kernel_rfl) (by kernel_rfl) (by kernel_rfl) (fun _ _ _ h => h) (Or.inl ⟨?wc5, ?yc5⟩) hS ?_
  case hc5 => simp only [List.getElem?_toArray, List.getElem?_cons_succ, List.getElem?_cons_zero]; rfl
  case wc5 => rfl
  case yc5 => (intro w hSw; replace hSw := HSI.out _ hSw; go_simp; try with_reducible rfl)
  try simp only [Act.put, List.setIfInBounds_toArray, List.set_cons_zero, List.set_cons_succ]
  refine anyL_take0 (i := 7) (oi := ?oc7) (v := ?vc7) ?hc7 (by kernel_rfl) (by kernel_rfl) (by kernel_rfl) (by kernel_rfl) (fun _ _ _ h => h) (Or.inl ⟨?wc7, ?yc7⟩) (Or.inr hS) ?_
  case hc7 => simp only [List.getElem?_toArray, List.getElem?_cons_succ, List.getElem?_cons_zero]; rfl
  case wc7 => rfl
  case yc7 => (intro w; go_simp; try with_reducible rfl)
  try simp only [Act.put, List.setIfInBounds_toArray, List.set_cons_zero, List.set_cons_succ]
  refine anyL_take (i := 8) (oi := ?oc8) (v := ?vc8) ?hc8 (by kernel_rfl) (by kernel_rfl) (by kernel_rfl) (by kernel_rfl) (by kernel_rfl) (fun _ _ _ h => h) (Or.inl ⟨?wc8, ?yc8⟩) hS ?_
  case hc8 => simp only [List.getElem?_toArray, List.getElem?_cons_succ, List.getElem?_cons_zero]; rfl
  case wc8 => rfl
  case yc8 => (intro w hSw; replace hSw := HSI.out _ hSw; go_simp; try with_reducible rfl)
  try simp only [Act.put, List.setIfInBounds_toArray, List.set_cons_zero, List.set_cons_succ]
  refine anyL_one (i := 6) (o := ?oc6) (by kernel_rfl) ?hc6 ?wc6 (fun K hK => ?_)
  case hc6 => simp only [List.getElem?_toArray, List.getElem?_cons_succ, List.getElem?_cons_zero]; rfl
  case wc6 => rfl
  go_simp
  go_at_call 182
  refine (clone_c D A c k.stack _ (S2.out.below ints_good (bel_drew HBV.out)) h1).mono ?_
  rintro e w1 ⟨v1, rfl, ho, hb1⟩
  obtain ⟨A1, c1, rfl, hs1⟩ := ho.sl
  have HB1 : Hid (Below V.heap.size V w1) := Lib.hid (Below.trans (bel_drew (Below.refl _ _)) hb1)
  have HS1 : Hid (Sl 1 (elInt .i64) (fun b => V.heap.size ≤ b ∧ b < w1.heap.size) w1 A1 c1 k.stack) := Lib.hid (hs1.lt ints_good)
  clear ho hs1 hb1
  go_wp2_with fail
  refine hK _ _ (fun _ => HSE.out _ HB1.out) ?_
  replace hS := HSE.out _ HB1.out
  clear hK K
  try simp only [Act.put, List.setIfInBounds_toArray, List.set_cons_zero, List.set_cons_succ]
  refine anyL_one (i := 9) (o := ?oc9) (by kernel_rfl) ?hc9 ?wc9 (fun K hK => ?_)
  case hc9 => simp only [List.getElem?_toArray, List.getElem?_cons_succ, List.getElem?_cons_zero]; rfl
  case wc9 => rfl
  go_simp
  go_at_call 182
  refine (clone_c D A' c' k.waiting w1 ((S3.out.below ints_good HBV.out).below ints_good HB1.out) h2).mono ?_
  rintro e w2 ⟨v2, rfl, ho, hb2⟩
  obtain ⟨A2, c2, rfl, hs2⟩ := ho.sl
  have HB2 : Hid (Below V.heap.size V w2) := Lib.hid (HB1.out.trans (hb2.mono HB1.out.size))
  have HS2 : Hid (OwnI V.heap.size 2 w2 (.slice A2 k.waiting.length c2) k.waiting) := Lib.hid (ho.weaken HB1.out.size)
  have HS3 := Lib.hid (HS1.out.below ints_good hb2)
  have HN2 : Hid (∀ b, ownB A2 c2 = some b → w1.heap.size ≤ b) := Lib.hid fun b hb => (ho.base b (by
    unfold ownB at hb
    split at hb
    · cases A2 <;> exact hb
    · cases hb)).1
  clear ho hs2 hb2
  go_wp2_with fail
  refine hK _ _ (fun _ => HSE.out _ HB2.out) ?_
  replace hS := HSE.out _ HB2.out
  obtain ⟨_, _, _, _, t0, t1, t2, t3, u0, u1, u2, u3⟩ := HSI.out _ hS
  clear hK K
  try simp only [Act.put, List.setIfInBounds_toArray, List.set_cons_zero, List.set_cons_succ]
  refine anyL_take0 (i := 10) (oi := ?oc10) (v := ?vc10) ?hc10 (by kernel_rfl) (by kernel_rfl) (by kernel_rfl) (by kernel_rfl) (fun _ _ _ h => h) (Or.inl ⟨?wc10, ?yc10⟩) (Or.inr hS) ?_
  case hc10 => simp only [List.getElem?_toArray, List.getElem?_cons_succ, List.getElem?_cons_zero]; rfl
  case wc10 => rfl
  case yc10 => (intro w; go_simp; try with_reducible rfl)
  try simp only [Act.put, List.setIfInBounds_toArray, List.set_cons_zero, List.set_cons_succ]
  refine anyL_late (i := 11) (o := ?oc11) (by kernel_rfl) ?hc11 ?wc11 (by kernel_rfl) (fun K hK => ?_)
  case hc11 => simp only [List.getElem?_toArray, List.getElem?_cons_succ, List.getElem?_cons_zero]; rfl
  case wc11 => rfl
  go_simp
  refine hK _ _ ?_
  clear hK K
  try simp only [Act.put, List.setIfInBounds_toArray, List.set_cons_zero, List.set_cons_succ]
  refine anyL_end (by kernel_rfl) ?_ _
  go_wp2_with fail
  have hz := HZ.out
  refine bodyPost_ret (v := .agg #[.int .i64 k.read, .int .i64 k.state, .slice A1 k.stack.length c1, .slice A2 k.waiting.length c2]) ?_ rfl ⟨A1, c1, A2, c2, rfl, ?_, ?_, ?_⟩
  · simp [results, Tryz.results114, go_sem, t0, t1, t2, t3]
  · refine Sl.mono ints_good (D := fun b => V.heap.size ≤ b ∧ b < w1.heap.size) (Sl.keep ints_good HS3.out ?_) (fun k hk _ => ⟨by have := hk.1; omega, fun e => by have := HN2.out k e; have := hk.2; omega⟩)
    repeat' (first | (with_reducible refine Same.set ?_ (fun hk => by have := hk.1; simp at this; omega)) | (with_reducible refine Same.set ?_ (by simp; omega)) | with_reducible exact Same.refl _ _)
  · refine (HS2.out.keep fun b hb => ?_).weaken (by omega)
    have hb2 := (HS2.out.base b hb).1
    repeat' (first | (with_reducible refine (Below.heap_setCell _ _ _ b (by simp; omega)).trans ?_) | with_reducible rfl)
  · repeat' (first | (with_reducible refine Below.set ?_ (by simp)) | exact HBV.out.trans (HB2.out.mono (by omega)))
end Go.Proofs.YtcagdmaiemmfgaaGreat
