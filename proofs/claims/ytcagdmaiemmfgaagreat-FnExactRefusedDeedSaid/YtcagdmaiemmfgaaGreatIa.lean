/- The program's search among texts and deeds with a test; for all lists. -/
import Derived.Test.YtcagdmaiemmfgaaGreatCk
import Derived.Test.YtcagdmaiemmfgaaGreatSn
namespace Go.Proofs.YtcagdmaiemmfgaaGreat
open Go.RowKit

/-- The closure f, called with ar x, answers p x of each x of xs, in every world that has what is there now. -/
def PredIn {α : Type} (P : Program) (f : FuncId) (ar : α → Array Value) (p : α → Bool) (xs : List α) (w : World) : Prop :=
  ∀ x ∈ xs, ∀ (w1 : World), Below w.heap.size w w1 → Calls P f (ar x) w1 fun e w' => e = .returned (.bool (p x)) ∧ Below w1.heap.size w1 w'


set_option maxHeartbeats 400000 in
set_option maxRecDepth 100000 in
theorem indexFuncS_c (D : Dom) (A : Option Addr) (c : Nat) (xs : List (ByteArray)) (f : FuncId) (p : ByteArray → Bool) (w : World) (hs : Sl 1 elStr D w A c xs) (hf : Enters Tryz.prog f) (hp : PredIn Tryz.prog f (fun x => #[.string x]) p xs w) :
    Calls Tryz.prog 223 #[.slice A xs.length c, .func (.func f) #[] #[]] w (IdxPost (xs.any p) w) := by
  have hl := hs.le
  unfold Enters at hf
  have HS0 := Lib.hid hs
  have HP := Lib.hid hp
  clear hs hp
  go_enter Tryz.func223, Tryz.ntmps223
  go_wp2_with fail
  go_loopg [8] xs.length (fun q i wr => ∃ k : Nat, k ≤ xs.length ∧ q = xs.length - k ∧ i = .int .i64 k ∧ (∀ (j : Nat) (x : ByteArray), j < k → xs[j]? = some x → p x = false) ∧ Below w.heap.size w wr)
  case atStart => exact ⟨0, by omega, by omega, rfl, fun j x hj => by omega, Below.refl _ _⟩
  case round =>
    obtain ⟨k, hk, hq, rfl, hall, hbel⟩ := hrel
    have HQ := Lib.hid hq
    have HA := Lib.hid hall
    have HB := Lib.hid hbel
    have HS := Lib.hid (HS0.out.below elStr_good hbel)
    clear hq hall hbel HS0
    by_cases hlt : k < xs.length
    · obtain ⟨b, off, rfl, hc, hcs⟩ := HS.out.at_ hlt
      simp only [Nat.mul_one] at hc
      go_wp2_with fail
      refine (HP.out xs[k] (List.getElem_mem hlt) _ HB.out).mono ?_
      rintro e w1 ⟨rfl, hb1⟩
      have HB1 := Lib.hid (HB.out.trans (hb1.mono HB.out.size))
      clear hb1
      cases hx : p xs[k]
      · have HX := Lib.hid hx
        clear hx
        go_wp2_with fail
        go_roundg (xs.length - (k + 1))
        case measure => have := HQ.out; omega
        case rel => exact ⟨k + 1, by omega, rfl, by go_num, fun j x hj hx => (Nat.lt_or_eq_of_le (Nat.le_of_lt_succ hj)).elim (fun h => HA.out j x h hx) (fun h => by subst h; rw [List.getElem?_eq_getElem hlt] at hx; injection hx with hx; rw [← hx]; exact HX.out), HB1.out⟩
      · have HX := Lib.hid hx
        clear hx
        go_wp2_with fail
        go_ret
        exact ⟨k, rfl, by rw [any_of_true hlt HX.out]; simp, HB1.out⟩
    · go_wp2_with fail
      go_ret
      exact ⟨-1, rfl, by rw [any_false (fun j x hj hx => HA.out j x (by omega) hx)]; simp, HB.out⟩
set_option maxHeartbeats 400000 in
theorem containsFuncS_c (D : Dom) (A : Option Addr) (c : Nat) (xs : List (ByteArray)) (f : FuncId) (p : ByteArray → Bool) (w : World) (hs : Sl 1 elStr D w A c xs) (hf : Enters Tryz.prog f) (hp : PredIn Tryz.prog f (fun x => #[.string x]) p xs w) :
    Calls Tryz.prog 204 #[.slice A xs.length c, .func (.func f) #[] #[]] w fun e w' => e = .returned (.bool (xs.any p)) ∧ Below w.heap.size w w' := by
  have HS := Lib.hid hs
  have HP := Lib.hid hp
  have HF := Lib.hid hf
  clear hs hp hf
  go_enter Tryz.func204, Tryz.ntmps204
  go_wp2_with fail
  refine (indexFuncS_c D A c xs f p w HS.out HF.out HP.out).mono ?_
  rintro e w1 ⟨r, rfl, hr, hb⟩
  have HB := Lib.hid hb
  clear hb
  cases ha : xs.any p
  · rw [ha] at hr
    simp only [Bool.false_eq_true, if_false] at hr
    subst hr
    go_wp2_with fail
    go_ret
    exact ⟨ret_b ha.symm, HB.out⟩
  · rw [ha] at hr
    simp only [if_true] at hr
    go_wp2_with fail
    go_ret
    first | exact ⟨ret_b ha.symm, HB.out⟩ | exact ⟨ret_b (by rw [ha]; simp; omega), HB.out⟩

set_option maxHeartbeats 400000 in
set_option maxRecDepth 100000 in
theorem indexFuncD_c (D : Dom) (A : Option Addr) (c : Nat) (xs : List (Deed)) (f : FuncId) (p : Deed → Bool) (w : World) (hs : Sl 3 elDeed D w A c xs) (hf : Enters Tryz.prog f) (hp : PredIn Tryz.prog f (fun x => #[.agg #[.int .i64 x.kind, .int .i64 x.a, .int .i64 x.b]]) p xs w) :
    Calls Tryz.prog 207 #[.slice A xs.length c, .func (.func f) #[] #[]] w (IdxPost (xs.any p) w) := by
  have hl := hs.le
  unfold Enters at hf
  have HS0 := Lib.hid hs
  have HP := Lib.hid hp
  clear hs hp
  go_enter Tryz.func207, Tryz.ntmps207
  go_wp2_with fail
  go_loopg [8] xs.length (fun q i wr => ∃ k : Nat, k ≤ xs.length ∧ q = xs.length - k ∧ i = .int .i64 k ∧ (∀ (j : Nat) (x : Deed), j < k → xs[j]? = some x → p x = false) ∧ Below w.heap.size w wr)
  case atStart => exact ⟨0, by omega, by omega, rfl, fun j x hj => by omega, Below.refl _ _⟩
  case round =>
    obtain ⟨k, hk, hq, rfl, hall, hbel⟩ := hrel
    have HQ := Lib.hid hq
    have HA := Lib.hid hall
    have HB := Lib.hid hbel
    have HS := Lib.hid (HS0.out.below elDeed_good hbel)
    clear hq hall hbel HS0
    by_cases hlt : k < xs.length
    · obtain ⟨b, off, rfl, hc, hc1, hc2⟩ := HS.out.at_ hlt
      skip
      go_wp2_with fail
      refine (HP.out xs[k] (List.getElem_mem hlt) _ HB.out).mono ?_
      rintro e w1 ⟨rfl, hb1⟩
      have HB1 := Lib.hid (HB.out.trans (hb1.mono HB.out.size))
      clear hb1
      cases hx : p xs[k]
      · have HX := Lib.hid hx
        clear hx
        go_wp2_with fail
        go_roundg (xs.length - (k + 1))
        case measure => have := HQ.out; omega
        case rel => exact ⟨k + 1, by omega, rfl, by go_num, fun j x hj hx => (Nat.lt_or_eq_of_le (Nat.le_of_lt_succ hj)).elim (fun h => HA.out j x h hx) (fun h => by subst h; rw [List.getElem?_eq_getElem hlt] at hx; injection hx with hx; rw [← hx]; exact HX.out), HB1.out⟩
      · have HX := Lib.hid hx
        clear hx
        go_wp2_with fail
        go_ret
        exact ⟨k, rfl, by rw [any_of_true hlt HX.out]; simp, HB1.out⟩
    · go_wp2_with fail
      go_ret
      exact ⟨-1, rfl, by rw [any_false (fun j x hj hx => HA.out j x (by omega) hx)]; simp, HB.out⟩
set_option maxHeartbeats 400000 in
theorem containsFuncD_c (D : Dom) (A : Option Addr) (c : Nat) (xs : List (Deed)) (f : FuncId) (p : Deed → Bool) (w : World) (hs : Sl 3 elDeed D w A c xs) (hf : Enters Tryz.prog f) (hp : PredIn Tryz.prog f (fun x => #[.agg #[.int .i64 x.kind, .int .i64 x.a, .int .i64 x.b]]) p xs w) :
    Calls Tryz.prog 169 #[.slice A xs.length c, .func (.func f) #[] #[]] w fun e w' => e = .returned (.bool (xs.any p)) ∧ Below w.heap.size w w' := by
  have HS := Lib.hid hs
  have HP := Lib.hid hp
  have HF := Lib.hid hf
  clear hs hp hf
  go_enter Tryz.func169, Tryz.ntmps169
  go_wp2_with fail
  refine (indexFuncD_c D A c xs f p w HS.out HF.out HP.out).mono ?_
  rintro e w1 ⟨r, rfl, hr, hb⟩
  have HB := Lib.hid hb
  clear hb
  cases ha : xs.any p
  · rw [ha] at hr
    simp only [Bool.false_eq_true, if_false] at hr
    subst hr
    go_wp2_with fail
    go_ret
    exact ⟨ret_b ha.symm, HB.out⟩
  · rw [ha] at hr
    simp only [if_true] at hr
    go_wp2_with fail
    go_ret
    first | exact ⟨ret_b ha.symm, HB.out⟩ | exact ⟨ret_b (by rw [ha]; simp; omega), HB.out⟩
end Go.Proofs.YtcagdmaiemmfgaaGreat
