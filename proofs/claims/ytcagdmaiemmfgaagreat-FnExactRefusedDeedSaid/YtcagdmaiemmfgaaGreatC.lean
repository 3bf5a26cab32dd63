/- The program's function that tells whether a checker is valid answers what the plain function answers; for all checkers. -/
import Derived.Test.YtcagdmaiemmfgaaGreatProg
import Derived.Test.YtcagdmaiemmfgaaGreatK
import Derived.WalkKit
import Derived.WalkSpells
import Derived.WalkLawsBesides
import Derived.LoopTactic
import Derived.Deep.LoopGhost
import Derived.Deep.QuietTactic
import Derived.BigQuiet
import Derived.Deep.RegionHeld3
namespace Go.Proofs.YtcagdmaiemmfgaaGreat
open Go.RowKit


set_option maxHeartbeats 400000 in
theorem within_c (n lo hi : Int) (w : World) : Calls Tryz.prog 137 #[.int .i64 n, .int .i64 lo, .int .i64 hi] w fun e w' => e = .returned (.bool (inB lo hi n)) ∧ w = w' := by
  by_cases h : lo ≤ n
  all_goals
    go_enter Tryz.func137, Tryz.ntmps137
    go_wp2
    go_ret
    exact ⟨ret_b (by simp [inB]; try omega), rfl⟩
set_option maxHeartbeats 400000 in
theorem sizeB_c (A : Option Addr) (n c : Nat) (w : World) : Calls Tryz.prog 66 #[.slice A n c] w fun e w' => e = .returned (.int .i64 n) ∧ w = w' := by
  go_enter Tryz.func66, Tryz.ntmps66
  go_wp2
  go_ret
  exact ⟨rfl, rfl⟩
set_option maxHeartbeats 400000 in
theorem sizeP_c (A : Option Addr) (n c : Nat) (w : World) : Calls Tryz.prog 146 #[.slice A n c] w fun e w' => e = .returned (.int .i64 n) ∧ w = w' := by
  go_enter Tryz.func146, Tryz.ntmps146
  go_wp2
  go_ret
  exact ⟨rfl, rfl⟩
set_option maxHeartbeats 400000 in
theorem sizeII_c (A : Option Addr) (n c : Nat) (w : World) : Calls Tryz.prog 147 #[.slice A n c] w fun e w' => e = .returned (.int .i64 n) ∧ w = w' := by
  go_enter Tryz.func147, Tryz.ntmps147
  go_wp2
  go_ret
  exact ⟨rfl, rfl⟩
set_option maxHeartbeats 400000 in
theorem sizeI_c (A : Option Addr) (n c : Nat) (w : World) : Calls Tryz.prog 148 #[.slice A n c] w fun e w' => e = .returned (.int .i64 n) ∧ w = w' := by
  go_enter Tryz.func148, Tryz.ntmps148
  go_wp2
  go_ret
  exact ⟨rfl, rfl⟩
set_option maxHeartbeats 400000 in
theorem size1_c (A : Option Addr) (n c : Nat) (w : World) : Calls Tryz.prog 103 #[.slice A n c] w fun e w' => e = .returned (.int .i64 n) ∧ w = w' := by
  go_enter Tryz.func103, Tryz.ntmps103
  go_wp2
  go_ret
  exact ⟨rfl, rfl⟩
set_option maxHeartbeats 400000 in
theorem sizeS_c (A : Option Addr) (n c : Nat) (w : World) : Calls Tryz.prog 172 #[.slice A n c] w fun e w' => e = .returned (.int .i64 n) ∧ w = w' := by
  go_enter Tryz.func172, Tryz.ntmps172
  go_wp2
  go_ret
  exact ⟨rfl, rfl⟩
set_option maxHeartbeats 400000 in
theorem sizeR_c (A : Option Addr) (n c : Nat) (w : World) : Calls Tryz.prog 173 #[.slice A n c] w fun e w' => e = .returned (.int .i64 n) ∧ w = w' := by
  go_enter Tryz.func173, Tryz.ntmps173
  go_wp2
  go_ret
  exact ⟨rfl, rfl⟩
set_option maxHeartbeats 400000 in
theorem isState_c (x0 x1 : Int) (A0 : Option Addr) (n0 c0 : Nat) (A1 : Option Addr) (n1 c1 : Nat) (A2 : Option Addr) (n2 c2 : Nat) (A3 : Option Addr) (n3 c3 : Nat) (s : Int) (w : World) (h : n0 ≤ 9223372036854775807) :
    Calls Tryz.prog 145 #[.agg #[.int .i64 x0, .int .i64 x1, .slice A0 n0 c0, .slice A1 n1 c1, .slice A2 n2 c2, .slice A3 n3 c3], .int .i64 s] w fun e w' => e = .returned (.bool (inB 0 ((n0 : Int) - 1) s)) ∧ Below w.heap.size w w' := by
  go_enter Tryz.func145, Tryz.ntmps145
  go_wp2_with (first | (go_at_call 66; refine (sizeB_c _ _ _ _).mono ?_; rintro e w' ⟨rfl, rfl⟩) | (go_at_call 137; refine (within_c _ _ _ _).mono ?_; rintro e w' ⟨rfl, rfl⟩))
  go_ret
  exact ⟨rfl, bel1 _ _⟩
set_option maxHeartbeats 400000 in
theorem isMark_c (x0 x1 : Int) (A0 : Option Addr) (n0 c0 : Nat) (A1 : Option Addr) (n1 c1 : Nat) (A2 : Option Addr) (n2 c2 : Nat) (A3 : Option Addr) (n3 c3 : Nat) (s : Int) (w : World) (h1 : 0 ≤ x0) (h2 : x0 ≤ 9223372036854775807) :
    Calls Tryz.prog 152 #[.agg #[.int .i64 x0, .int .i64 x1, .slice A0 n0 c0, .slice A1 n1 c1, .slice A2 n2 c2, .slice A3 n3 c3], .int .i64 s] w fun e w' => e = .returned (.bool (inB 0 (x0 - 1) s)) ∧ Below w.heap.size w w' := by
  go_enter Tryz.func152, Tryz.ntmps152
  go_wp2_with (go_at_call 137; refine (within_c _ _ _ _).mono ?_; rintro e w' ⟨rfl, rfl⟩)
  go_ret
  exact ⟨rfl, bel1 _ _⟩
/-- Six cells of a checker in block b. -/
def ChkBox (w : World) (b : Nat) (x0 x1 : Int) (A0 : Option Addr) (n0 c0 : Nat) (A1 : Option Addr) (n1 c1 : Nat) (A2 : Option Addr) (n2 c2 : Nat) (A3 : Option Addr) (n3 c3 : Nat) : Prop :=
  w.cell? ⟨b, 0, none⟩ = some (.int .i64 x0) ∧ w.cell? ⟨b, 1, none⟩ = some (.int .i64 x1) ∧ w.cell? ⟨b, 2, none⟩ = some (.slice A0 n0 c0) ∧ w.cell? ⟨b, 3, none⟩ = some (.slice A1 n1 c1) ∧ w.cell? ⟨b, 4, none⟩ = some (.slice A2 n2 c2) ∧ w.cell? ⟨b, 5, none⟩ = some (.slice A3 n3 c3)
theorem ChkBox.below {w w' : World} {b : Nat} {x0 x1 : Int} {A0 : Option Addr} {n0 c0 : Nat} {A1 : Option Addr} {n1 c1 : Nat} {A2 : Option Addr} {n2 c2 : Nat} {A3 : Option Addr} {n3 c3 : Nat} (h : ChkBox w b x0 x1 A0 n0 c0 A1 n1 c1 A2 n2 c2 A3 n3 c3) (hb : Below w.heap.size w w') : ChkBox w' b x0 x1 A0 n0 c0 A1 n1 c1 A2 n2 c2 A3 n3 c3 := by
  have hl := lt_of_cell h.1
  have key : ∀ o, w'.cell? ⟨b, o, none⟩ = w.cell? ⟨b, o, none⟩ := fun o => hb.cell (p := ⟨b, o, none⟩) hl
  obtain ⟨h0, h1, h2, h3, h4, h5⟩ := h
  exact ⟨(key _).trans h0, (key _).trans h1, (key _).trans h2, (key _).trans h3, (key _).trans h4, (key _).trans h5⟩
set_option maxHeartbeats 400000 in
theorem areState_c (b : Nat) (x0 x1 : Int) (A0 : Option Addr) (n0 c0 : Nat) (A1 : Option Addr) (n1 c1 : Nat) (A2 : Option Addr) (n2 c2 : Nat) (A3 : Option Addr) (n3 c3 : Nat) (s : Int) (w : World) (h : n0 ≤ 9223372036854775807) (hb : ChkBox w b x0 x1 A0 n0 c0 A1 n1 c1 A2 n2 c2 A3 n3 c3) :
    Calls Tryz.prog 151 #[.int .i64 s, .pointer (some ⟨b, 0, none⟩)] w fun e w' => e = .returned (.bool (!inB 0 ((n0 : Int) - 1) s)) ∧ Below w.heap.size w w' := by
  obtain ⟨p0, p1, p2, p3, p4, p5⟩ := hb
  go_enter Tryz.func151, Tryz.ntmps151
  go_wp2_with fail
  refine (isState_c x0 x1 A0 n0 c0 A1 n1 c1 A2 n2 c2 A3 n3 c3 s _ h).mono ?_
  rintro e w' ⟨rfl, hb⟩
  go_wp2_with fail
  go_ret
  exact ⟨rfl, hb⟩
/-- The closure answers p of each element, in every world that has what is there now. -/
def Enters (P : Program) (f : FuncId) : Prop := ∀ (args : Array Value) (w : World), (callFunc f args).run P w = .ok (.enter f args) w
/-- The closure f, called with ar x, answers p x, in every world that has what is there now. -/
def PredB {α : Type} (P : Program) (f : FuncId) (ar : α → Array Value) (p : α → Bool) (w : World) : Prop :=
  ∀ (x : α) (w1 : World), Below w.heap.size w w1 → Calls P f (ar x) w1 fun e w' => e = .returned (.bool (p x)) ∧ Below w1.heap.size w1 w'
def IdxPost (b : Bool) (w : World) (e : Ending) (w' : World) : Prop := ∃ r : Int, e = .returned (.int .i64 r) ∧ (if b then 0 ≤ r else r = -1) ∧ Below w.heap.size w w'
theorem any_of_true {α : Type} {p : α → Bool} {xs : List α} {k : Nat} (h : k < xs.length) (hp : p xs[k] = true) : xs.any p = true := by
  rw [List.any_eq_true]; exact ⟨xs[k], List.getElem_mem h, hp⟩
theorem any_false {α : Type} {p : α → Bool} {xs : List α} (h : ∀ (j : Nat) (x : α), j < xs.length → xs[j]? = some x → p x = false) : xs.any p = false := by
  rw [List.any_eq_false]
  intro x hx
  obtain ⟨j, hj, rfl⟩ := List.getElem_of_mem hx
  simp [h j xs[j] hj (List.getElem?_eq_getElem hj)]

set_option maxHeartbeats 400000 in
set_option maxRecDepth 100000 in
theorem indexFuncI_c (D : Dom) (A : Option Addr) (c : Nat) (xs : List (Int)) (f : FuncId) (q : Value) (p : Int → Bool) (w : World) (hs : Sl 1 (elInt .i64) D w A c xs) (hf : Enters Tryz.prog f) (hp : PredB Tryz.prog f (fun x => #[.int .i64 x, q]) p w) :
    Calls Tryz.prog 195 #[.slice A xs.length c, .func (.func f) #[] #[q]] w (IdxPost (xs.any p) w) := by
  have hl := hs.le
  unfold Enters at hf
  have HS0 := Lib.hid hs
  have HP := Lib.hid hp
  clear hs hp
  go_enter Tryz.func195, Tryz.ntmps195
  go_wp2_with fail
  go_loopg [8] xs.length (fun q i wr => ∃ k : Nat, k ≤ xs.length ∧ q = xs.length - k ∧ i = .int .i64 k ∧ (∀ (j : Nat) (x : Int), j < k → xs[j]? = some x → p x = false) ∧ Below w.heap.size w wr)
  case atStart => exact ⟨0, by omega, by omega, rfl, fun j x hj => by omega, Below.refl _ _⟩
  case round =>
    obtain ⟨k, hk, hq, rfl, hall, hbel⟩ := hrel
    have HQ := Lib.hid hq
    have HA := Lib.hid hall
    have HB := Lib.hid hbel
    have HS := Lib.hid (HS0.out.below ints_good hbel)
    clear hq hall hbel HS0
    by_cases hlt : k < xs.length
    · obtain ⟨b, off, rfl, hc⟩ := HS.out.at_ hlt
      unfold elInt at hc
      simp only [Nat.mul_one] at hc
      go_wp2_with fail
      refine (HP.out xs[k] _ HB.out).mono ?_
      rintro e w1 ⟨rfl, hb1⟩
      have HB1 := Lib.hid (HB.out.trans (hb1.mono HB.out.size))
      clear hb1
      cases hx : p xs[k]
      · have HX := Lib.hid hx
        clear hx
        go_wp2_with fail
        go_roundg (xs.length - (k + 1))
        case measure => have := HQ.out; omega
        case rel => exact ⟨k + 1, by omega, rfl, by go_num, fun j x hj hx => (Nat.lt_or_eq_of_le (Nat.le_of_lt_succ hj)).elim (fun h => HA.out j x h hx) (fun h => by subst h; rw [List.getElem?_eq_getElem hlt] at hx; injection hx with hx; rw [← hx]; exact HX.out), HB1.out⟩
      · have HX := Lib.hid hx
        clear hx
        go_wp2_with fail
        go_ret
        exact ⟨k, rfl, by rw [any_of_true hlt HX.out]; simp, HB1.out⟩
    · go_wp2_with fail
      go_ret
      exact ⟨-1, rfl, by rw [any_false (fun j x hj hx => HA.out j x (by omega) hx)]; simp, HB.out⟩
set_option maxHeartbeats 400000 in
theorem containsFuncI_c (D : Dom) (A : Option Addr) (c : Nat) (xs : List (Int)) (f : FuncId) (q : Value) (p : Int → Bool) (w : World) (hs : Sl 1 (elInt .i64) D w A c xs) (hf : Enters Tryz.prog f) (hp : PredB Tryz.prog f (fun x => #[.int .i64 x, q]) p w) :
    Calls Tryz.prog 150 #[.slice A xs.length c, .func (.func f) #[] #[q]] w fun e w' => e = .returned (.bool (xs.any p)) ∧ Below w.heap.size w w' := by
  have HS := Lib.hid hs
  have HP := Lib.hid hp
  have HF := Lib.hid hf
  clear hs hp hf
  go_enter Tryz.func150, Tryz.ntmps150
  go_wp2_with fail
  refine (indexFuncI_c D A c xs f q p w HS.out HF.out HP.out).mono ?_
  rintro e w1 ⟨r, rfl, hr, hb⟩
  have HB := Lib.hid hb
  clear hb
  cases ha : xs.any p
  · rw [ha] at hr
    simp only [Bool.false_eq_true, if_false] at hr
    subst hr
    go_wp2_with fail
    go_ret
    exact ⟨ret_b ha.symm, HB.out⟩
  · rw [ha] at hr
    simp only [if_true] at hr
    go_wp2_with fail
    go_ret
    first | exact ⟨ret_b ha.symm, HB.out⟩ | exact ⟨ret_b (by rw [ha]; simp; omega), HB.out⟩
theorem enters_151 : Enters Tryz.prog 151 := fun args w => by kernel_rfl
set_option maxHeartbeats 400000 in
theorem areStates_c (D : Dom) (b : Nat) (x0 x1 : Int) (A0 : Option Addr) (n0 c0 : Nat) (A1 : Option Addr) (n1 c1 : Nat) (A2 : Option Addr) (n2 c2 : Nat) (A3 : Option Addr) (n3 c3 : Nat) (A : Option Addr) (c : Nat) (xs : List Int) (many : Int) (w : World) (h : n0 ≤ 9223372036854775807) (hb : ChkBox w b x0 x1 A0 n0 c0 A1 n1 c1 A2 n2 c2 A3 n3 c3) (hs : Sl 1 (elInt .i64) D w A c xs) :
    Calls Tryz.prog 149 #[.slice A xs.length c, .int .i64 many, .pointer (some ⟨b, 0, none⟩)] w fun e w' => e = .returned (.bool (okList xs many n0)) ∧ Below w.heap.size w w' := by
  have hl := hs.le
  have HS := Lib.hid hs
  have HC := Lib.hid hb
  clear hs hb
  have hp : PredB Tryz.prog 151 (fun x => #[.int .i64 x, .pointer (some ⟨b, 0, none⟩)]) (fun x => !inB 0 ((n0 : Int) - 1) x) w :=
    fun x w1 hb1 => areState_c b x0 x1 A0 n0 c0 A1 n1 c1 A2 n2 c2 A3 n3 c3 x w1 h (HC.out.below hb1)
  have HP := Lib.hid hp
  clear hp
  have hv : okList xs many n0 = (decide ((xs.length : Int) = many) && !(xs.any fun x => !inB 0 ((n0 : Int) - 1) x)) := by
    unfold okList
    rw [List.all_eq_not_any_not]
  have HV := Lib.hid hv
  clear hv
  by_cases hm : (xs.length : Int) = many
  · subst hm
    go_enter Tryz.func149, Tryz.ntmps149
    go_wp2_with (go_at_call 103; refine (size1_c _ _ _ _).mono ?_; rintro e w' ⟨rfl, rfl⟩)
    refine (containsFuncI_c D _ _ xs _ (.pointer (some ⟨b, 0, none⟩)) _ _ HS.out enters_151 HP.out).mono ?_
    rintro e w1 ⟨rfl, hb⟩
    have HB := Lib.hid hb
    clear hb
    go_wp2_with fail
    go_ret
    exact ⟨ret_b (by rw [HV.out]; simp), HB.out⟩
  · go_enter Tryz.func149, Tryz.ntmps149
    go_wp2_with (go_at_call 103; refine (size1_c _ _ _ _).mono ?_; rintro e w' ⟨rfl, rfl⟩)
    go_ret
    exact ⟨ret_b (by rw [HV.out]; simp [hm]), Below.refl _ _⟩
end Go.Proofs.YtcagdmaiemmfgaaGreat
