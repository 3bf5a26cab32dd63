/- What came in reads as slices, streams and deeds in memory; no condition. -/
import Derived.Test.YtcagdmaiemmfgaaGreatRl
import Derived.Test.YtcagdmaiemmfgaaGreatRows
import Derived.Deep.Slices
import Derived.Deep.Strs
import Derived.ChangeSame
import Derived.ChangeArms
import Derived.DataReads
import Derived.WalkKit
import Derived.ProofKit
import Derived.OpenShut
namespace Go.Proofs.YtcagdmaiemmfgaaGreat
open Go.ChangeShapes Go.WideShapes Go.ChangeAt Go.RowKit Go.Deep

abbrev All : Dom := fun _ => True
/-- What reads at a type lies in memory. -/
def Opens {α : Type} (P : Program) (t : TypeId) (sz : Nat) (e : El α) : Prop :=
  ∀ {H : Type} {enc : TypeId × Value → H} {w : World} {base : Nat} {spare : Nat → Bool} {held : Bool} {fuel : Nat} {cs : List Value} {x : DataW H × List MemPlace}, DataW.trod enc P w base spare held fuel t cs = some x →
    ∃ a : α, ∀ b o, (∀ j, j < sz → w.cell? ⟨b, o + j, none⟩ = cs[j]?) → e All w b o a
theorem opens_int {P : Program} {t : TypeId} {k : IntKind} (ht : P.underlying t = some (.int k)) : Opens P t 1 (elInt k) := by
  intro H enc w base spare held fuel cs x h
  obtain ⟨n, rfl, _, _⟩ := DataW.trod_int ht h
  exact ⟨n, fun b o hc => hc 0 (by omega)⟩
theorem opens_bool {P : Program} {t : TypeId} (ht : P.underlying t = some .bool) : Opens P t 1 elBool := by
  intro H enc w base spare held fuel cs x h
  obtain ⟨n, rfl, _⟩ := DataW.trod_bool ht h
  exact ⟨n, fun b o hc => hc 0 (by omega)⟩
theorem opens_str {P : Program} {t : TypeId} (ht : P.underlying t = some .string) : Opens P t 1 elStr := by
  intro H enc w base spare held fuel cs x h
  obtain ⟨n, rfl, _, hs⟩ := DataW.trod_string ht h
  exact ⟨n, fun b o hc => ⟨hc 0 (by omega), hs⟩⟩
theorem list_of_each {α : Type} {n : Nat} {p : Nat → α → Prop} (h : ∀ i, i < n → ∃ y, p i y) : ∃ xs : List α, xs.length = n ∧ ∀ i y, xs[i]? = some y → p i y := by
  induction n with
  | zero => exact ⟨[], rfl, fun i y hy => by cases hy⟩
  | succ k ih =>
    obtain ⟨xs, h1, h2⟩ := ih fun i hi => h i (by omega)
    obtain ⟨y, hy⟩ := h k (by omega)
    refine ⟨xs ++ [y], by simp [h1], fun i z hz => ?_⟩
    rcases Nat.lt_or_ge i xs.length with h3 | h3
    · rw [List.getElem?_append_left h3] at hz
      exact h2 i z hz
    · rw [List.getElem?_append_right h3] at hz
      have hi : i = k := by
        have := (List.getElem?_eq_some_iff.1 hz).1
        simp at this
        omega
      subst hi
      rw [h1, Nat.sub_self] at hz
      simp only [List.getElem?_cons_zero, Option.some.injEq] at hz
      subst hz
      exact hy
/-- A slice that came in. -/
theorem sl_of_trod {α : Type} {P : Program} {t e : TypeId} {sz : Nat} {el : El α} (hp : 0 < sz) (ho : Opens P e sz el) (ht : P.underlying t = some (.slice e)) (hc : P.cellsOf e = sz) {H : Type} {enc : TypeId × Value → H} {w : World} {base : Nat} {spare : Nat → Bool} {held : Bool} {fuel : Nat} {cs : List Value} {x : DataW H × List MemPlace}
    (h : DataW.trod enc P w base spare held fuel t cs = some x) : ∃ (A : Option Addr) (c : Nat) (xs : List α), cs = [.slice A xs.length c] ∧ Sl sz el All w A c xs := by
  rcases open_slice ht h with ⟨rfl, _⟩ | ⟨a, len, cap, m, n, D, Pl, rfl, _, hl, hm, hmm, _, hx⟩
  · exact ⟨none, 0, [], rfl, Sl.nil⟩
  · have hlm : len ≤ m := by rw [hmm]; split <;> omega
    have each : ∀ i, i < len → ∃ y : α, ∀ b o, (∀ j, j < sz → w.cell? ⟨b, o + j, none⟩ = w.cell? ((a.add (i * sz)).add j)) → el All w b o y := by
      intro i hi
      obtain ⟨cs', h1, h2⟩ := hx i (by omega)
      rw [hc] at h1
      obtain ⟨_, hlen, hcell⟩ := World.cells?_some h1
      obtain ⟨y, hy⟩ := ho h2
      exact ⟨y, fun b o hb => hy b o fun j hj => (hb j hj).trans (hcell j hj)⟩
    have hspot : 0 < len → a.spot = none := fun h0 => by
      obtain ⟨cs', h1, _⟩ := hx 0 (by omega)
      rw [hc] at h1
      obtain ⟨_, hlen, hcell⟩ := World.cells?_some h1
      have := hcell 0 hp
      rw [List.getElem?_eq_getElem (by omega)] at this
      have h3 := World.cell?_spot this
      simpa [Addr.add] using h3
    clear hx
    obtain ⟨xs, hxs, hx2⟩ := list_of_each each
    refine ⟨some a, cap, xs, by rw [hxs], by rw [hxs]; exact hl, hm, fun h0 => ?_⟩
    obtain ⟨b, off, sp⟩ := a
    obtain rfl : sp = none := hspot (by omega)
    exact ⟨b, off, rfl, trivial, fun i y hy => hx2 i y hy b (off + i * sz) fun j _ => by rw [add_flat, add_flat]⟩
theorem opens_sl {α : Type} {P : Program} {t e : TypeId} {sz : Nat} {el : El α} (hp : 0 < sz) (ho : Opens P e sz el) (ht : P.underlying t = some (.slice e)) (hc : P.cellsOf e = sz) : Opens P t 1 (elSl sz el) := by
  intro H enc w base spare held fuel cs x h
  obtain ⟨A, c, xs, rfl, hs⟩ := sl_of_trod hp ho ht hc h
  exact ⟨xs, fun b o hb => ⟨A, c, hb 0 (by omega), hs⟩⟩
theorem laidOut : laidOutB Tryz.prog = true := by kernel_rfl
theorem cI : Tryz.prog.cellsOf 2 = 1 := by kernel_rfl
theorem cB : Tryz.prog.cellsOf 4 = 1 := by kernel_rfl
theorem cS : Tryz.prog.cellsOf 9 = 1 := by kernel_rfl
theorem cPush : Tryz.prog.cellsOf 232 = 2 := by kernel_rfl
theorem cDeed : Tryz.prog.cellsOf 152 = 3 := by kernel_rfl
theorem cStream : Tryz.prog.cellsOf 54 = 7 := by kernel_rfl
theorem cChecker : Tryz.prog.cellsOf 32 = 6 := by kernel_rfl
theorem cSS : Tryz.prog.cellsOf 52 = 1 := by kernel_rfl
theorem cBS : Tryz.prog.cellsOf 27 = 1 := by kernel_rfl
theorem cIS : Tryz.prog.cellsOf 70 = 1 := by kernel_rfl
theorem cISS : Tryz.prog.cellsOf 30 = 1 := by kernel_rfl
theorem cISSS : Tryz.prog.cellsOf 29 = 1 := by kernel_rfl
theorem cPS : Tryz.prog.cellsOf 180 = 1 := by kernel_rfl
theorem cPSS : Tryz.prog.cellsOf 28 = 1 := by kernel_rfl
set_option maxRecDepth 100000 in
theorem opens_push : Opens Tryz.prog 232 2 elPush := by
  intro H enc w base spare held fuel cs x h
  obtain ⟨y0, y1, n, _, hl, h0, h1⟩ := trod_struct2 Tryz.underlying232 h
  rw [cPush] at hl
  match cs, hl with
  | [u0, u1], _ =>
    obtain ⟨a0, e0, _, _⟩ := DataW.trod_int Tryz.underlying2 h0
    obtain ⟨a1, e1, _, _⟩ := DataW.trod_int Tryz.underlying2 h1
    rw [cI] at e0 e1
    simp at e0 e1
    subst e0 e1
    exact ⟨⟨a0, a1⟩, fun b o hc => ⟨hc 0 (by omega), hc 1 (by omega)⟩⟩
set_option maxRecDepth 100000 in
theorem opens_deed : Opens Tryz.prog 152 3 elDeed := by
  intro H enc w base spare held fuel cs x h
  obtain ⟨y0, y1, y2, n, _, hl, h0, h1, h2⟩ := trod_struct3 Tryz.underlying152 h
  rw [cDeed] at hl
  match cs, hl with
  | [u0, u1, u2], _ =>
    obtain ⟨a0, e0, _, _⟩ := DataW.trod_int Tryz.underlying2 h0
    obtain ⟨a1, e1, _, _⟩ := DataW.trod_int Tryz.underlying2 h1
    obtain ⟨a2, e2, _, _⟩ := DataW.trod_int Tryz.underlying2 h2
    rw [cI] at e0 e1 e2
    simp at e0 e1 e2
    subst e0 e1 e2
    exact ⟨⟨a0, a1, a2⟩, fun b o hc => ⟨hc 0 (by omega), hc 1 (by omega), hc 2 (by omega)⟩⟩
theorem list6 {α : Type} {cs : List α} (h : cs.length = 6) : ∃ c0 c1 c2 c3 c4 c5, cs = [c0, c1, c2, c3, c4, c5] := by
  match cs, h with
  | [c0, c1, c2, c3, c4, c5], _ => exact ⟨c0, c1, c2, c3, c4, c5, rfl⟩
theorem array7 {α : Type} {cs : Array α} (h : cs.size = 7) : ∃ c0 c1 c2 c3 c4 c5 c6, cs = #[c0, c1, c2, c3, c4, c5, c6] := by
  obtain ⟨l⟩ := cs
  match l, h with
  | [c0, c1, c2, c3, c4, c5, c6], _ => exact ⟨c0, c1, c2, c3, c4, c5, c6, rfl⟩
section
variable {H : Type} {enc : TypeId × Value → H} {W : World} {base b0 : Nat} {spare : Nat → Bool} {held : Bool} {r : Reach}
set_option maxRecDepth 100000 in
/-- A stream that came in. -/
theorem open_stream {v : Value} {d : DataW H} {ps : List MemPlace} (hv : Value.okWide Tryz.prog W r b0 54 v) (h : DataW.Trod enc Tryz.prog W base spare held 54 v d ps) :
    ∃ A0 c0 A1 c1 A2 c2 A3 c3 A4 c4 k p, v = .agg (strV A0 c0 A1 c1 A2 c2 A3 c3 A4 c4 k p) ∧ StrAt All W A0 c0 A1 c1 A2 c2 A3 c3 A4 c4 k p := by
  obtain ⟨cs, rfl, hz⟩ := okWide_struct Tryz.underlying54 hv
  rw [cStream] at hz
  obtain ⟨u0, u1, u2, u3, u4, u5, u6, rfl⟩ := array7 hz
  obtain ⟨fuel, hf⟩ := h
  obtain ⟨y0, y1, n, _, _, h0, h1⟩ := trod_struct2 Tryz.underlying54 hf
  rw [cChecker] at h0
  rw [cSS] at h1
  simp [Value.cells] at h0 h1
  obtain ⟨A4, c4, p, e4, s4⟩ := sl_of_trod (by omega) (opens_str Tryz.underlying9) Tryz.underlying52 cS h1
  obtain ⟨xs, m, _, _, _, hxl, hx⟩ := DataW.trod_struct Tryz.underlying32 h0
  obtain ⟨z0, z1, z2, z3, z4, z5, rfl⟩ := list6 hxl
  have g0 := hx 0 _ rfl
  have g1 := hx 1 _ rfl
  have g2 := hx 2 _ rfl
  have g3 := hx 3 _ rfl
  have g4 := hx 4 _ rfl
  have g5 := hx 5 _ rfl
  clear hx
  simp [cI] at g0 g1
  simp [cBS] at g2
  simp [cPSS] at g3
  simp [cISSS] at g4
  simp [cISS] at g5
  obtain ⟨n0, e0, _, _⟩ := DataW.trod_int Tryz.underlying2 g0
  obtain ⟨n1, e1, _, _⟩ := DataW.trod_int Tryz.underlying2 g1
  obtain ⟨A0, c0, l0, e2, s0⟩ := sl_of_trod (by omega) (opens_bool Tryz.underlying4) Tryz.underlying27 cB g2
  obtain ⟨A1, c1, l1, e3, s1⟩ := sl_of_trod (by omega) (opens_sl (by omega) opens_push Tryz.underlying180 cPush) Tryz.underlying28 cPS g3
  obtain ⟨A2, c2, l2, e5, s2⟩ := sl_of_trod (by omega) (opens_sl (by omega) (opens_sl (by omega) (opens_int Tryz.underlying2) Tryz.underlying70 cI) Tryz.underlying30 cIS) Tryz.underlying29 cISS g4
  obtain ⟨A3, c3, l3, e6, s3⟩ := sl_of_trod (by omega) (opens_sl (by omega) (opens_int Tryz.underlying2) Tryz.underlying70 cI) Tryz.underlying30 cIS g5
  simp only [List.cons.injEq, and_true] at e0 e1 e2 e3 e4 e5 e6
  subst e0 e1 e2 e3 e4 e5 e6
  exact ⟨A0, c0, A1, c1, A2, c2, A3, c3, A4, c4, ⟨n0, n1, l0, l1, l2, l3⟩, p, rfl, ⟨⟨s0, s1, s2, s3⟩, s4⟩⟩
set_option maxRecDepth 100000 in
/-- Deeds that came in. -/
theorem open_deeds {v : Value} {d : DataW H} {ps : List MemPlace} (hv : Value.okWide Tryz.prog W r b0 55 v) (h : DataW.Trod enc Tryz.prog W base spare held 55 v d ps) :
    ∃ (A : Option Addr) (c : Nat) (xs : List Deed), v = .slice A xs.length c ∧ Sl 3 elDeed All W A c xs := by
  obtain ⟨a, len, cap, rfl⟩ := okWide_slice Tryz.underlying55 hv
  obtain ⟨fuel, hf⟩ := h
  obtain ⟨A, c, xs, e, hs⟩ := sl_of_trod (by omega) opens_deed Tryz.underlying55 cDeed hf
  simp only [Value.cells] at e
  exact ⟨A, c, xs, by simpa using e, hs⟩
end
end Go.Proofs.YtcagdmaiemmfgaaGreat
