/- The reference's tests of deeds and of a stream with its deeds answer what the plain tests answer; for all streams and deeds. -/
import Derived.Test.YtcagdmaiemmfgaaGreatSd
namespace Go.Proofs.YtcagdmaiemmfgaaGreat
open Go.RowKit

def toldL : List Int := [0, 2, 1, 1, 1, 0, 0]
def wordsL : List ByteArray := [⟨#[]⟩, ⟨#[115, 101, 110, 100]⟩, ⟨#[100, 101, 108, 105, 118, 101, 114]⟩, ⟨#[99, 111, 112, 121]⟩, ⟨#[100, 114, 111, 112]⟩, ⟨#[115, 97, 118, 101]⟩, ⟨#[99, 114, 97, 115, 104]⟩]
def told (k : Int) : Int := toldL.getD k.toNat 0
def okDeed (x : Deed) : Bool := inB 1 6 x.kind && (inB 0 999 x.a && (inB 0 999 x.b && ((decide (0 < told x.kind) || decide (x.a = 0)) && (decide (1 < told x.kind) || decide (x.b = 0)))))
/-- The code of a stream and deeds. -/
def askedC (d : Chk) (p : List ByteArray) (xs : List Deed) : Int := if okStream d p = true ∧ xs.all okDeed = true then (if xs.length ≤ 300 then 0 else 2) else 1
/-- A call hands back the words of kinds of deeds and how many numbers they tell. -/
def RetWords (w : World) (e : Ending) (w' : World) : Prop :=
  ∃ A0 c0 A c, e = .returned (.tuple #[.slice A0 wordsL.length c0, .slice A toldL.length c]) ∧ Sl 1 elStr (fun b => w.heap.size ≤ b) w' A0 c0 wordsL ∧ Sl 1 (elInt .i64) (fun b => w.heap.size ≤ b) w' A c toldL ∧ Below w.heap.size w w'
theorem litSl {α : Type} {e : El α} {D : Dom} {w : World} {g : Nat} {t : TypeId} {xs : List α} {val : α → Value} (he : ∀ b o x, x ∈ xs → w.cell? ⟨b, o, none⟩ = some (val x) → e D w b o x)
    (h : w.heap[g]? = some (.cells (xs.map val).toArray t (0, 0))) (hD : D g) (hm : xs.length ≤ maxLen) : Sl 1 e D w (some ⟨g, 0, none⟩) xs.length xs :=
  ⟨Nat.le_refl _, hm, fun _ => ⟨g, 0, rfl, hD, fun i x hx => he _ _ x (List.mem_of_getElem? hx) (by
    show w.cell? ⟨g, 0 + i * 1, none⟩ = _
    rw [Nat.zero_add, Nat.mul_one]
    simp [World.cell?, h, hx])⟩⟩
theorem l08Words_c (w : World) : Calls Tryz.prog 202 #[] w (RetWords w) := by
  go_enter Tryz.func202, Tryz.ntmps202
  go_wp2_with fail
  go_ret2
  refine ⟨some ⟨w.heap.size, 0, none⟩, 7, some ⟨w.heap.size + 1, 0, none⟩, 7, rfl, litSl (val := Value.string) (t := 9) ?_ ?_ (Nat.le_refl _) (by simp [wordsL, maxLen]), litSl (val := Value.int .i64) (t := 3) ?_ ?_ (Nat.le_succ _) (by simp [toldL, maxLen]), (bel1 _ _).trans ((bel1 _ _).mono (by simp))⟩
  · intro b o x hx hc
    refine ⟨hc, ?_⟩
    have hall : ∀ y ∈ wordsL, y.size ≤ 7 := by decide
    have := hall x hx
    unfold maxLen
    omega
  · rw [(bel1 _ _).block _ (by simp), heap_alloc_new]; rfl
  · exact fun _ _ _ _ hc => hc
  · have := heap_alloc_new (w.alloc (.cells (wordsL.map Value.string).toArray 9)) (.cells (toldL.map (Value.int .i64)).toArray 3)
    rw [show (w.alloc (.cells (wordsL.map Value.string).toArray 9)).heap.size = w.heap.size + 1 by simp] at this
    exact this
theorem told_cases {k : Int} (h : inB 1 6 k = true) : ∃ n : Nat, k = n ∧ n < 7 ∧ (toldL.getD n 0 = 0 ∨ toldL.getD n 0 = 1 ∨ toldL.getD n 0 = 2) := by
  have := inB_iff.1 h
  refine ⟨k.toNat, by omega, by omega, ?_⟩
  rcases (show k.toNat = 1 ∨ k.toNat = 2 ∨ k.toNat = 3 ∨ k.toNat = 4 ∨ k.toNat = 5 ∨ k.toNat = 6 by omega) with h | h | h | h | h | h <;> rw [h] <;> simp [toldL]
set_option maxHeartbeats 1000000 in
set_option maxRecDepth 100000 in
theorem l08Deed_c (x : Deed) (w : World) : Calls Tryz.prog 165 #[.agg #[.int .i64 x.kind, .int .i64 x.a, .int .i64 x.b]] w fun e w' => e = .returned (.bool (okDeed x)) ∧ Below w.heap.size w w' := by
  cases h0 : inB 1 6 x.kind
  · go_enter Tryz.func165, Tryz.ntmps165
    go_wp2_with (go_at_call 126; refine (l00In_c _ _ _ _).mono ?_; rintro e w' ⟨rfl, rfl⟩)
    go_ret
    exact ⟨ret_b (by rw [okDeed, h0]; rfl), bel1 _ _⟩
  cases h1 : inB 0 999 x.a
  · go_enter Tryz.func165, Tryz.ntmps165
    go_wp2_with (go_at_call 126; refine (l00In_c _ _ _ _).mono ?_; rintro e w' ⟨rfl, rfl⟩)
    go_ret
    exact ⟨ret_b (by rw [okDeed, h0, h1]; rfl), bel1 _ _⟩
  cases h2 : inB 0 999 x.b
  · go_enter Tryz.func165, Tryz.ntmps165
    go_wp2_with (go_at_call 126; refine (l00In_c _ _ _ _).mono ?_; rintro e w' ⟨rfl, rfl⟩)
    go_ret
    exact ⟨ret_b (by rw [okDeed, h0, h1, h2]; rfl), bel1 _ _⟩
  have hok : okDeed x = ((decide (0 < told x.kind) || decide (x.a = 0)) && (decide (1 < told x.kind) || decide (x.b = 0))) := by rw [okDeed, h0, h1, h2]; rfl
  rw [hok]
  clear hok
  obtain ⟨n, hn, hn7, ht⟩ := told_cases h0
  have hn0 := (inB_iff.1 h0).1
  obtain ⟨k, a, b⟩ := x
  simp only at hn hn0 h0 h1 h2
  subst hn
  have i1 : (n : Int) < 7 := by omega
  have i2 : (0 : Int) ≤ n := by omega
  have htn : told (n : Int) = toldL.getD n 0 := rfl
  simp only [htn]
  clear htn
  have hl : n < toldL.length := by simpa [toldL] using hn7
  have hg := getD_at toldL 0 hl
  generalize toldL.getD n 0 = t at *
  have HG := Lib.hid hg
  clear hg
  obtain ⟨r, hr⟩ : ∃ r, r = ((decide (0 < t) || decide (a = 0)) && (decide (1 < t) || decide (b = 0))) := ⟨_, rfl⟩
  rw [← hr]
  have HR := Lib.hid hr
  clear hr
  rcases ht with rfl | rfl | rfl
  all_goals
    by_cases ha : a = 0
  all_goals
    by_cases hb : b = 0
  all_goals
    go_enter Tryz.func165, Tryz.ntmps165
    go_wp2_with (first | (go_at_call 126; refine (l00In_c _ _ _ _).mono ?_; rintro e w' ⟨rfl, rfl⟩) |
      (go_at_call 202; refine (l08Words_c _).mono ?_; rintro e w1 ⟨A0, c0, A, c, rfl, _, hs, hb1⟩; obtain ⟨b2, o2, rfl, h3⟩ := hs.at_ hl; obtain ⟨k1, f1⟩ := bcell hb1 (n := w.heap.size + 1) (by simp); have HB := Lib.hid ((bel1 _ _).trans (hb1.mono (by simp))); rw [← HG.out] at h3; simp only [elInt, Nat.mul_one] at h3; have hl7 : toldL.length = 7 := rfl; rw [hl7]; clear hb1 hs))
    go_ret
    exact ⟨ret_b (by rw [HR.out]; simp [ha, hb]), by first | exact HB.out | exact bel1 _ _⟩
end Go.Proofs.YtcagdmaiemmfgaaGreat
