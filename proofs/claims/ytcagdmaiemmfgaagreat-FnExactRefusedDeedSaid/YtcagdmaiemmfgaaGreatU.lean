/- The plain plant: desks, parcels and deeds; nothing of Go in it, no condition. -/
import Derived.Test.YtcagdmaiemmfgaaGreatN
namespace Go.Proofs.YtcagdmaiemmfgaaGreat

structure DeskP where
  read : Int
  state : Int
  stack : List Int
  waiting : List Int
structure ParcelP where
  first : Int
  texts : List ByteArray
structure PlantP where
  desk : DeskP
  saved : DeskP
  wire : List ParcelP
/-- A number put to its place. -/
def putL : List Int → Int → List Int
  | [], n => [n]
  | x :: xs, n => if n ≤ x then (if n < x then n :: x :: xs else x :: xs) else x :: putL xs n
/-- One number of a parcel: it waits, unless it has been read or waits. -/
def wait1 (read : Int) (ws : List Int) (k : Int) : List Int := if read ≤ k ∧ ws.contains k = false then putL ws k else ws
/-- The first n numbers of a parcel. -/
def waitN (read first : Int) (ws : List Int) : Nat → List Int
  | 0 => ws
  | n + 1 => wait1 read (waitN read first ws n) (first + n)
/-- What waits is read as far as it goes. -/
def drain (d : Chk) (p : List ByteArray) : Int → Int → List Int → List Int → DeskP
  | read, state, stack, [] => ⟨read, state, stack, []⟩
  | read, state, stack, k :: ws =>
    if k = read then drain d p (read + 1) (goC d state stack (p.getD read.toNat ⟨#[]⟩).data.toList).1 (goC d state stack (p.getD read.toNat ⟨#[]⟩).data.toList).2 ws else ⟨read, state, stack, k :: ws⟩
def comeC (d : Chk) (p : List ByteArray) (k : DeskP) (q : ParcelP) : DeskP := drain d p k.read k.state k.stack (waitN k.read q.first k.waiting q.texts.length)
def doC (d : Chk) (p : List ByteArray) (n : PlantP) (x : Deed) : PlantP × Int :=
  if x.kind = 1 then
    if x.b < x.a ∨ (p.length : Int) ≤ x.b then (n, 2)
    else if n.wire.length = 12 then (n, 3)
    else (⟨n.desk, n.saved, n.wire ++ [⟨x.a, (p.drop x.a.toNat).take (x.b + 1 - x.a).toNat⟩]⟩, 0)
  else if x.kind = 5 then (⟨n.desk, n.desk, n.wire⟩, 0)
  else if x.kind = 6 then (⟨n.saved, n.saved, n.wire⟩, 0)
  else if (n.wire.length : Int) ≤ x.a then (n, 2)
  else (⟨if x.kind = 4 then n.desk else comeC d p n.desk (n.wire.getD x.a.toNat ⟨0, []⟩), n.saved, if x.kind = 3 then n.wire else n.wire.eraseIdx x.a.toNat⟩, 0)
def begin_ (d : Chk) : PlantP := ⟨⟨0, d.start, [], []⟩, ⟨0, d.start, [], []⟩, []⟩
/-- The plant behind deeds, and their codes. -/
def playC (d : Chk) (p : List ByteArray) (xs : List Deed) : PlantP × List Int := xs.foldl (fun r x => ((doC d p r.1 x).1, r.2 ++ [(doC d p r.1 x).2])) (begin_ d, [])

/-- A state and a stack that a valid checker may be in. -/
structure At (d : Chk) (p : Int × List Int) (n : Nat) : Prop where
  lo : 0 ≤ p.1
  hi : p.1 < d.acc.length
  marks : Marks d p.2
  len : p.2.length ≤ n
theorem At.more {d : Chk} {p : Int × List Int} {n m : Nat} (h : At d p n) (hm : n ≤ m) : At d p m := ⟨h.lo, h.hi, h.marks, Nat.le_trans h.len hm⟩
/-- Rising numbers from a on, below b. -/
structure Rise (a b : Int) (ws : List Int) : Prop where
  up : ws.Pairwise (· < ·)
  lo : ∀ k ∈ ws, a ≤ k
  hi : ∀ k ∈ ws, k < b
structure DeskOk (d : Chk) (p : List ByteArray) (k : DeskP) : Prop where
  r0 : 0 ≤ k.read
  r1 : k.read ≤ p.length
  at_ : At d (k.state, k.stack) (60 * k.read.toNat)
  waits : Rise k.read p.length k.waiting
structure ParcelOk (p : List ByteArray) (q : ParcelP) : Prop where
  f0 : 0 ≤ q.first
  f1 : q.first + q.texts.length ≤ p.length
structure PlantOk (d : Chk) (p : List ByteArray) (n : PlantP) : Prop where
  desk : DeskOk d p n.desk
  saved : DeskOk d p n.saved
  len : n.wire.length ≤ 12
  wire : ∀ q ∈ n.wire, ParcelOk p q
theorem Rise.length {a b : Int} {ws : List Int} (h : Rise a b ws) (hab : a ≤ b) : (ws.length : Int) ≤ b - a := by
  obtain ⟨h1, h2, h3⟩ := h
  induction ws generalizing a with
  | nil => simp; omega
  | cons x xs ih =>
    rw [List.pairwise_cons] at h1
    have hx := h2 x (List.mem_cons_self ..)
    have hy := h3 x (List.mem_cons_self ..)
    have := ih (a := x + 1) (by omega) h1.2 (fun k hk => by have := h1.1 k hk; omega) fun k hk => h3 k (List.mem_cons_of_mem _ hk)
    simp only [List.length_cons]
    omega
theorem mem_putL {ws : List Int} {n k : Int} : k ∈ putL ws n ↔ k = n ∨ k ∈ ws := by
  induction ws with
  | nil => simp [putL]
  | cons x xs ih =>
    unfold putL
    split
    · split
      · simp
      · have : n = x := by omega
        subst this
        simp
    · simp only [List.mem_cons, ih]
      constructor
      · rintro (h | h | h)
        · exact .inr (.inl h)
        · exact .inl h
        · exact .inr (.inr h)
      · rintro (h | h | h)
        · exact .inr (.inl h)
        · exact .inl h
        · exact .inr (.inr h)
theorem putL_up {ws : List Int} {n : Int} (h : ws.Pairwise (· < ·)) : (putL ws n).Pairwise (· < ·) := by
  induction ws with
  | nil => simp [putL]
  | cons x xs ih =>
    have h0 := h
    rw [List.pairwise_cons] at h
    unfold putL
    split
    · split
      · rw [List.pairwise_cons]
        refine ⟨fun k hk => ?_, h0⟩
        rcases List.mem_cons.1 hk with rfl | hk
        · assumption
        · have := h.1 k hk; omega
      · exact h0
    · rw [List.pairwise_cons]
      refine ⟨fun k hk => ?_, ih h.2⟩
      rcases mem_putL.1 hk with rfl | hk
      · omega
      · exact h.1 k hk
theorem wait1_rise {read b : Int} {ws : List Int} {k : Int} (h : Rise read b ws) (hk : k < b) : Rise read b (wait1 read ws k) := by
  unfold wait1
  split
  · next hc =>
    refine ⟨putL_up h.up, fun j hj => ?_, fun j hj => ?_⟩
    · rcases mem_putL.1 hj with rfl | hj
      · exact hc.1
      · exact h.lo j hj
    · rcases mem_putL.1 hj with rfl | hj
      · exact hk
      · exact h.hi j hj
  · exact h
theorem waitN_rise {read first b : Int} {ws : List Int} {n : Nat} (h : Rise read b ws) (hk : first + n ≤ b) : Rise read b (waitN read first ws n) := by
  induction n with
  | zero => exact h
  | succ n ih => exact wait1_rise (ih (by omega)) (by omega)
end Go.Proofs.YtcagdmaiemmfgaaGreat
