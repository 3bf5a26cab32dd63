/- The plain functions that the walks come to: words, valid checkers, streams; nothing of Go in it, no condition. -/
import Derived.Test.YtcagdmaiemmfgaaGreatA
namespace Go.Proofs.YtcagdmaiemmfgaaGreat

/-- The number of a symbol, -1 if a byte is none. -/
def symI (b : UInt8) : Int := if b = 40 then 0 else if b = 91 then 1 else if b = 41 then 2 else if b = 93 then 3 else if b = 97 then 4 else if b = 98 then 5 else -1
theorem symI_range (b : UInt8) : -1 ≤ symI b ∧ symI b ≤ 5 := by unfold symI; repeat' (split; omega); omega
def isSym (b : UInt8) : Bool := decide (0 ≤ symI b)
def okWord (s : ByteArray) : Bool := s.data.toList.all isSym && decide (s.size ≤ 60)
def inB (lo hi n : Int) : Bool := decide (lo ≤ n) && decide (n ≤ hi)
theorem inB_iff {lo hi n : Int} : inB lo hi n = true ↔ lo ≤ n ∧ n ≤ hi := by simp [inB]
def okList (xs : List Int) (len n : Int) : Bool := decide ((xs.length : Int) = len) && xs.all (fun x => inB 0 (n - 1) x)
def okK (d : Chk) (s k : Nat) : Bool :=
  inB 0 (d.acc.length - 1) (((d.call.getD s []).getD k ⟨0, 0⟩).to) && inB 0 (d.stack - 1) (((d.call.getD s []).getD k ⟨0, 0⟩).put) && okList ((d.ret.getD s []).getD k []) (d.stack + 1) d.acc.length
def okS (d : Chk) (s : Nat) : Bool :=
  decide ((d.call.getD s []).length = 2) && decide ((d.ret.getD s []).length = 2) && okList (d.inn.getD s []) 2 d.acc.length && (List.range 2).all (okK d s)
def okTop (d : Chk) : Bool :=
  inB 1 40 d.acc.length && inB 1 80 d.stack && inB 0 (d.acc.length - 1) d.start && decide (d.call.length = d.acc.length) && decide (d.ret.length = d.acc.length) && decide (d.inn.length = d.acc.length)
def okChk (d : Chk) : Bool := okTop d && (List.range d.acc.length).all (okS d)
theorem all_range_false {p : Nat → Bool} {n k : Nat} (hk : k < n) (h : p k = false) : (List.range n).all p = false := by
  rw [List.all_eq_false]; exact ⟨k, List.mem_range.2 hk, by simp [h]⟩
theorem all_range_true {p : Nat → Bool} {n : Nat} (h : ∀ k, k < n → p k = true) : (List.range n).all p = true := by
  rw [List.all_eq_true]; exact fun k hk => h k (List.mem_range.1 hk)
/-- One symbol. -/
def stepC (d : Chk) (s : Int) (st : List Int) (b : UInt8) : Int × List Int :=
  if symI b < 2 then ((((d.call.getD s.toNat []).getD (symI b).toNat ⟨0, 0⟩).to), st ++ [((d.call.getD s.toNat []).getD (symI b).toNat ⟨0, 0⟩).put])
  else if symI b < 4 then
    match st.getLast? with
    | none => (((d.ret.getD s.toNat []).getD (symI b - 2).toNat []).getD d.stack.toNat 0, [])
    | some m => (((d.ret.getD s.toNat []).getD (symI b - 2).toNat []).getD m.toNat 0, st.dropLast)
  else ((d.inn.getD s.toNat []).getD (symI b - 4).toNat 0, st)
/-- A word. -/
def goC (d : Chk) (s : Int) (st : List Int) (w : List UInt8) : Int × List Int := w.foldl (fun p b => stepC d p.1 p.2 b) (s, st)
/-- All pieces one behind the other. -/
def wholeL (p : List ByteArray) : List UInt8 := p.flatMap fun s => s.data.toList
def whole (p : List ByteArray) : ByteArray := ⟨(wholeL p).toArray⟩
theorem whole_size (p : List ByteArray) : (whole p).size = (p.map ByteArray.size).sum := by
  show (wholeL p).toArray.size = _
  unfold wholeL
  rw [List.size_toArray]
  induction p with
  | nil => rfl
  | cons x xs ih => simp only [List.flatMap_cons, List.length_append, List.map_cons, List.sum_cons, ih]; rfl
def okStream (d : Chk) (p : List ByteArray) : Bool := okChk d && inB 1 20 p.length && p.all okWord && okWord (whole p)
end Go.Proofs.YtcagdmaiemmfgaaGreat
