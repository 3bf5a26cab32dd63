/- Words of this seat's proofs: slices and structs in memory read as data; no condition. -/
import Derived.Below
import Derived.Laws.NewBlocks
import Derived.Deep.Draws
import Derived.Laws.OwnMore
import Derived.Lib.Hide
namespace Go.Proofs.YtcagdmaiemmfgaaGreat
open Go.RowKit

abbrev Dom := Nat → Prop
/-- How data of a kind lies in memory: in block b, from place o on. -/
abbrev El (α : Type) := Dom → World → Nat → Nat → α → Prop
def Same (D : Dom) (w w' : World) : Prop := ∀ b, D b → w'.heap[b]? = w.heap[b]?

/-- What is asked of such a kind: sz cells. -/
structure El.Good {α : Type} (sz : Nat) (e : El α) : Prop where
  pos : 0 < sz
  copy : ∀ {D : Dom} {w w' : World} {b o b' o' : Nat} {x : α}, (∀ j, j < sz → w'.cell? ⟨b', o' + j, none⟩ = w.cell? ⟨b, o + j, none⟩) → Same D w w' → e D w b o x → e D w' b' o' x
  mono : ∀ {D D' : Dom} {w : World} {b o : Nat} {x : α}, (∀ k, D k → k < w.heap.size → D' k) → e D w b o x → e D' w b o x
  cell : ∀ {D : Dom} {w : World} {b o : Nat} {x : α}, e D w b o x → ∀ j, j < sz → ∃ v, w.cell? ⟨b, o + j, none⟩ = some v

def elInt (k : IntKind) : El Int := fun _ w b o x => w.cell? ⟨b, o, none⟩ = some (.int k x)
def elBool : El Bool := fun _ w b o x => w.cell? ⟨b, o, none⟩ = some (.bool x)
def elStr : El ByteArray := fun _ w b o x => w.cell? ⟨b, o, none⟩ = some (.string x) ∧ x.size ≤ maxLen
/-- A slice: its address A, its capacity c, its elements. -/
def Sl {α : Type} (sz : Nat) (e : El α) (D : Dom) (w : World) (A : Option Addr) (c : Nat) (xs : List α) : Prop :=
  xs.length ≤ c ∧ c ≤ maxLen ∧ (0 < xs.length → ∃ b off, A = some ⟨b, off, none⟩ ∧ D b ∧ ∀ i x, xs[i]? = some x → e D w b (off + i * sz) x)
def elSl {α : Type} (sz : Nat) (e : El α) : El (List α) := fun D w b o xs => ∃ A c, w.cell? ⟨b, o, none⟩ = some (.slice A xs.length c) ∧ Sl sz e D w A c xs

theorem cell_same {D : Dom} {w w' : World} {b o : Nat} (hb : D b) (h : Same D w w') : w'.cell? ⟨b, o, none⟩ = w.cell? ⟨b, o, none⟩ := World.cell?_of_block (h b hb)
theorem lt_of_cell {w : World} {b o : Nat} {v : Value} (h : w.cell? ⟨b, o, none⟩ = some v) : b < w.heap.size := World.block_lt_of_cell? w ⟨b, o, none⟩ h

theorem El.Good.keep {α : Type} {sz : Nat} {e : El α} (g : El.Good sz e) {D : Dom} {w w' : World} {b o : Nat} {x : α} (hb : D b) (hs : Same D w w') (h : e D w b o x) : e D w' b o x :=
  g.copy (fun _ _ => cell_same hb hs) hs h
theorem j_zero {j : Nat} (h : j < 1) : j = 0 := by omega
theorem elInt_good (k : IntKind) : El.Good 1 (elInt k) := ⟨by omega, fun hc _ h => (hc 0 (by omega)).trans h, fun _ h => h, fun h j hj => by obtain rfl := j_zero hj; exact ⟨_, h⟩⟩
theorem elBool_good : El.Good 1 elBool := ⟨by omega, fun hc _ h => (hc 0 (by omega)).trans h, fun _ h => h, fun h j hj => by obtain rfl := j_zero hj; exact ⟨_, h⟩⟩
theorem elStr_good : El.Good 1 elStr := ⟨by omega, fun hc _ h => ⟨(hc 0 (by omega)).trans h.1, h.2⟩, fun _ h => h, fun h j hj => by obtain rfl := j_zero hj; exact ⟨_, h.1⟩⟩

section
variable {α : Type} {sz : Nat} {e : El α} {D D' : Dom} {w w' : World} {A : Option Addr} {c : Nat} {xs : List α}
theorem Sl.keep (g : El.Good sz e) (h : Sl sz e D w A c xs) (hs : Same D w w') : Sl sz e D w' A c xs :=
  ⟨h.1, h.2.1, fun hn => by
    obtain ⟨b, off, ha, hb, hc⟩ := h.2.2 hn
    exact ⟨b, off, ha, hb, fun i x hx => g.keep hb hs (hc i x hx)⟩⟩
theorem Sl.mono (g : El.Good sz e) (h : Sl sz e D w A c xs) (hd : ∀ k, D k → k < w.heap.size → D' k) : Sl sz e D' w A c xs :=
  ⟨h.1, h.2.1, fun hn => by
    obtain ⟨b, off, ha, hb, hc⟩ := h.2.2 hn
    obtain ⟨v, hv⟩ := g.cell (hc 0 xs[0] (List.getElem?_eq_getElem hn)) 0 g.pos
    exact ⟨b, off, ha, hd b hb (lt_of_cell hv), fun i x hx => g.mono hd (hc i x hx)⟩⟩
/-- The blocks that are read lie in the heap. -/
theorem Sl.lt (g : El.Good sz e) (h : Sl sz e D w A c xs) : Sl sz e (fun k => D k ∧ k < w.heap.size) w A c xs := h.mono g fun _ hk hl => ⟨hk, hl⟩
/-- What was there before a call that writes nothing old. -/
theorem Sl.below (g : El.Good sz e) (h : Sl sz e D w A c xs) (hb : Below w.heap.size w w') : Sl sz e D w' A c xs :=
  ((h.lt g).keep g fun b hk => hb.block b hk.2).mono g fun _ hk _ => hk.1
theorem Sl.drew (g : El.Good sz e) (h : Sl sz e D w A c xs) : Sl sz e D w.drew A c xs := h.keep g fun _ _ => rfl
theorem Sl.at_ (h : Sl sz e D w A c xs) {i : Nat} (hi : i < xs.length) : ∃ b off, A = some ⟨b, off, none⟩ ∧ e D w b (off + i * sz) xs[i] := by
  obtain ⟨b, off, ha, _, hc⟩ := h.2.2 (by omega)
  exact ⟨b, off, ha, hc i _ (List.getElem?_eq_getElem hi)⟩
theorem Sl.le (h : Sl sz e D w A c xs) : xs.length ≤ 9223372036854775807 := by
  have h1 := h.1; have h2 := h.2.1; unfold maxLen at h2; omega
theorem Sl.nil : Sl sz e D w none 0 [] := ⟨by simp, by simp [maxLen], fun h => by simp at h⟩
end
theorem elSl_good {α : Type} {sz : Nat} {e : El α} (g : El.Good sz e) : El.Good 1 (elSl sz e) :=
  ⟨by omega, fun hc hs h => by
      obtain ⟨A, c, h1, h2⟩ := h
      exact ⟨A, c, (hc 0 (by omega)).trans h1, h2.keep g hs⟩,
    fun hd h => by
      obtain ⟨A, c, h1, h2⟩ := h
      exact ⟨A, c, h1, h2.mono g hd⟩,
    fun h j hj => by
      obtain ⟨A, c, h1, _⟩ := h
      obtain rfl := j_zero hj
      exact ⟨_, h1⟩⟩

/-! Structs -/
structure Push where
  to : Int
  put : Int
  deriving DecidableEq
def elPush : El Push := fun _ w b o p => w.cell? ⟨b, o, none⟩ = some (.int .i64 p.to) ∧ w.cell? ⟨b, o + 1, none⟩ = some (.int .i64 p.put)
theorem elPush_good : El.Good 2 elPush :=
  ⟨by omega, fun hc _ h => ⟨(hc 0 (by omega)).trans h.1, (hc 1 (by omega)).trans h.2⟩, fun _ h => h, fun h j hj => by
    rcases (show j = 0 ∨ j = 1 by omega) with rfl | rfl
    · exact ⟨_, h.1⟩
    · exact ⟨_, h.2⟩⟩
structure Deed where
  kind : Int
  a : Int
  b : Int
  deriving DecidableEq
def elDeed : El Deed := fun _ w b o p => w.cell? ⟨b, o, none⟩ = some (.int .i64 p.kind) ∧ w.cell? ⟨b, o + 1, none⟩ = some (.int .i64 p.a) ∧ w.cell? ⟨b, o + 1 + 1, none⟩ = some (.int .i64 p.b)
theorem elDeed_good : El.Good 3 elDeed :=
  ⟨by omega, fun hc _ h => ⟨(hc 0 (by omega)).trans h.1, (hc 1 (by omega)).trans h.2.1, (hc 2 (by omega)).trans h.2.2⟩, fun _ h => h, fun h j hj => by
    rcases (show j = 0 ∨ j = 1 ∨ j = 2 by omega) with rfl | rfl | rfl
    · exact ⟨_, h.1⟩
    · exact ⟨_, h.2.1⟩
    · exact ⟨_, h.2.2⟩⟩

abbrev elInts : El (List Int) := elSl 1 (elInt .i64)
abbrev elIntss : El (List (List Int)) := elSl 1 elInts
abbrev elPushs : El (List Push) := elSl 2 elPush
theorem ints_good : El.Good 1 (elInt .i64) := elInt_good .i64
theorem elInts_good : El.Good 1 elInts := elSl_good ints_good
theorem elIntss_good : El.Good 1 elIntss := elSl_good elInts_good
theorem elPushs_good : El.Good 1 elPushs := elSl_good elPush_good

/-- The data of a checker. -/
structure Chk where
  stack : Int
  start : Int
  acc : List Bool
  call : List (List Push)
  ret : List (List (List Int))
  inn : List (List Int)
  deriving DecidableEq
/-- The four slices of a checker in memory. -/
structure ChkAt (D : Dom) (w : World) (A0 : Option Addr) (c0 : Nat) (A1 : Option Addr) (c1 : Nat) (A2 : Option Addr) (c2 : Nat) (A3 : Option Addr) (c3 : Nat) (d : Chk) : Prop where
  acc : Sl 1 elBool D w A0 c0 d.acc
  call : Sl 1 elPushs D w A1 c1 d.call
  ret : Sl 1 elIntss D w A2 c2 d.ret
  inn : Sl 1 elInts D w A3 c3 d.inn

theorem ChkAt.below {D : Dom} {w w' : World} {A0 : Option Addr} {c0 : Nat} {A1 : Option Addr} {c1 : Nat} {A2 : Option Addr} {c2 : Nat} {A3 : Option Addr} {c3 : Nat} {d : Chk} (h : ChkAt D w A0 c0 A1 c1 A2 c2 A3 c3 d) (hb : Below w.heap.size w w') : ChkAt D w' A0 c0 A1 c1 A2 c2 A3 c3 d :=
  ⟨h.acc.below elBool_good hb, h.call.below elPushs_good hb, h.ret.below elIntss_good hb, h.inn.below elInts_good hb⟩
theorem bel1 (w : World) (o : Obj) : Below w.heap.size w (w.alloc o) := (Below.refl _ _).alloc (Nat.le_refl _) o
/-! A row that is being filled: n places of sz cells, the first of which hold xs. -/
def Row {α : Type} (sz : Nat) (e : El α) (D : Dom) (w : World) (g : Nat) (t : TypeId) (n : Nat) (xs : List α) : Prop :=
  ∃ cs : Array Value, w.heap[g]? = some (.cells cs t (0, 0)) ∧ cs.size = n * sz ∧ ∀ i x, xs[i]? = some x → e D w g (i * sz) x
/-- In block g only the cells from o on, sz of them, are other ones; all else is as it was. -/
def Turned (w w' : World) (g : Nat) (o sz : Nat) : Prop :=
  (∀ b, b ≠ g → w'.heap[b]? = w.heap[b]?) ∧ w'.heap.size = w.heap.size ∧
  ∀ cs t, w.heap[g]? = some (.cells cs t (0, 0)) → ∃ cs', w'.heap[g]? = some (.cells cs' t (0, 0)) ∧ cs'.size = cs.size ∧ ∀ j, (j < o ∨ o + sz ≤ j) → cs'[j]? = cs[j]?
theorem Turned.cell {w w' : World} {g o sz : Nat} (h : Turned w w' g o sz) {cs : Array Value} {t : TypeId} (hc : w.heap[g]? = some (.cells cs t (0, 0))) {j : Nat} (hj : j < o ∨ o + sz ≤ j) : w'.cell? ⟨g, j, none⟩ = w.cell? ⟨g, j, none⟩ := by
  obtain ⟨cs', h1, _, h3⟩ := h.2.2 cs t hc
  simp [World.cell?, h1, hc, h3 j hj]
theorem heap_setCell_at {w : World} {g o : Nat} {cs : Array Value} {t : TypeId} (v : Value) (h : w.heap[g]? = some (.cells cs t (0, 0))) : (w.setCell ⟨g, o, none⟩ v).heap[g]? = some (.cells (cs.setIfInBounds o v) t (0, 0)) := by
  simp [World.setCell, Array.getElem?_modify, h]
theorem turned_set (w : World) (g o : Nat) (v : Value) : Turned w (w.setCell ⟨g, o, none⟩ v) g o 1 := by
  refine ⟨fun b hb => Below.heap_setCell w _ _ b hb, by simp [World.setCell], fun cs t hc => ⟨_, heap_setCell_at v hc, by simp, fun j hj => ?_⟩⟩
  rw [Array.getElem?_setIfInBounds, if_neg (by omega)]
theorem Turned.more {w w1 w2 : World} {g o sz : Nat} (h : Turned w w1 g o sz) (k : Turned w1 w2 g (o + sz) 1) : Turned w w2 g o (sz + 1) := by
  refine ⟨fun b hb => (k.1 b hb).trans (h.1 b hb), k.2.1.trans h.2.1, fun cs t hc => ?_⟩
  obtain ⟨cs1, h1, h2, h3⟩ := h.2.2 cs t hc
  obtain ⟨cs2, k1, k2, k3⟩ := k.2.2 cs1 t h1
  exact ⟨cs2, k1, k2.trans h2, fun j hj => (k3 j (by omega)).trans (h3 j (by omega))⟩
section
variable {α : Type} {sz : Nat} {e : El α} {D D' : Dom} {w w' : World} {g : Nat} {t : TypeId} {n : Nat} {xs : List α}
theorem Row.cellOk (h : Row sz e D w g t n xs) {j : Nat} (hj : j < n * sz) : ∃ v, w.cell? ⟨g, j, none⟩ = some v := by
  obtain ⟨cs, h1, h2, _⟩ := h
  have hl : j < cs.size := by omega
  exact ⟨cs[j], by simp [World.cell?, h1, Array.getElem?_eq_getElem hl]⟩
theorem Row.free (h : Row sz e D w g t n xs) (j : Nat) : w.frozen? ⟨g, j, none⟩ = false := by
  obtain ⟨cs, h1, _⟩ := h
  simp [World.frozen?, h1]
theorem Row.lt (h : Row sz e D w g t n xs) : g < w.heap.size := by
  obtain ⟨cs, h1, _⟩ := h
  rcases Nat.lt_or_ge g w.heap.size with h' | h'
  · exact h'
  · simp [Array.getElem?_eq_none h'] at h1
theorem Row.keep (ge : El.Good sz e) (h : Row sz e D w g t n xs) (hg : w'.heap[g]? = w.heap[g]?) (hs : Same D w w') : Row sz e D w' g t n xs := by
  obtain ⟨cs, h1, h2, h3⟩ := h
  exact ⟨cs, hg.trans h1, h2, fun i x hx => ge.copy (fun _ _ => World.cell?_of_block hg) hs (h3 i x hx)⟩
theorem Row.mono (ge : El.Good sz e) (h : Row sz e D w g t n xs) (hd : ∀ k, D k → k < w.heap.size → D' k) : Row sz e D' w g t n xs := by
  obtain ⟨cs, h1, h2, h3⟩ := h
  exact ⟨cs, h1, h2, fun i x hx => ge.mono hd (h3 i x hx)⟩
/-- Behind a call that writes nothing old. -/
theorem Row.below (ge : El.Good sz e) (h : Row sz e D w g t n xs) (hb : Below w.heap.size w w') : Row sz e D w' g t n xs :=
  (((h.mono ge (D' := fun k => D k ∧ k < w.heap.size) fun _ hk hl => ⟨hk, hl⟩).keep ge (hb.block g h.lt) fun b hk => hb.block b hk.2).mono ge fun _ hk _ => hk.1)
theorem Row.put (ge : El.Good sz e) {k : Nat} (h : Row sz e D w g t n (xs.take k)) (hk : k < xs.length) (hD : ¬ D g) (ht : Turned w w' g (k * sz) sz) (hx : e D w' g (k * sz) xs[k]) : Row sz e D w' g t n (xs.take (k + 1)) := by
  obtain ⟨cs, h1, h2, h3⟩ := h
  obtain ⟨cs', k1, k2, _⟩ := ht.2.2 cs t h1
  refine ⟨cs', k1, k2.trans h2, fun i x hi => ?_⟩
  rw [List.take_succ_eq_append_getElem hk] at hi
  rcases Nat.lt_or_ge i (xs.take k).length with hl | hl
  · rw [List.getElem?_append_left hl] at hi
    have hik : i < k := by simp at hl; omega
    refine ge.copy (fun j hj => ht.cell h1 (.inl ?_)) (fun b hb => ht.1 b (fun e => hD (e ▸ hb))) (h3 i x hi)
    have : (i + 1) * sz ≤ k * sz := Nat.mul_le_mul_right _ (by omega)
    rw [Nat.add_mul] at this
    omega
  · rw [List.getElem?_append_right hl] at hi
    have hik : i - (xs.take k).length = 0 := by
      rcases Nat.eq_zero_or_pos (i - (xs.take k).length) with h0 | h0
      · exact h0
      · rw [List.getElem?_eq_none (by simp only [List.length_cons, List.length_nil]; omega)] at hi; cases hi
    rw [hik] at hi
    obtain rfl : xs[k] = x := by simpa using hi
    have : i = k := by simp at hl hik; omega
    rw [this]
    exact hx
theorem Row.slice (h : Row sz e D w g t n xs) (hn : xs.length = n) (hm : n ≤ maxLen) (hD : D' g) (ge : El.Good sz e) (hd : ∀ k, D k → k < w.heap.size → D' k) : Sl sz e D' w (some ⟨g, 0, none⟩) n xs := by
  obtain ⟨cs, h1, h2, h3⟩ := h
  refine ⟨by omega, hm, fun _ => ⟨g, 0, rfl, hD, fun i x hx => ?_⟩⟩
  rw [Nat.zero_add]
  exact ge.mono hd (h3 i x hx)
end
theorem Row.made {α : Type} {sz : Nat} {e : El α} {D : Dom} (w : World) (t : TypeId) (z : Array Value) (n m : Nat) (hm : m = n * sz) (xs : List α) : Row sz e D (w.alloc (.cells (madeCells z m) t)) w.heap.size t n (xs.take 0) :=
  ⟨_, heap_alloc_new w _, by rw [size_madeCells, hm], fun i x h => by simp at h⟩
/-- A call hands back a slice in new memory that holds xs; nothing old is written. -/
def RetSl {α : Type} (sz : Nat) (e : El α) (w : World) (xs : List α) (en : Ending) (w' : World) : Prop :=
  ∃ A c, en = .returned (.slice A xs.length c) ∧ Sl sz e (fun b => w.heap.size ≤ b) w' A c xs ∧ Below w.heap.size w w'
theorem ret_b {a b : Bool} (h : a = b) : Ending.returned (.bool a) = .returned (.bool b) := by rw [h]
theorem ret_i {k : IntKind} {a b : Int} (h : a = b) : Ending.returned (.int k a) = .returned (.int k b) := by rw [h]
theorem all_take_succ {α : Type} (p : α → Bool) (xs : List α) (k : Nat) (h : k < xs.length) : (xs.take (k + 1)).all p = ((xs.take k).all p && p xs[k]) := by
  rw [List.take_succ_eq_append_getElem h, List.all_append]; simp
theorem all_of_false {α : Type} (p : α → Bool) (xs : List α) (k : Nat) (h : k < xs.length) (hp : p xs[k] = false) : xs.all p = false := by
  rw [List.all_eq_false]; exact ⟨xs[k], List.getElem_mem h, by simp [hp]⟩
theorem all_of_take {α : Type} (p : α → Bool) (xs : List α) (k : Nat) (h : xs.length ≤ k) (hp : (xs.take k).all p = true) : xs.all p = true := by
  rwa [List.take_of_length_le h] at hp
end Go.Proofs.YtcagdmaiemmfgaaGreat
