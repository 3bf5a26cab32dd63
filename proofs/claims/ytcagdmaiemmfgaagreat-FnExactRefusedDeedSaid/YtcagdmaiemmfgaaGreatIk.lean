/- The program's works: a parcel comes in; for all valid streams. -/
import Derived.Test.YtcagdmaiemmfgaaGreatIj
namespace Go.Proofs.YtcagdmaiemmfgaaGreat
open Go.RowKit

/-- What a parcel that comes in leaves. -/
def RetCome (B g : Nat) (d : Chk) (p : List ByteArray) (n : PlantP) (A : Option Addr) (c : Nat) (q : ParcelP) (w : World) (e : Ending) (w' : World) : Prop :=
  ∃ A2 c2, e = .returned (.tuple #[]) ∧ WorkS B w' g d p ⟨comeC d p n.desk q, n.saved, n.wire⟩ A c A2 c2 ∧ Below B w w'
theorem OwnSl.tail {α : Type} {e : El α} {D : Dom} {w : World} {b o c : Nat} {x : α} {xs : List α} (h : OwnSl 1 e D w (some ⟨b, o, none⟩) c (x :: xs)) :
    OwnSl 1 e D w (if c = 1 then some ⟨b, o, none⟩ else some ⟨b, o + 1, none⟩) (c - 1) xs ∧ ∀ b', ownB (if c = 1 then some ⟨b, o, none⟩ else some ⟨b, o + 1, none⟩) (c - 1) = some b' → ownB (some ⟨b, o, none⟩) c = some b' := by
  have h1 := h.le
  have h2 := h.max
  simp only [List.length_cons] at h1
  refine ⟨⟨by omega, by omega, fun hc => ?_⟩, fun b' hb => ?_⟩
  · rw [if_neg (by omega)]
    obtain ⟨b', o', ha, hl, hd, he, hf⟩ := h.at_ (by omega)
    simp only [Option.some.injEq, Addr.mk.injEq, and_true] at ha
    obtain ⟨rfl, rfl⟩ := ha
    refine ⟨b, o + 1, rfl, hl, hd, fun i y hy => ?_, fun j hj => ?_⟩
    · have := he (i + 1) y (by simpa using hy)
      rwa [Nat.add_mul, Nat.one_mul, Nat.add_comm (i * 1), ← Nat.add_assoc] at this
    · have := hf (1 + j) (by omega)
      rwa [← Nat.add_assoc] at this
  · rcases Nat.eq_zero_or_pos (c - 1) with h0 | h0
    · rw [h0, ownB_zero] at hb
      cases hb
    · rw [if_neg (by omega), ownB_some h0] at hb
      rw [ownB_some (by omega)]
      exact hb
theorem Lies.int {k : IntKind} {D D' : Dom} {w : World} {A : Option Addr} {xs : List Int} (h : Lies 1 (elInt k) D w A xs) : Lies 1 (elInt k) D' w A xs := h
theorem StrPtr.chk {D : Dom} {w : World} {b o : Nat} {d : Chk} {p : List ByteArray} (h : StrPtr D w b o d p) : ∃ X0 y0 X1 y1 X2 y2 X3 y3 X4 y4, w.cell? ⟨b, o, none⟩ = some (.int .i64 d.stack) ∧ w.cell? ⟨b, o + 1, none⟩ = some (.int .i64 d.start) ∧ w.cell? ⟨b, o + 2, none⟩ = some (.slice X0 d.acc.length y0) ∧ w.cell? ⟨b, o + 3, none⟩ = some (.slice X1 d.call.length y1) ∧
    w.cell? ⟨b, o + 4, none⟩ = some (.slice X2 d.ret.length y2) ∧ w.cell? ⟨b, o + 5, none⟩ = some (.slice X3 d.inn.length y3) ∧ w.cell? ⟨b, o + 6, none⟩ = some (.slice X4 p.length y4) ∧ ChkAt D w X0 y0 X1 y1 X2 y2 X3 y3 d ∧ Sl 1 elStr D w X4 y4 p := by
  obtain ⟨⟨p0, p1, X0, y0, X1, y1, X2, y2, X3, y3, p2, p3, p4, p5, h5⟩, X4, y4, p6, h7⟩ := h
  exact ⟨X0, y0, X1, y1, X2, y2, X3, y3, X4, y4, p0, p1, p2, p3, p4, p5, p6, h5, h7⟩
set_option maxHeartbeats 8000000 in
set_option maxRecDepth 100000 in
theorem comeIn_c (B g : Nat) (d : Chk) (p : List ByteArray) (n : PlantP) (A : Option Addr) (c : Nat) (A2 : Option Addr) (c2 : Nat) (q : ParcelP) (A4 : Option Addr) (c4 : Nat) (w : World) (h : WorkS B w g d p n A c A2 c2) (hd : Dim d) (hw : ∀ s ∈ p, okWord s = true) (hp : p.length ≤ 20) (ho : DeskOk d p n.desk) (hq : ParcelOk p q) :
    Calls Tryz.prog 175 #[.pointer (some ⟨g, 0, none⟩), .agg #[.int .i64 q.first, .slice A4 q.texts.length c4]] w (RetCome B g d p n A c q w) := by
  obtain ⟨W, hWe⟩ : ∃ W, W = w.alloc (.cells #[.int .i64 q.first, .slice A4 q.texts.length c4] 170) := ⟨_, rfl⟩
  obtain ⟨bp, hbp⟩ : ∃ bp, bp = w.heap.size := ⟨_, rfl⟩
  have HBW : Hid (Below w.heap.size w W) := Lib.hid (hWe ▸ bel1 w _)
  have HRW : Hid (WorkS B W g d p n A c A2 c2) := Lib.hid (h.below HBW.out)
  have e0 : W.cell? ⟨bp, 0, none⟩ = some (.int .i64 q.first) := by rw [hWe, hbp, cell_new]; rfl
  have e1 : W.cell? ⟨bp, 1, none⟩ = some (.slice A4 q.texts.length c4) := by rw [hWe, hbp, cell_new]; rfl
  have HNB : Hid (ownB A2 c2 ≠ some bp) := Lib.hid fun e => by have := (h.waitOwn.own e).1; omega
  have HNG : Hid (bp ≠ g) := Lib.hid (by have := h.lt; omega)
  have HLo := Lib.hid h.lo
  have HBw : Hid (B ≤ w.heap.size) := Lib.hid (Nat.le_trans h.lo (Nat.le_of_lt h.lt))
  have HO := Lib.hid ho
  have HD := Lib.hid hd
  have HW := Lib.hid hw
  have f0 := hq.f0
  have f1 := hq.f1
  have r0 := ho.r0
  have r1 := ho.r1
  have hbpW : bp < W.heap.size := lt_of_cell e0
  have HWe := Lib.hid hWe
  have HBP := Lib.hid hbp
  have E := Lib.hid (And.intro e0 e1)
  clear h ho hq hd hw hWe hbp
  go_enter Tryz.func175, Tryz.ntmps175
  go_wp2_with (go_at_call 172; rw [← HWe.out, ← HBP.out]; refine (sizeS_c _ _ _ _).mono ?_; rintro e w' ⟨rfl, rfl⟩)
  go_loopg [14] q.texts.length (fun z v wr => ∃ (k : Nat) (A2 : Option Addr) (c2 : Nat), k ≤ q.texts.length ∧ z = q.texts.length - k ∧ v = .int .i64 k ∧ WorkS B wr g d p ⟨⟨n.desk.read, n.desk.state, n.desk.stack, appN n.desk.read q.first n.desk.waiting k⟩, n.saved, n.wire⟩ A c A2 c2 ∧ ownB A2 c2 ≠ some bp ∧ wr.heap[bp]? = W.heap[bp]? ∧ W.heap.size ≤ wr.heap.size ∧ Below B w wr)
  case atStart => exact ⟨0, A2, c2, by omega, by omega, rfl, HRW.out, HNB.out, rfl, Nat.le_refl _, HBW.out.mono HBw.out⟩
  case round =>
    clear HNB HRW A2 c2 e0 e1
    obtain ⟨k, A2, c2, hk, hz, rfl, hrun, hnb, hbk, hsz, hbel⟩ := hrel
    have HZ := Lib.hid hz
    have HRN := Lib.hid hrun
    have HNB := Lib.hid hnb
    have HBK := Lib.hid hbk
    have HSZ := Lib.hid hsz
    have HBL := Lib.hid hbel
    have e0 := (World.cell?_of_block (a := ⟨bp, 0, none⟩) hbk).trans E.out.1
    have e1 := (World.cell?_of_block (a := ⟨bp, 1, none⟩) hbk).trans E.out.2
    clear hz hnb hbk hsz hbel
    by_cases hlt : k < q.texts.length
    · have HN : Hid (appN n.desk.read q.first n.desk.waiting (k + 1) = app1 n.desk.read (appN n.desk.read q.first n.desk.waiting k) (q.first + k)) := Lib.hid rfl
      have hwl : (appN n.desk.read q.first n.desk.waiting k).length ≤ 20 := by
        rw [appN_length]
        have := (waitN_rise (first := q.first) (n := k) HO.out.waits (by omega)).length r1
        omega
      generalize appN n.desk.read q.first n.desk.waiting k = ws at *
      have d0 := hrun.read
      have d4 := hrun.wait
      simp only at d0 d4
      have HSL : Hid (Sl 1 (elInt .i64) (fun k => k < wr.heap.size) wr A2 c2 ws) := Lib.hid (hrun.waitOwn.sl ints_good (fun _ _ hl => hl) fun b _ hl => hl)
      have hw1 : IntKind.i64.wrap (q.first + (k : Int)) = q.first + k := by rw [IntKind.wrap_i64]; omega
      clear hrun
      by_cases hle : n.desk.read ≤ q.first + k
      · cases hc : ws.contains (q.first + (k : Int))
        · have HA : Hid (app1 n.desk.read ws (q.first + k) = ws ++ [q.first + k]) := Lib.hid (by unfold app1; rw [if_pos ⟨hle, hc⟩])
          have HR1 : Hid (WorkS B (wr.alloc (.cells #[.int .i64 (q.first + k)] 2)) g d p ⟨⟨n.desk.read, n.desk.state, n.desk.stack, ws⟩, n.saved, n.wire⟩ A c A2 c2) := Lib.hid (HRN.out.below (bel1 _ _))
          have HLY : Hid (Lies 1 (elInt .i64) (WorkD (wr.alloc (.cells #[.int .i64 (q.first + k)] 2)) g A c A2 c2) (wr.alloc (.cells #[.int .i64 (q.first + k)] 2)) (some ⟨wr.heap.size, 0, none⟩) [q.first + k]) := Lib.hid (Lies.int (lit1 lit_new).lies)
          go_wp2_with (first | (go_at_call 178; refine (contains_c _ A2 c2 ws _ _ HSL.out).mono ?_; rintro e w' ⟨rfl, rfl⟩; rw [hc]) | (at_builtin; refine wpList_own _ rfl ints_good (elInt_one .i64) (.tmp 40) (.tmp 42) 70 2 rfl Tryz.underlying70 info_i64 rfl (D := WorkD (wr.alloc (.cells #[.int .i64 (q.first + k)] 2)) g A c A2 c2) (A := A2) (c := c2) (xs := ws) rfl HR1.out.waitOwn (ys := [q.first + k]) rfl HLY.out (by simp only [maxLen, List.length_singleton]; omega) (by simp only [List.length_singleton]; omega) (fun k hk => hk.1) ?_; intro A5 c5 w5 ho5 hg5 hor5; have HO5 := Lib.hid ho5; have HG5 := Lib.hid hg5; have HN5 := Lib.hid hor5; have hb5 := hg5.block g HR1.out.lt (fun e => (HR1.out.ownLo2 g e.symm).2.1 rfl); have z3 := (World.cell?_of_block (a := ⟨g, 3, none⟩) hb5).trans HR1.out.wait; have z4 := (World.frozen?_of_block (a := ⟨g, 3, none⟩) hb5).trans (HR1.out.free 3); clear ho5 hg5 hor5 hb5))
          go_roundg (q.texts.length - (k + 1))
          case measure => have := HZ.out; omega
          case rel =>
            refine ⟨k + 1, A5, c5, by omega, rfl, by go_num, ?_, ?_, ?_, ?_, ?_⟩
            · rw [HN.out, HA.out]
              have hf := HR1.out.putWait (fun k hk hne => HG5.out.block k hk fun e => hne e.symm) HG5.out.size HO5.out fun b hb => HN5.out.elim (fun h => .inl (h ▸ hb)) fun h => .inr (by rw [h] at hb; injection hb with hb; omega)
              simp only [List.length_append, List.length_singleton] at hf
              exact hf
            · intro e
              rcases HN5.out with h0 | h0
              · exact HNB.out (h0 ▸ e)
              · rw [h0] at e
                injection e with e
                have := HSZ.out
                simp at e
                omega
            · rw [Below.heap_setCell _ _ _ bp HNG.out, HG5.out.block bp (by simp; have := HSZ.out; omega) (fun e => HNB.out e.symm), (bel1 wr _).block bp (by have := HSZ.out; omega)]
              exact HBK.out
            · have := HG5.out.size
              have := HSZ.out
              simp [World.setCell] at *
              omega
            · exact ((HBL.out.trans ((bel1 wr _).mono (Nat.le_trans HBw.out (Nat.le_trans HBW.out.size HSZ.out)))).grown HG5.out (by simp; have := HSZ.out; have := HBw.out; have := HBW.out.size; omega) fun b hb => (HR1.out.ownLo2 b hb).1).setCell HLo.out _
        · have HA : Hid (app1 n.desk.read ws (q.first + k) = ws) := Lib.hid (by unfold app1; rw [if_neg (by rw [hc]; simp)])
          go_wp2_with (go_at_call 178; refine (contains_c _ A2 c2 ws _ _ HSL.out).mono ?_; rintro e w' ⟨rfl, rfl⟩; rw [hc])
          go_roundg (q.texts.length - (k + 1))
          case measure => have := HZ.out; omega
          case rel => exact ⟨k + 1, A2, c2, by omega, rfl, by go_num, by rw [HN.out, HA.out]; exact HRN.out, HNB.out, HBK.out, HSZ.out, HBL.out⟩
      · have HA : Hid (app1 n.desk.read ws (q.first + k) = ws) := Lib.hid (by unfold app1; rw [if_neg (fun h => hle h.1)])
        go_wp2_with fail
        go_roundg (q.texts.length - (k + 1))
        case measure => have := HZ.out; omega
        case rel => exact ⟨k + 1, A2, c2, by omega, rfl, by go_num, by rw [HN.out, HA.out]; exact HRN.out, HNB.out, HBK.out, HSZ.out, HBL.out⟩
    · have hke : k = q.texts.length := by omega
      subst hke
      have HAS : Hid (∀ l : List Int, l.Perm (appN n.desk.read q.first n.desk.waiting q.texts.length) → l.Pairwise (· ≤ ·) → l = waitN n.desk.read q.first n.desk.waiting q.texts.length) := Lib.hid fun l h1 h2 => appN_sorted HO.out.waits f1 h1 h2
      have HRI := Lib.hid (waitN_rise (first := q.first) HO.out.waits f1)
      have HAL := Lib.hid (appN_length n.desk.read q.first n.desk.waiting q.texts.length)
      obtain ⟨fin, hfin⟩ : ∃ fin, fin = comeC d p n.desk q := ⟨_, rfl⟩
      have HFC := Lib.hid hfin
      unfold comeC at hfin
      generalize waitN n.desk.read q.first n.desk.waiting q.texts.length = ws0 at *
      generalize appN n.desk.read q.first n.desk.waiting q.texts.length = wa at *
      have HF := Lib.hid hfin
      clear hfin hlt
      have hl0 := HRI.out.length r1
      have hla : wa.length ≤ 20 := by rw [HAL.out]; omega
      have d4 := hrun.wait
      simp only at d4
      clear hrun
      go_wp2_with (go_at_call 209; refine (sort_c (WorkD wr g A c A2 c2) A2 c2 wa wr HRN.out.waitOwn (by omega)).mono ?_; rintro e w5 ⟨rfl, l, hp5, hs5, ho5, hg5⟩; have HLE := Lib.hid (HAS.out l hp5 hs5); have HLL := Lib.hid hp5.length_eq; have HO5 := Lib.hid ho5; have HG5 := Lib.hid hg5; clear hp5 hs5 ho5 hg5)
      have HRS : Hid (WorkS B w5 g d p ⟨⟨n.desk.read, n.desk.state, n.desk.stack, ws0⟩, n.saved, n.wire⟩ A c A2 c2) := Lib.hid (by
        have hf := HRN.out.turnWait HLL.out (fun k hk hne => HG5.out.block k hk fun e => hne e.symm) HG5.out.size HO5.out
        rw [HLE.out] at hf
        exact hf)
      have HBS : Hid (Below B w w5) := Lib.hid (HBL.out.grown HG5.out (Nat.le_trans HBw.out (Nat.le_trans HBW.out.size HSZ.out)) fun b hb => (HRN.out.ownLo2 b hb).1)
      clear e0 e1 d4 HLE HLL HO5 HG5
      go_loopg [] (ws0.length + 1) (fun z wr2 => ∃ (rd st : Int) (sk ws : List Int) (A2 : Option Addr) (c2 : Nat), ws.length ≤ ws0.length ∧ z = ws.length + 1 ∧ DeskOk d p ⟨rd, st, sk, ws⟩ ∧ fin = drain d p rd st sk ws ∧ WorkS B wr2 g d p ⟨⟨rd, st, sk, ws⟩, n.saved, n.wire⟩ A c A2 c2 ∧ Below B w wr2)
      case atStart => exact ⟨n.desk.read, n.desk.state, n.desk.stack, ws0, A2, c2, by omega, by omega, ⟨r0, r1, HO.out.at_, HRI.out⟩, HF.out, HRS.out, HBS.out⟩
      case round =>
        clear HRS HBS HRN HNB HBK HSZ HBL HZ
        obtain ⟨rd, st, sk, ws, A2, c2, hwl, hz2, hdk, hdr, hrun2, hbut2⟩ := hrel
        have HZ2 := Lib.hid hz2
        have HDK := Lib.hid hdk
        have HDR := Lib.hid hdr
        have HR2 := Lib.hid hrun2
        have HBT2 := Lib.hid hbut2
        have d0 := hrun2.read
        have d4 := hrun2.wait
        simp only at d0 d4
        clear hz2 hdk hdr hbut2
        have hb3 : ∀ m, Below wr.heap.size wr (wr.drewN m) := fun m => drewN_below wr m
        cases ws with
        | nil =>
          clear hrun2
          go_wp2_with fail
          go_quiet (fail)
          go_wp2_with fail
          have he : comeC d p n.desk q = ⟨rd, st, sk, []⟩ := by rw [← HFC.out, HDR.out]; rfl
          refine Go.Great.bodyPost_end0 rfl rfl ⟨A2, c2, rfl, ?_, ?_⟩
          · rw [he]; exact HR2.out.below (hb3 _)
          · exact HBT2.out.trans ((hb3 _).mono (Nat.le_trans HBw.out HBT2.out.size))
        | cons x xs =>
          have hcl : (0 : Int) < ((xs.length : Int) + 1) := by omega
          obtain ⟨b6, o6, rfl, _, _, he6, _⟩ := hrun2.waitOwn.at_ (by have := hrun2.waitOwn.le; simp at this; omega)
          have h6 := he6 0 x rfl
          simp only [elInt, Nat.zero_mul, Nat.add_zero] at h6
          clear he6
          by_cases hx : x = rd
          · subst hx
            obtain ⟨rn, rfl⟩ : ∃ rn : Nat, x = rn := ⟨x.toNat, by have := HDK.out.r0; simp only at this; omega⟩
            have hrp : (rn : Int) < p.length := HDK.out.waits.hi _ (List.mem_cons_self ..)
            have hrn : rn < p.length := by omega
            have hi0 : (0 : Int) ≤ rn := by omega
            obtain ⟨X0, y0, X1, y1, X2, y2, X3, y3, X4, y4, k0, k1, k2, k3, k4, k5, k6, k7, k8⟩ := hrun2.str.chk
            obtain ⟨bp4, op4, rfl, e7, e8⟩ := k8.at_ hrn
            simp only [Nat.mul_one] at e7
            have d1 := hrun2.state
            obtain ⟨A3, c3, d2, sk3⟩ := hrun2.stack
            simp only at d1 d2 sk3
            have HCK := Lib.hid k7
            have HSK := Lib.hid sk3
            have HWO := Lib.hid hrun2.waitOwn
            clear k7 k8 sk3 hrun2
            have HOW := Lib.hid (HW.out p[rn] (List.getElem_mem hrn))
            have HGD := Lib.hid (getD_at p ⟨#[]⟩ hrn)
            generalize p[rn] = pw at *
            have hpw := okWord_le HOW.out
            have HSY := Lib.hid (okWord_sym HOW.out)
            have HAT : Hid (At d (st, sk) (60 * rn)) := Lib.hid HDK.out.at_
            have hsk := HAT.out.len
            simp only at hsk
            obtain ⟨q1, hq⟩ : ∃ q1, q1 = goC d st sk pw.data.toList := ⟨_, rfl⟩
            have HDR2 : Hid (fin = drain d p ((rn : Int) + 1) q1.1 q1.2 xs) := Lib.hid (by rw [HDR.out, drain, if_pos rfl, Int.toNat_natCast, HGD.out, ← hq])
            have HAT2 : Hid (At d q1 (60 * (rn + 1))) := Lib.hid (by have := goC_at HD.out HAT.out (pw := pw) HSY.out; rw [hq]; exact this.more (by omega))
            have HRI2 : Hid (Rise ((rn : Int) + 1) p.length xs) := Lib.hid (HDK.out.waits.tail)
            have HBD : Hid (∀ k, k < B → k < wr.heap.size → WorkD wr g A c (some ⟨b6, o6, none⟩) c2 k) := Lib.hid fun k hk hl => ⟨hl, fun e => by have := HLo.out; omega, fun e => by have := (HR2.out.ownLo k e).1; omega, fun e => by have := (HR2.out.ownLo2 k e).1; omega⟩
            have HGO : Hid (∀ W', Below wr.heap.size wr W' → Calls Tryz.prog 74 #[.agg #[.int .i64 d.stack, .int .i64 d.start, .slice X0 d.acc.length y0, .slice X1 d.call.length y1, .slice X2 d.ret.length y2, .slice X3 d.inn.length y3], .int .i64 st, .slice A3 sk.length c3, .string pw] W' (RetStep (WorkD wr g A c (some ⟨b6, o6, none⟩) c2) W' q1)) := Lib.hid fun W' hb => by
              have hgo := end_c (WorkD wr g A c (some ⟨b6, o6, none⟩) c2) X0 y0 X1 y1 X2 y2 X3 y3 d (st, sk) (60 * rn) A3 c3 pw W' ((HCK.out.mono HBD.out).below hb) (HSK.out.below ints_good hb) HD.out HAT.out (by omega) HSY.out
              dsimp only at hgo
              rw [← hq] at hgo
              exact hgo
            obtain ⟨A9, hA9⟩ : ∃ A9, A9 = (if c2 = 1 then some (⟨b6, o6, none⟩ : Addr) else some ⟨b6, o6 + 1, none⟩) := ⟨_, rfl⟩
            have hcap : ∀ w, (Instr.slice 70 (.slice (some ⟨b6, o6, none⟩) (xs.length + 1) c2) (some (.int .i64 1)) none none).run Tryz.prog w = .ok (.slice A9 xs.length (c2 - 1)) w := by
              intro w
              rw [hA9]
              exact run_tail w _ _ _ _ _ _ Tryz.underlying70 (by kernel_rfl)
            have HTL : Hid (∀ {D : Dom} {w' : World}, OwnSl 1 (elInt .i64) D w' (some ⟨b6, o6, none⟩) c2 ((rn : Int) :: xs) → OwnSl 1 (elInt .i64) D w' A9 (c2 - 1) xs ∧ ∀ b, ownB A9 (c2 - 1) = some b → ownB (some ⟨b6, o6, none⟩) c2 = some b) := Lib.hid fun h => by
              rw [hA9]
              exact OwnSl.tail h
            clear hA9 hq
            obtain ⟨S, hSI, hSE⟩ : ∃ S : World → Prop, (∀ w', S w' → w'.cell? ⟨g, 0, none⟩ = some (.int .i64 rn) ∧ w'.cell? ⟨g, 1, none⟩ = some (.int .i64 st) ∧ w'.cell? ⟨g, 2, none⟩ = some (.slice A3 sk.length c3) ∧ w'.cell? ⟨g, 9, none⟩ = some (.int .i64 d.stack) ∧ w'.cell? ⟨g, 10, none⟩ = some (.int .i64 d.start) ∧ w'.cell? ⟨g, 11, none⟩ = some (.slice X0 d.acc.length y0) ∧ w'.cell? ⟨g, 12, none⟩ = some (.slice X1 d.call.length y1) ∧ w'.cell? ⟨g, 13, none⟩ = some (.slice X2 d.ret.length y2) ∧ w'.cell? ⟨g, 14, none⟩ = some (.slice X3 d.inn.length y3) ∧ w'.cell? ⟨g, 15, none⟩ = some (.slice (some ⟨bp4, op4, none⟩) p.length y4) ∧ w'.cell? ⟨bp4, op4 + rn, none⟩ = some (.string pw)) ∧ ∀ w2, Below wr.heap.size wr w2 → S w2 := by
              refine ⟨fun w' => Below wr.heap.size wr w', fun w' h => ?_, fun w2 h => h⟩
              have h2 := (bcell h (Nat.le_refl _)).1
              exact ⟨(h2 _ _ HR2.out.lt).trans d0, (h2 _ _ HR2.out.lt).trans d1, (h2 _ _ HR2.out.lt).trans d2, (h2 _ _ HR2.out.lt).trans k0, (h2 _ _ HR2.out.lt).trans k1, (h2 _ _ HR2.out.lt).trans k2, (h2 _ _ HR2.out.lt).trans k3, (h2 _ _ HR2.out.lt).trans k4, (h2 _ _ HR2.out.lt).trans k5, (h2 _ _ HR2.out.lt).trans k6, (h2 _ _ (lt_of_cell e7)).trans e7⟩
            have HSI := Lib.hid hSI
            have HSE := Lib.hid hSE
            clear hSI hSE
            go_wp2_with fail
            go_quiet (fail)
            go_wp2_with fail
            refine wp_region_L [32, 35] S (by kernel_rfl) (HSE.out _ (bel_drew (drewN_below _ _))) (fun hS => ?_)
            refine anyL_take0 (i := 0) (oi := ?om0) (v := ?vm0) ?hm0 (by kernel_rfl) (by kernel_rfl) (by kernel_rfl) (by kernel_rfl) (fun _ _ _ h => h) (Or.inl ⟨?wm0, ?ym0⟩) (Or.inr hS) ?_
            case hm0 => simp only [List.getElem?_toArray, List.getElem?_cons_zero]; rfl
            case wm0 => rfl
            case ym0 => (intro w; go_simp; try with_reducible rfl)
            try simp only [Act.put, List.setIfInBounds_toArray, List.set_cons_zero, List.set_cons_succ]
            refine anyL_take0 (i := 1) (oi := ?om1) (v := ?vm1) ?hm1 (by kernel_rfl) (by kernel_rfl) (by kernel_rfl) (by kernel_rfl) (fun _ _ _ h => h) (Or.inl ⟨?wm1, ?ym1⟩) (Or.inr hS) ?_
            case hm1 => simp only [List.getElem?_toArray, List.getElem?_cons_succ, List.getElem?_cons_zero]; rfl
            case wm1 => rfl
            case ym1 => (intro w; go_simp; try with_reducible rfl)
            try simp only [Act.put, List.setIfInBounds_toArray, List.set_cons_zero, List.set_cons_succ]
            refine anyL_take0 (i := 2) (oi := ?om2) (v := ?vm2) ?hm2 (by kernel_rfl) (by kernel_rfl) (by kernel_rfl) (by kernel_rfl) (fun _ _ _ h => h) (Or.inl ⟨?wm2, ?ym2⟩) (Or.inr hS) ?_
            case hm2 => simp only [List.getElem?_toArray, List.getElem?_cons_succ, List.getElem?_cons_zero]; rfl
            case wm2 => rfl
            case ym2 => (intro w; go_simp; try with_reducible rfl)
            try simp only [Act.put, List.setIfInBounds_toArray, List.set_cons_zero, List.set_cons_succ]
            refine anyL_take0 (i := 3) (oi := ?om3) (v := ?vm3) ?hm3 (by kernel_rfl) (by kernel_rfl) (by kernel_rfl) (by kernel_rfl) (fun _ _ _ h => h) (Or.inl ⟨?wm3, ?ym3⟩) (Or.inr hS) ?_
            case hm3 => simp only [List.getElem?_toArray, List.getElem?_cons_succ, List.getElem?_cons_zero]; rfl
            case wm3 => rfl
            case ym3 => (intro w; go_simp; try with_reducible rfl)
            try simp only [Act.put, List.setIfInBounds_toArray, List.set_cons_zero, List.set_cons_succ]
            refine anyL_take0 (i := 4) (oi := ?om4) (v := ?vm4) ?hm4 (by kernel_rfl) (by kernel_rfl) (by kernel_rfl) (by kernel_rfl) (fun _ _ _ h => h) (Or.inl ⟨?wm4, ?ym4⟩) (Or.inr hS) ?_
            case hm4 => simp only [List.getElem?_toArray, List.getElem?_cons_succ, List.getElem?_cons_zero]; rfl
            case wm4 => rfl
            case ym4 => (intro w; go_simp; try with_reducible rfl)
            try simp only [Act.put, List.setIfInBounds_toArray, List.set_cons_zero, List.set_cons_succ]
            refine anyL_take0 (i := 5) (oi := ?om5) (v := ?vm5) ?hm5 (by kernel_rfl) (by kernel_rfl) (by kernel_rfl) (by kernel_rfl) (fun _ _ _ h => h) (Or.inl ⟨?wm5, ?ym5⟩) (Or.inr hS) ?_
            case hm5 => simp only [List.getElem?_toArray, List.getElem?_cons_succ, List.getElem?_cons_zero]; rfl
            case wm5 => rfl
            case ym5 => (intro w; go_simp; try with_reducible rfl)
            try simp only [Act.put, List.setIfInBounds_toArray, List.set_cons_zero, List.set_cons_succ]
            refine anyL_take (i := 6) (oi := ?om6) (v := ?vm6) ?hm6 (by kernel_rfl) (by kernel_rfl) (by kernel_rfl) (by kernel_rfl) (by kernel_rfl) (fun _ _ _ h => h) (Or.inl ⟨?wm6, ?ym6⟩) hS ?_
            case hm6 => simp only [List.getElem?_toArray, List.getElem?_cons_succ, List.getElem?_cons_zero]; rfl
            case wm6 => rfl
            case ym6 => (intro w hSw; replace hSw := HSI.out _ hSw; go_simp; try with_reducible rfl)
            try simp only [Act.put, List.setIfInBounds_toArray, List.set_cons_zero, List.set_cons_succ]
            refine anyL_take0 (i := 7) (oi := ?om7) (v := ?vm7) ?hm7 (by kernel_rfl) (by kernel_rfl) (by kernel_rfl) (by kernel_rfl) (fun _ _ _ h => h) (Or.inl ⟨?wm7, ?ym7⟩) (Or.inr hS) ?_
            case hm7 => simp only [List.getElem?_toArray, List.getElem?_cons_succ, List.getElem?_cons_zero]; rfl
            case wm7 => rfl
            case ym7 => (intro w; go_simp; try with_reducible rfl)
            try simp only [Act.put, List.setIfInBounds_toArray, List.set_cons_zero, List.set_cons_succ]
            refine anyL_take0 (i := 8) (oi := ?om8) (v := ?vm8) ?hm8 (by kernel_rfl) (by kernel_rfl) (by kernel_rfl) (by kernel_rfl) (fun _ _ _ h => h) (Or.inl ⟨?wm8, ?ym8⟩) (Or.inr hS) ?_
            case hm8 => simp only [List.getElem?_toArray, List.getElem?_cons_succ, List.getElem?_cons_zero]; rfl
            case wm8 => rfl
            case ym8 => (intro w; go_simp; try with_reducible rfl)
            try simp only [Act.put, List.setIfInBounds_toArray, List.set_cons_zero, List.set_cons_succ]
            refine anyL_take0 (i := 9) (oi := ?om9) (v := ?vm9) ?hm9 (by kernel_rfl) (by kernel_rfl) (by kernel_rfl) (by kernel_rfl) (fun _ _ _ h => h) (Or.inl ⟨?wm9, ?ym9⟩) (Or.inr hS) ?_
            case hm9 => simp only [List.getElem?_toArray, List.getElem?_cons_succ, List.getElem?_cons_zero]; rfl
            case wm9 => rfl
            case ym9 => (intro w; go_simp; try with_reducible rfl)
            try simp only [Act.put, List.setIfInBounds_toArray, List.set_cons_zero, List.set_cons_succ]
            refine anyL_take (i := 10) (oi := ?om10) (v := ?vm10) ?hm10 (by kernel_rfl) (by kernel_rfl) (by kernel_rfl) (by kernel_rfl) (by kernel_rfl) (fun _ _ _ h => h) (Or.inl ⟨?wm10, ?ym10⟩) hS ?_
            case hm10 => simp only [List.getElem?_toArray, List.getElem?_cons_succ, List.getElem?_cons_zero]; rfl
            case wm10 => rfl
            case ym10 => (intro w hSw; replace hSw := HSI.out _ hSw; go_simp; try with_reducible rfl)
            try simp only [Act.put, List.setIfInBounds_toArray, List.set_cons_zero, List.set_cons_succ]
            refine anyL_take0 (i := 11) (oi := ?om11) (v := ?vm11) ?hm11 (by kernel_rfl) (by kernel_rfl) (by kernel_rfl) (by kernel_rfl) (fun _ _ _ h => h) (Or.inl ⟨?wm11, ?ym11⟩) (Or.inr hS) ?_
            case hm11 => simp only [List.getElem?_toArray, List.getElem?_cons_succ, List.getElem?_cons_zero]; rfl
            case wm11 => rfl
            case ym11 => (intro w; go_simp; try with_reducible rfl)
            try simp only [Act.put, List.setIfInBounds_toArray, List.set_cons_zero, List.set_cons_succ]
            refine anyL_take0 (i := 12) (oi := ?om12) (v := ?vm12) ?hm12 (by kernel_rfl) (by kernel_rfl) (by kernel_rfl) (by kernel_rfl) (fun _ _ _ h => h) (Or.inl ⟨?wm12, ?ym12⟩) (Or.inr hS) ?_
            case hm12 => simp only [List.getElem?_toArray, List.getElem?_cons_succ, List.getElem?_cons_zero]; rfl
            case wm12 => rfl
            case ym12 => (intro w; go_simp; try with_reducible rfl)
            try simp only [Act.put, List.setIfInBounds_toArray, List.set_cons_zero, List.set_cons_succ]
            refine anyL_take0 (i := 13) (oi := ?om13) (v := ?vm13) ?hm13 (by kernel_rfl) (by kernel_rfl) (by kernel_rfl) (by kernel_rfl) (fun _ _ _ h => h) (Or.inl ⟨?wm13, ?ym13⟩) (Or.inr hS) ?_
            case hm13 => simp only [List.getElem?_toArray, List.getElem?_cons_succ, List.getElem?_cons_zero]; rfl
            case wm13 => rfl
            case ym13 => (intro w; go_simp; try with_reducible rfl)
            try simp only [Act.put, List.setIfInBounds_toArray, List.set_cons_zero, List.set_cons_succ]
            refine anyL_take (i := 14) (oi := ?om14) (v := ?vm14) ?hm14 (by kernel_rfl) (by kernel_rfl) (by kernel_rfl) (by kernel_rfl) (by kernel_rfl) (fun _ _ _ h => h) (Or.inl ⟨?wm14, ?ym14⟩) hS ?_
            case hm14 => simp only [List.getElem?_toArray, List.getElem?_cons_succ, List.getElem?_cons_zero]; rfl
            case wm14 => rfl
            case ym14 => (intro w hSw; replace hSw := HSI.out _ hSw; go_simp; try with_reducible rfl)
            try simp only [Act.put, List.setIfInBounds_toArray, List.set_cons_zero, List.set_cons_succ]
            refine anyL_take0 (i := 15) (oi := ?om15) (v := ?vm15) ?hm15 (by kernel_rfl) (by kernel_rfl) (by kernel_rfl) (by kernel_rfl) (fun _ _ _ h => h) (Or.inl ⟨?wm15, ?ym15⟩) (Or.inr hS) ?_
            case hm15 => simp only [List.getElem?_toArray, List.getElem?_cons_succ, List.getElem?_cons_zero]; rfl
            case wm15 => rfl
            case ym15 => (intro w; go_simp; try with_reducible rfl)
            try simp only [Act.put, List.setIfInBounds_toArray, List.set_cons_zero, List.set_cons_succ]
            refine anyL_take0 (i := 16) (oi := ?om16) (v := ?vm16) ?hm16 (by kernel_rfl) (by kernel_rfl) (by kernel_rfl) (by kernel_rfl) (fun _ _ _ h => h) (Or.inl ⟨?wm16, ?ym16⟩) (Or.inr hS) ?_
            case hm16 => simp only [List.getElem?_toArray, List.getElem?_cons_succ, List.getElem?_cons_zero]; rfl
            case wm16 => rfl
            case ym16 => (intro w; go_simp; try with_reducible rfl)
            try simp only [Act.put, List.setIfInBounds_toArray, List.set_cons_zero, List.set_cons_succ]
            refine anyL_take0 (i := 17) (oi := ?om17) (v := ?vm17) ?hm17 (by kernel_rfl) (by kernel_rfl) (by kernel_rfl) (by kernel_rfl) (fun _ _ _ h => h) (Or.inl ⟨?wm17, ?ym17⟩) (Or.inr hS) ?_
            case hm17 => simp only [List.getElem?_toArray, List.getElem?_cons_succ, List.getElem?_cons_zero]; rfl
            case wm17 => rfl
            case ym17 => (intro w; go_simp; try with_reducible rfl)
            try simp only [Act.put, List.setIfInBounds_toArray, List.set_cons_zero, List.set_cons_succ]
            refine anyL_take0 (i := 18) (oi := ?om18) (v := ?vm18) ?hm18 (by kernel_rfl) (by kernel_rfl) (by kernel_rfl) (by kernel_rfl) (fun _ _ _ h => h) (Or.inl ⟨?wm18, ?ym18⟩) (Or.inr hS) ?_
            case hm18 => simp only [List.getElem?_toArray, List.getElem?_cons_succ, List.getElem?_cons_zero]; rfl
            case wm18 => rfl
            case ym18 => (intro w; go_simp; try with_reducible rfl)
            try simp only [Act.put, List.setIfInBounds_toArray, List.set_cons_zero, List.set_cons_succ]
            refine anyL_take (i := 19) (oi := ?om19) (v := ?vm19) ?hm19 (by kernel_rfl) (by kernel_rfl) (by kernel_rfl) (by kernel_rfl) (by kernel_rfl) (fun _ _ _ h => h) (Or.inl ⟨?wm19, ?ym19⟩) hS ?_
            case hm19 => simp only [List.getElem?_toArray, List.getElem?_cons_succ, List.getElem?_cons_zero]; rfl
            case wm19 => rfl
            case ym19 => (intro w hSw; replace hSw := HSI.out _ hSw; go_simp; try with_reducible rfl)
            try simp only [Act.put, List.setIfInBounds_toArray, List.set_cons_zero, List.set_cons_succ]
            refine anyL_take0 (i := 20) (oi := ?om20) (v := ?vm20) ?hm20 (by kernel_rfl) (by kernel_rfl) (by kernel_rfl) (by kernel_rfl) (fun _ _ _ h => h) (Or.inl ⟨?wm20, ?ym20⟩) (Or.inr hS) ?_
            case hm20 => simp only [List.getElem?_toArray, List.getElem?_cons_succ, List.getElem?_cons_zero]; rfl
            case wm20 => rfl
            case ym20 => (intro w; go_simp; try with_reducible rfl)
            try simp only [Act.put, List.setIfInBounds_toArray, List.set_cons_zero, List.set_cons_succ]
            refine anyL_take0 (i := 21) (oi := ?om21) (v := ?vm21) ?hm21 (by kernel_rfl) (by kernel_rfl) (by kernel_rfl) (by kernel_rfl) (fun _ _ _ h => h) (Or.inl ⟨?wm21, ?ym21⟩) (Or.inr hS) ?_
            case hm21 => simp only [List.getElem?_toArray, List.getElem?_cons_succ, List.getElem?_cons_zero]; rfl
            case wm21 => rfl
            case ym21 => (intro w; go_simp; try with_reducible rfl)
            try simp only [Act.put, List.setIfInBounds_toArray, List.set_cons_zero, List.set_cons_succ]
            refine anyL_take0 (i := 22) (oi := ?om22) (v := ?vm22) ?hm22 (by kernel_rfl) (by kernel_rfl) (by kernel_rfl) (by kernel_rfl) (fun _ _ _ h => h) (Or.inl ⟨?wm22, ?ym22⟩) (Or.inr hS) ?_
            case hm22 => simp only [List.getElem?_toArray, List.getElem?_cons_succ, List.getElem?_cons_zero]; rfl
            case wm22 => rfl
            case ym22 => (intro w; go_simp; try with_reducible rfl)
            try simp only [Act.put, List.setIfInBounds_toArray, List.set_cons_zero, List.set_cons_succ]
            refine anyL_take (i := 23) (oi := ?om23) (v := ?vm23) ?hm23 (by kernel_rfl) (by kernel_rfl) (by kernel_rfl) (by kernel_rfl) (by kernel_rfl) (fun _ _ _ h => h) (Or.inl ⟨?wm23, ?ym23⟩) hS ?_
            case hm23 => simp only [List.getElem?_toArray, List.getElem?_cons_succ, List.getElem?_cons_zero]; rfl
            case wm23 => rfl
            case ym23 => (intro w hSw; replace hSw := HSI.out _ hSw; go_simp; try with_reducible rfl)
            try simp only [Act.put, List.setIfInBounds_toArray, List.set_cons_zero, List.set_cons_succ]
            refine anyL_take0 (i := 24) (oi := ?om24) (v := ?vm24) ?hm24 (by kernel_rfl) (by kernel_rfl) (by kernel_rfl) (by kernel_rfl) (fun _ _ _ h => h) (Or.inl ⟨?wm24, ?ym24⟩) (Or.inr hS) ?_
            case hm24 => simp only [List.getElem?_toArray, List.getElem?_cons_succ, List.getElem?_cons_zero]; rfl
            case wm24 => rfl
            case ym24 => (intro w; go_simp; try with_reducible rfl)
            try simp only [Act.put, List.setIfInBounds_toArray, List.set_cons_zero, List.set_cons_succ]
            refine anyL_take (i := 25) (oi := ?om25) (v := ?vm25) ?hm25 (by kernel_rfl) (by kernel_rfl) (by kernel_rfl) (by kernel_rfl) (by kernel_rfl) (fun _ _ _ h => h) (Or.inl ⟨?wm25, ?ym25⟩) hS ?_
            case hm25 => simp only [List.getElem?_toArray, List.getElem?_cons_succ, List.getElem?_cons_zero]; rfl
            case wm25 => rfl
            case ym25 => (intro w hSw; replace hSw := HSI.out _ hSw; go_simp; try with_reducible rfl)
            try simp only [Act.put, List.setIfInBounds_toArray, List.set_cons_zero, List.set_cons_succ]
            refine anyL_one (i := 26) (o := ?om26) (by kernel_rfl) ?hm26 ?wm26 (fun K hK => ?_)
            case hm26 => simp only [List.getElem?_toArray, List.getElem?_cons_succ, List.getElem?_cons_zero]; rfl
            case wm26 => rfl
            go_simp
            go_at_call 74
            refine (HGO.out _ (by first | exact drewN_below _ _ | exact bel_drew (drewN_below _ _))).mono ?_
            rintro e w2 ⟨A7, c7, rfl, hs2, hb2⟩
            have HB2 : Hid (Below wr.heap.size wr w2) := Lib.hid (by first | exact Below.trans (drewN_below _ _) hb2 | exact Below.trans (bel_drew (drewN_below _ _)) hb2)
            have HS2 : Hid (Sl 1 (elInt .i64) (fun b => WorkD wr g A c (some ⟨b6, o6, none⟩) c2 b ∨ wr.heap.size ≤ b) w2 A7 c7 q1.2) := Lib.hid hs2
            clear hs2 hb2
            go_wp2_with fail
            refine hK _ _ (fun _ => HSE.out _ HB2.out) ?_
            replace hS := HSE.out _ HB2.out
            have HR3 := Lib.hid (HR2.out.below HB2.out)
            obtain ⟨x1, x2, x3, x4⟩ : w2.cell? ⟨g, 1, none⟩ = some (.int .i64 st) ∧ w2.cell? ⟨g, 2, none⟩ = some (.slice A3 sk.length c3) ∧ w2.frozen? ⟨g, 1, none⟩ = false ∧ w2.frozen? ⟨g, 2, none⟩ = false := by
              have z := HSI.out _ hS
              exact ⟨z.2.1, z.2.2.1, HR3.out.free 1, HR3.out.free 2⟩
            clear hK K
            try simp only [Act.put, List.setIfInBounds_toArray, List.set_cons_zero, List.set_cons_succ]
            refine anyL_take0 (i := 27) (oi := ?om27) (v := ?vm27) ?hm27 (by kernel_rfl) (by kernel_rfl) (by kernel_rfl) (by kernel_rfl) (fun _ _ _ h => h) (Or.inl ⟨?wm27, ?ym27⟩) (Or.inr hS) ?_
            case hm27 => simp only [List.getElem?_toArray, List.getElem?_cons_succ, List.getElem?_cons_zero]; rfl
            case wm27 => rfl
            case ym27 => (intro w; go_simp; try with_reducible rfl)
            try simp only [Act.put, List.setIfInBounds_toArray, List.set_cons_zero, List.set_cons_succ]
            refine anyL_take0 (i := 28) (oi := ?om28) (v := ?vm28) ?hm28 (by kernel_rfl) (by kernel_rfl) (by kernel_rfl) (by kernel_rfl) (fun _ _ _ h => h) (Or.inl ⟨?wm28, ?ym28⟩) (Or.inr hS) ?_
            case hm28 => simp only [List.getElem?_toArray, List.getElem?_cons_succ, List.getElem?_cons_zero]; rfl
            case wm28 => rfl
            case ym28 => (intro w; go_simp; try with_reducible rfl)
            try simp only [Act.put, List.setIfInBounds_toArray, List.set_cons_zero, List.set_cons_succ]
            refine anyL_take0 (i := 29) (oi := ?om29) (v := ?vm29) ?hm29 (by kernel_rfl) (by kernel_rfl) (by kernel_rfl) (by kernel_rfl) (fun _ _ _ h => h) (Or.inl ⟨?wm29, ?ym29⟩) (Or.inr hS) ?_
            case hm29 => simp only [List.getElem?_toArray, List.getElem?_cons_succ, List.getElem?_cons_zero]; rfl
            case wm29 => rfl
            case ym29 => (intro w; go_simp; try with_reducible rfl)
            try simp only [Act.put, List.setIfInBounds_toArray, List.set_cons_zero, List.set_cons_succ]
            refine anyL_take0 (i := 30) (oi := ?om30) (v := ?vm30) ?hm30 (by kernel_rfl) (by kernel_rfl) (by kernel_rfl) (by kernel_rfl) (fun _ _ _ h => h) (Or.inl ⟨?wm30, ?ym30⟩) (Or.inr hS) ?_
            case hm30 => simp only [List.getElem?_toArray, List.getElem?_cons_succ, List.getElem?_cons_zero]; rfl
            case wm30 => rfl
            case ym30 => (intro w; go_simp; try with_reducible rfl)
            try simp only [Act.put, List.setIfInBounds_toArray, List.set_cons_zero, List.set_cons_succ]
            refine anyL_take0 (i := 31) (oi := ?om31) (v := ?vm31) ?hm31 (by kernel_rfl) (by kernel_rfl) (by kernel_rfl) (by kernel_rfl) (fun _ _ _ h => h) (Or.inl ⟨?wm31, ?ym31⟩) (Or.inr hS) ?_
            case hm31 => simp only [List.getElem?_toArray, List.getElem?_cons_succ, List.getElem?_cons_zero]; rfl
            case wm31 => rfl
            case ym31 => (intro w; go_simp; try with_reducible rfl)
            try simp only [Act.put, List.setIfInBounds_toArray, List.set_cons_zero, List.set_cons_succ]
            refine anyL_late (i := 32) (o := ?om32) (by kernel_rfl) ?hm32 ?wm32 (by kernel_rfl) (fun K hK => ?_)
            case hm32 => simp only [List.getElem?_toArray, List.getElem?_cons_succ, List.getElem?_cons_zero]; rfl
            case wm32 => rfl
            go_simp
            refine hK _ _ ?_
            clear hK K
            try simp only [Act.put, List.setIfInBounds_toArray, List.set_cons_zero, List.set_cons_succ]
            refine anyL_take0 (i := 33) (oi := ?om33) (v := ?vm33) ?hm33 (by kernel_rfl) (by kernel_rfl) (by kernel_rfl) (by kernel_rfl) (fun _ _ _ h => h) (Or.inl ⟨?wm33, ?ym33⟩) (Or.inl (by kernel_rfl)) ?_
            case hm33 => simp only [List.getElem?_toArray, List.getElem?_cons_succ, List.getElem?_cons_zero]; rfl
            case wm33 => rfl
            case ym33 => (intro w; go_simp; try with_reducible rfl)
            try simp only [Act.put, List.setIfInBounds_toArray, List.set_cons_zero, List.set_cons_succ]
            refine anyL_take0 (i := 34) (oi := ?om34) (v := ?vm34) ?hm34 (by kernel_rfl) (by kernel_rfl) (by kernel_rfl) (by kernel_rfl) (fun _ _ _ h => h) (Or.inl ⟨?wm34, ?ym34⟩) (Or.inl (by kernel_rfl)) ?_
            case hm34 => simp only [List.getElem?_toArray, List.getElem?_cons_succ, List.getElem?_cons_zero]; rfl
            case wm34 => rfl
            case ym34 => (intro w; go_simp; try with_reducible rfl)
            try simp only [Act.put, List.setIfInBounds_toArray, List.set_cons_zero, List.set_cons_succ]
            refine anyL_late (i := 35) (o := ?om35) (by kernel_rfl) ?hm35 ?wm35 (by kernel_rfl) (fun K hK => ?_)
            case hm35 => simp only [List.getElem?_toArray, List.getElem?_cons_succ, List.getElem?_cons_zero]; rfl
            case wm35 => rfl
            go_simp
            refine hK _ _ ?_
            clear hK K
            try simp only [Act.put, List.setIfInBounds_toArray, List.set_cons_zero, List.set_cons_succ]
            refine anyL_end (by kernel_rfl) ?_ _
            have HSL : Hid (Sl 1 (elInt .i64) (WorkD w2 g A c (some ⟨b6, o6, none⟩) c2) w2 A7 c7 q1.2) := Lib.hid (HS2.out.mono ints_good fun k hk hl => by
              rcases hk with hk | hk
              · exact ⟨hl, hk.2⟩
              · exact HR2.out.new hk hl)
            have HR5 := Lib.hid (HR3.out.setBoth q1.1 HSL.out)
            have HB3 : Hid (Below B w ((w2.setCell ⟨g, 1, none⟩ (.int .i64 q1.1)).setCell ⟨g, 2, none⟩ (.slice A7 q1.2.length c7))) := Lib.hid (((HBT2.out.trans (HB2.out.mono (Nat.le_trans HBw.out HBT2.out.size))).setCell HLo.out _).setCell HLo.out _)
            clear x1 x2 x3 x4 hS h6 d0 d1 d2 d4 k0 k1 k2 k3 k4 k5 k6 e7
            generalize ((w2.setCell ⟨g, 1, none⟩ (.int .i64 q1.1)).setCell ⟨g, 2, none⟩ (.slice A7 q1.2.length c7)) = W3 at HR5 HB3 ⊢
            have hxl : xs.length ≤ 20 := by simp only [List.length_cons] at hwl; omega
            have e4 : W3.cell? ⟨g, 3, none⟩ = some (.slice (some ⟨b6, o6, none⟩) (xs.length + 1) c2) := HR5.out.wait
            have e0 : W3.cell? ⟨g, 0, none⟩ = some (.int .i64 rn) := HR5.out.read
            have z0 := HR5.out.free 0
            have z3 := HR5.out.free 3
            go_wp2_with fail
            go_roundg (xs.length + 1)
            case measure => have := HZ2.out; simp only [List.length_cons] at this; omega
            case rel =>
              refine ⟨(rn : Int) + 1, q1.1, q1.2, xs, A9, c2 - 1, by simp only [List.length_cons] at hwl; omega, rfl, ⟨by simp only; omega, by simp only; omega, ?_, HRI2.out⟩, HDR2.out, ?_, ?_⟩
              · have : ((rn : Int) + 1).toNat = rn + 1 := by omega
                simp only [this]
                exact HAT2.out
              · obtain ⟨t1, t2⟩ := HTL.out HR5.out.waitOwn
                exact (HR5.out.putWait (fun _ _ _ => rfl) (Nat.le_refl _) t1 fun b hb => .inl (t2 b hb)).setRead _
              · exact (HB3.out.setCell HLo.out _).setCell HLo.out _
          · have hx2 : (x == rd) = false := beq_eq_false_iff_ne.2 hx
            have he : comeC d p n.desk q = ⟨rd, st, sk, x :: xs⟩ := by rw [← HFC.out, HDR.out, drain, if_neg hx]
            have HE := Lib.hid he
            clear he hrun2
            go_wp2_with fail
            go_quiet (fail)
            go_wp2_with fail
            refine Go.Great.bodyPost_end0 rfl rfl ⟨some ⟨b6, o6, none⟩, c2, rfl, ?_, ?_⟩
            · rw [HE.out]; exact HR2.out.below (hb3 _)
            · exact HBT2.out.trans ((hb3 _).mono (Nat.le_trans HBw.out HBT2.out.size))
end Go.Proofs.YtcagdmaiemmfgaaGreat
