/- The reference's run: a parcel comes in; for all valid streams. -/
import Derived.Test.YtcagdmaiemmfgaaGreatSj
import Derived.Test.YtcagdmaiemmfgaaGreatL
import Derived.Great.Walk
namespace Go.Proofs.YtcagdmaiemmfgaaGreat
open Go.RowKit

/-- Only the blocks in E, and new ones, are other ones. -/
structure But (E : Dom) (w w' : World) : Prop where
  os : w'.os = w.os
  tape : w'.tape = w.tape
  output : w'.output = w.output
  size : w.heap.size ≤ w'.heap.size
  block : ∀ k, k < w.heap.size → ¬ E k → w'.heap[k]? = w.heap[k]?
theorem But.refl (E : Dom) (w : World) : But E w w := ⟨rfl, rfl, rfl, Nat.le_refl _, fun _ _ _ => rfl⟩
theorem But.trans {E E' : Dom} {w w1 w2 : World} (h : But E w w1) (k : But E' w1 w2) (hE : ∀ b, b < w.heap.size → E' b → E b) : But E w w2 :=
  ⟨k.os.trans h.os, k.tape.trans h.tape, k.output.trans h.output, Nat.le_trans h.size k.size, fun b hb hn => (k.block b (Nat.lt_of_lt_of_le hb h.size) fun e => hn (hE b hb e)).trans (h.block b hb hn)⟩
theorem But.of_below {E : Dom} {w w' : World} (h : Below w.heap.size w w') : But E w w' := ⟨h.os, h.tape, h.output, h.size, fun k hk _ => h.block k hk⟩
theorem But.set {E : Dom} {w w1 : World} {a : Addr} {v : Value} (h : But E w w1) (ha : w.heap.size ≤ a.block ∨ E a.block) : But E w (w1.setCell a v) :=
  ⟨h.os, h.tape, h.output, Nat.le_trans h.size (by simp [World.setCell]), fun k hk hn => (Below.heap_setCell w1 a v k (fun e => by subst e; rcases ha with ha | ha <;> first | omega | exact hn ha)).trans (h.block k hk hn)⟩
theorem But.below {E : Dom} {w w' : World} {B : Nat} (h : But E w w') (hB : B ≤ w.heap.size) (hE : ∀ b, E b → B ≤ b) : Below B w w' :=
  ⟨h.os, h.tape, h.output, h.size, fun k hk => h.block k (by omega) fun e => by have := hE k e; omega⟩
theorem But.mono {E E' : Dom} {w w' : World} (h : But E w w') (hE : ∀ b, b < w.heap.size → E b → E' b) : But E' w w' := ⟨h.os, h.tape, h.output, h.size, fun k hk hn => h.block k hk fun e => hn (hE k hk e)⟩
theorem StrPtr.belowB {D : Dom} {w w' : World} {B b o : Nat} {d : Chk} {p : List ByteArray} (h : StrPtr D w b o d p) (hb : Below B w w') (hD : ∀ k, D k → k < B) (hvb : b < B) : StrPtr D w' b o d p := by
  have hc : ∀ j, w'.cell? ⟨b, j, none⟩ = w.cell? ⟨b, j, none⟩ := fun j => hb.cell (p := ⟨b, j, none⟩) hvb
  have hs : Same D w w' := fun k hk => hb.block k (hD k hk)
  obtain ⟨⟨p0, p1, A0, c0, A1, c1, A2, c2, A3, c3, p2, p3, p4, p5, h5⟩, A, c, h2, h3⟩ := h
  exact ⟨⟨(hc _).trans p0, (hc _).trans p1, A0, c0, A1, c1, A2, c2, A3, c3, (hc _).trans p2, (hc _).trans p3, (hc _).trans p4, (hc _).trans p5, ⟨h5.acc.keep elBool_good hs, h5.call.keep elPushs_good hs, h5.ret.keep elIntss_good hs, h5.inn.keep elInts_good hs⟩⟩, A, c, (hc _).trans h2, h3.keep elStr_good hs⟩
theorem okWord_sym {s : ByteArray} (h : okWord s = true) : ∀ (i : Nat) (h : i < s.size), 0 ≤ symI s[i] := by
  unfold okWord at h
  simp only [Bool.and_eq_true, List.all_eq_true] at h
  intro i hi
  have := h.1 s[i] (by rw [ByteArray.getElem_eq_getElem_data]; exact Array.getElem_mem_toList ..)
  simpa [isSym] using this
theorem goC_at {d : Chk} (hd : Dim d) {s : Int} {st : List Int} {n : Nat} (h : At d (s, st) n) {pw : ByteArray} (hb : ∀ (i : Nat) (h : i < pw.size), 0 ≤ symI pw[i]) : At d (goC d s st pw.data.toList) (n + pw.size) := by
  have key : ∀ k, k ≤ pw.size → At d (goC d s st (pw.data.toList.take k)) (n + k) := by
    intro k
    induction k with
    | zero => intro _; exact h
    | succ k ih =>
      intro hk
      rw [goC_take pw k hk]
      exact stepC_at hd (ih (by omega)) (hb k hk)
  have := key pw.size (Nat.le_refl _)
  rwa [goC_all pw _ (Nat.le_refl _)] at this
theorem Rise.tail {a b : Int} {ws : List Int} (h : Rise a b (a :: ws)) : Rise (a + 1) b ws := by
  obtain ⟨h1, h2, h3⟩ := h
  rw [List.pairwise_cons] at h1
  exact ⟨h1.2, fun k hk => by have := h1.1 k hk; omega, fun k hk => h3 k (List.mem_cons_of_mem _ hk)⟩
theorem Sl.tail {α : Type} {e : El α} {D : Dom} {w : World} {b o c : Nat} {x : α} {xs : List α} (h : Sl 1 e D w (some ⟨b, o, none⟩) c (x :: xs)) : Sl 1 e D w (if c = 1 then some ⟨b, o, none⟩ else some ⟨b, o + 1, none⟩) (c - 1) xs := by
  have h1 := h.1
  have h2 := h.2.1
  simp only [List.length_cons] at h1
  refine ⟨by omega, by omega, fun hn => ?_⟩
  rw [if_neg (by omega)]
  obtain ⟨b', o', ha, hb, hc⟩ := h.2.2 (by simp)
  simp only [Option.some.injEq, Addr.mk.injEq, and_true] at ha
  obtain ⟨rfl, rfl⟩ := ha
  refine ⟨b, o + 1, rfl, hb, fun i y hy => ?_⟩
  have := hc (i + 1) y (by simpa using hy)
  rwa [Nat.add_mul, Nat.one_mul, Nat.add_comm (i * 1), ← Nat.add_assoc] at this
theorem run_tail {P : Program} (w : World) (t T : TypeId) (b o n c : Nat) (ht : P.underlying t = some (.slice T)) (hs : (sizeOf T).run P w = .ok 1 w) :
    (Instr.slice t (.slice (some ⟨b, o, none⟩) (n + 1) c) (some (.int .i64 1)) none none).run P w = .ok (.slice (if c = 1 then some ⟨b, o, none⟩ else some ⟨b, o + 1, none⟩) n (c - 1)) w := by
  have he : P.elem t = T := by simp [Program.elem, ht]
  rw [run_slice_l w t _ _ _ (by rw [he]; exact ht) .i64 1 (by omega) (by omega), he, hs]
  simp [Result.andThen, sliced, add_flat]
theorem RunS.setBoth {X : Dom} {B : Nat} {w : World} {g vb vo : Nat} {n : PlantP} {A : Option Addr} {c : Nat} (h : RunS X B w g vb vo n A c) (s : Int) {A3 : Option Addr} {c3 : Nat} {st : List Int} (h3 : Sl 1 (elInt .i64) (RunD X w g A c) w A3 c3 st) :
    RunS X B ((w.setCell ⟨g, 2, none⟩ (.int .i64 s)).setCell ⟨g, 3, none⟩ (.slice A3 st.length c3)) g vb vo ⟨⟨n.desk.read, s, st, n.desk.waiting⟩, n.saved, n.wire⟩ A c := by
  have ht := turned_set w g 2 (.int .i64 s)
  have he : RunD X (w.setCell ⟨g, 2, none⟩ (.int .i64 s)) g A c = RunD X w g A c := RunD.eq ht.2.1
  exact (h.setState s).setStack (he ▸ h3.keep ints_good fun b hb => ht.1 b hb.2.1)
set_option maxHeartbeats 8000000 in
set_option maxRecDepth 100000 in
theorem come_c (X : Dom) (B : Nat) (g vb vo gp : Nat) (n : PlantP) (A : Option Addr) (c : Nat) (d : Chk) (p : List ByteArray) (q : ParcelP) (A4 : Option Addr) (c4 : Nat) (D : Dom) (w : World) (h : RunS X B w g vb vo n A c) (hv : StrPtr D w vb vo d p) (hD : ∀ k, D k → k < B) (hvb : vb < B) (hd : Dim d) (hw : ∀ s ∈ p, okWord s = true) (hp : p.length ≤ 20)
    (ho : DeskOk d p n.desk) (hq : ParcelOk p q) (hgp : gp ≠ g) (q0 : w.cell? ⟨gp, 0, none⟩ = some (.int .i64 q.first)) (q1 : w.cell? ⟨gp, 1, none⟩ = some (.slice A4 q.texts.length c4)) :
    Calls Tryz.prog 222 #[.pointer (some ⟨g, 0, none⟩), .pointer (some ⟨gp, 0, none⟩)] w fun e w' => e = .returned (.tuple #[]) ∧ RunS X B w' g vb vo ⟨comeC d p n.desk q, n.saved, n.wire⟩ A c ∧ But (· = g) w w' := by
  have HR := Lib.hid h
  have HV := Lib.hid hv
  have HO := Lib.hid ho
  have HD := Lib.hid hd
  have HW := Lib.hid hw
  have HDB := Lib.hid hD
  have HLo := Lib.hid h.lo
  have HBw : Hid (B ≤ w.heap.size) := Lib.hid (Nat.le_trans h.lo (Nat.le_of_lt h.lt))
  have f0 := hq.f0
  have f1 := hq.f1
  have r0 := ho.r0
  have r1 := ho.r1
  have lg := h.lt
  have lp := lt_of_cell q0
  clear h hv ho hq hd hw hD
  go_enter Tryz.func222, Tryz.ntmps222
  go_wp2_with fail
  go_loopg [5] q.texts.length (fun z v wr => ∃ k : Nat, k ≤ q.texts.length ∧ z = q.texts.length - k ∧ v = .int .i64 k ∧ RunS X B wr g vb vo ⟨⟨n.desk.read, n.desk.state, n.desk.stack, waitN n.desk.read q.first n.desk.waiting k⟩, n.saved, n.wire⟩ A c ∧ But (· = g) w wr)
  case atStart => exact ⟨0, by omega, by omega, rfl, HR.out, But.refl _ _⟩
  case round =>
    obtain ⟨k, hk, hz, rfl, hrun, hbut⟩ := hrel
    have HZ := Lib.hid hz
    have HRN := Lib.hid hrun
    have HBT := Lib.hid hbut
    have q0' := (World.cell?_of_block (a := ⟨gp, 0, none⟩) (hbut.block gp lp hgp)).trans q0
    have q1' := (World.cell?_of_block (a := ⟨gp, 1, none⟩) (hbut.block gp lp hgp)).trans q1
    clear hz hbut
    by_cases hlt : k < q.texts.length
    · have HN : Hid (waitN n.desk.read q.first n.desk.waiting (k + 1) = wait1 n.desk.read (waitN n.desk.read q.first n.desk.waiting k) (q.first + k)) := Lib.hid rfl
      have HRI := Lib.hid (waitN_rise (first := q.first) (n := k) HO.out.waits (by omega))
      generalize waitN n.desk.read q.first n.desk.waiting k = ws at *
      have hl := HRI.out.length r1
      obtain ⟨d0, d1, ⟨A1, c1, d2, d3⟩, A2, c2, d4, d5⟩ := hrun.desk
      simp only [Nat.reduceAdd] at d0 d4
      have D5 := Lib.hid d5
      have hw1 : IntKind.i64.wrap (q.first + (k : Int)) = q.first + k := by rw [IntKind.wrap_i64]; omega
      clear d1 d2 d3 d5 hrun
      by_cases hle : n.desk.read ≤ q.first + k
      · cases hc : ws.contains (q.first + (k : Int))
        · have HW : Hid (wait1 n.desk.read ws (q.first + k) = putL ws (q.first + k)) := Lib.hid (by unfold wait1; rw [if_pos ⟨hle, hc⟩])
          go_wp2_with (first | (go_at_call 176; refine (l00Has_c _ A2 c2 ws _ _ D5.out).mono ?_; rintro e w' ⟨rfl, rfl⟩; rw [hc]) | (go_at_call 181; refine (l00Own_c _ A2 c2 ws _ D5.out (by omega)).mono ?_; rintro e w1 ⟨v1, rfl, ho1, hb1⟩; obtain ⟨A5, c5, rfl, hs1⟩ := ho1.sl; have HS1 := Lib.hid hs1; have HB1 := Lib.hid hb1; clear ho1 hs1 hb1) | (go_at_call 229; refine (l00Put_c _ A5 c5 ws _ _ HS1.out (by omega)).mono ?_; rintro e w2 ⟨v2, rfl, ho2, hb2⟩; obtain ⟨A6, c6, rfl, hs2⟩ := ho2.sl; have HS2 := Lib.hid hs2; have HB2 := Lib.hid (HB1.out.trans (hb2.mono HB1.out.size)); have HR2 := Lib.hid (HRN.out.below HB2.out); have e4 := ((bcell HB2.out (Nat.le_refl _)).1 _ _ (lt_of_cell d4)).trans d4; have e5 := HR2.out.free 4; have HL2 := Lib.hid (Nat.le_refl w2.heap.size); clear ho2 hs2 hb2))
          go_roundg (q.texts.length - (k + 1))
          case measure => have := HZ.out; omega
          case rel =>
            refine ⟨k + 1, by omega, rfl, by go_num, ?_, ?_⟩
            · rw [HN.out, HW.out]
              exact HR2.out.setWaiting (HS2.out.mono ints_good fun b hb hl => HRN.out.new (Nat.le_trans HB1.out.size hb) hl)
            · exact (HBT.out.trans (But.of_below HB2.out) fun _ _ h => h).set (.inr rfl)
        · have HW : Hid (wait1 n.desk.read ws (q.first + k) = ws) := Lib.hid (by unfold wait1; rw [if_neg (by rw [hc]; simp)])
          go_wp2_with (first | (go_at_call 176; refine (l00Has_c _ A2 c2 ws _ _ D5.out).mono ?_; rintro e w' ⟨rfl, rfl⟩; rw [hc]))
          go_roundg (q.texts.length - (k + 1))
          case measure => have := HZ.out; omega
          case rel => exact ⟨k + 1, by omega, rfl, by go_num, by rw [HN.out, HW.out]; exact HRN.out, HBT.out⟩
      · have HW : Hid (wait1 n.desk.read ws (q.first + k) = ws) := Lib.hid (by unfold wait1; rw [if_neg (fun h => hle h.1)])
        go_wp2_with fail
        go_roundg (q.texts.length - (k + 1))
        case measure => have := HZ.out; omega
        case rel => exact ⟨k + 1, by omega, rfl, by go_num, by rw [HN.out, HW.out]; exact HRN.out, HBT.out⟩
    · have hke : k = q.texts.length := by omega
      subst hke
      have HRI := Lib.hid (waitN_rise (first := q.first) HO.out.waits f1)
      obtain ⟨fin, hfin⟩ : ∃ fin, fin = comeC d p n.desk q := ⟨_, rfl⟩
      have HFC := Lib.hid hfin
      unfold comeC at hfin
      generalize waitN n.desk.read q.first n.desk.waiting q.texts.length = ws0 at *
      have HF := Lib.hid hfin
      clear hfin hlt
      have hl0 := HRI.out.length r1
      go_wp2_with fail
      clear hrun q0' q1'
      go_loopg [] (ws0.length + 1) (fun z wr2 => ∃ (rd st : Int) (sk ws : List Int), ws.length ≤ ws0.length ∧ z = ws.length + 1 ∧ DeskOk d p ⟨rd, st, sk, ws⟩ ∧ fin = drain d p rd st sk ws ∧ RunS X B wr2 g vb vo ⟨⟨rd, st, sk, ws⟩, n.saved, n.wire⟩ A c ∧ But (· = g) w wr2)
      case atStart => exact ⟨n.desk.read, n.desk.state, n.desk.stack, ws0, by omega, by omega, ⟨r0, r1, HO.out.at_, HRI.out⟩, HF.out, HRN.out, HBT.out⟩
      case round =>
        obtain ⟨rd, st, sk, ws, hwl, hz2, hdk, hdr, hrun2, hbut2⟩ := hrel
        have HZ2 := Lib.hid hz2
        have HDK := Lib.hid hdk
        have HDR := Lib.hid hdr
        have HR2 := Lib.hid hrun2
        have HBT2 := Lib.hid hbut2
        obtain ⟨d0, d1, ⟨A1, c1, d2, d3⟩, A2, c2, d4, d5⟩ := hrun2.desk
        simp only [Nat.reduceAdd] at d0 d1 d2 d4
        have D3 := Lib.hid d3
        have D5 := Lib.hid d5
        clear hz2 hdk hdr hrun2 hbut2 d3 d5
        cases ws with
        | nil =>
          go_wp2_with fail
          go_quiet (fail)
          go_wp2_with fail
          have hb3 : ∀ m, Below wr.heap.size wr (wr.drewN m) := fun m => ⟨rfl, rfl, rfl, Nat.le_refl _, fun _ _ => rfl⟩
          have he : comeC d p n.desk q = ⟨rd, st, sk, []⟩ := by rw [← HFC.out, HDR.out]; rfl
          refine Go.Great.bodyPost_end0 rfl rfl ⟨rfl, ?_, ?_⟩
          · rw [he]; exact HR2.out.below (hb3 _)
          · exact HBT2.out.trans (E' := (· = g)) (But.of_below (hb3 _)) fun _ _ h => h
        | cons x xs =>
          obtain ⟨b6, o6, rfl, h6⟩ := D5.out.at_ (i := 0) (by simp)
          simp only [elInt, Nat.zero_mul, Nat.add_zero, List.getElem_cons_zero] at h6
          have hcl : (0 : Int) < ((xs.length : Int) + 1) := by omega
          have hb3 : ∀ m, Below wr.heap.size wr (wr.drewN m) := fun m => ⟨rfl, rfl, rfl, Nat.le_refl _, fun _ _ => rfl⟩
          by_cases hx : x = rd
          · subst hx
            obtain ⟨rn, rfl⟩ : ∃ rn : Nat, x = rn := ⟨x.toNat, by have := HDK.out.r0; simp only at this; omega⟩
            have hrp : (rn : Int) < p.length := HDK.out.waits.hi _ (List.mem_cons_self ..)
            have hrn : rn < p.length := by omega
            have hi0 : (0 : Int) ≤ rn := by omega
            have HVR : Hid (StrPtr D wr vb vo d p) := Lib.hid (HV.out.belowB (HBT2.out.below HBw.out fun b hb => by subst hb; exact HLo.out) HDB.out hvb)
            obtain ⟨_, AP, cp, e6, hpc⟩ := HVR.out
            obtain ⟨bp, op, rfl, e7, e8⟩ := hpc.at_ hrn
            simp only [Nat.mul_one] at e7
            have HOW := Lib.hid (HW.out p[rn] (List.getElem_mem hrn))
            have HGD := Lib.hid (getD_at p ⟨#[]⟩ hrn)
            generalize p[rn] = pw at *
            have hpw := okWord_le HOW.out
            have HSY := Lib.hid (okWord_sym HOW.out)
            have HAT : Hid (At d (st, sk) (60 * rn)) := Lib.hid HDK.out.at_
            have hsk := HAT.out.len
            simp only at hsk
            obtain ⟨q1, hq⟩ : ∃ q1, q1 = goC d st sk pw.data.toList := ⟨_, rfl⟩
            have HQ := Lib.hid hq
            have HDR2 : Hid (fin = drain d p ((rn : Int) + 1) q1.1 q1.2 xs) := Lib.hid (by rw [HDR.out, drain, if_pos rfl, Int.toNat_natCast, HGD.out, ← hq])
            have HAT2 : Hid (At d q1 (60 * (rn + 1))) := Lib.hid (by have := goC_at HD.out HAT.out (pw := pw) HSY.out; rw [hq]; exact this.more (by omega))
            have HRI2 : Hid (Rise ((rn : Int) + 1) p.length xs) := Lib.hid (HDK.out.waits.tail)
            have HDD : Hid (∀ k, D k → RunD X wr g A c k) := Lib.hid fun k hk => ⟨Nat.lt_of_lt_of_le (HDB.out k hk) (Nat.le_trans HBw.out HBT2.out.size), fun e => by subst e; exact absurd (HDB.out k hk) (Nat.not_lt.2 HLo.out), fun e => absurd (HDB.out k hk) (Nat.not_lt.2 (HR2.out.ownLo k e).1), fun hx => absurd (HDB.out k hk) (Nat.not_lt.2 (HR2.out.xr k hx).1)⟩
            obtain ⟨A9, hA9⟩ : ∃ A9, A9 = (if c2 = 1 then some (⟨b6, o6, none⟩ : Addr) else some ⟨b6, o6 + 1, none⟩) := ⟨_, rfl⟩
            have hcap : ∀ w, (Instr.slice 70 (.slice (some ⟨b6, o6, none⟩) (xs.length + 1) c2) (some (.int .i64 1)) none none).run Tryz.prog w = .ok (.slice A9 xs.length (c2 - 1)) w := by
              intro w
              rw [hA9]
              exact run_tail w _ _ _ _ _ _ Tryz.underlying70 (by kernel_rfl)
            have HTL : Hid (∀ w', Sl 1 (elInt .i64) (RunD X wr g A c) w' (some ⟨b6, o6, none⟩) c2 ((rn : Int) :: xs) → Sl 1 (elInt .i64) (RunD X wr g A c) w' A9 (c2 - 1) xs) := Lib.hid fun w' h => by
              rw [hA9]
              exact Sl.tail h
            clear hA9
            clear hq hpc
            obtain ⟨S, hSI, hSE⟩ : ∃ S : World → Prop, (∀ w', S w' → w'.cell? ⟨g, 0, none⟩ = some (.pointer (some ⟨vb, vo, none⟩)) ∧ w'.cell? ⟨g, 1, none⟩ = some (.int .i64 rn) ∧ w'.cell? ⟨g, 2, none⟩ = some (.int .i64 st) ∧ w'.cell? ⟨g, 3, none⟩ = some (.slice A1 sk.length c1) ∧ w'.cell? ⟨vb, vo + 6, none⟩ = some (.slice (some ⟨bp, op, none⟩) p.length cp) ∧ w'.cell? ⟨bp, op + rn, none⟩ = some (.string pw)) ∧ ∀ w2, Below wr.heap.size wr w2 → S w2 := by
              refine ⟨fun w' => Below wr.heap.size wr w', fun w' h => ?_, fun w2 h => h⟩
              have h2 := (bcell h (Nat.le_refl _)).1
              have hlg := HR2.out.lt
              exact ⟨(h2 _ _ hlg).trans HR2.out.ptr, (h2 _ _ hlg).trans d0, (h2 _ _ hlg).trans d1, (h2 _ _ hlg).trans d2, (h2 _ _ (lt_of_cell e6)).trans e6, (h2 _ _ (lt_of_cell e7)).trans e7⟩
            have HSI := Lib.hid hSI
            have HSE := Lib.hid hSE
            clear hSI hSE
            go_wp2_with fail
            go_quiet (fail)
            go_wp2_with fail
            refine wp_region_L [36, 39] S (by kernel_rfl) (HSE.out _ (bel_drew (hb3 _))) (fun hS => ?_)
            refine anyL_take0 (i := 0) (oi := ?o0) (v := ?v0) ?h0 (by kernel_rfl) (by kernel_rfl) (by kernel_rfl) (by kernel_rfl) (fun _ _ _ h => h) (Or.inl ⟨?w0, ?y0⟩) (Or.inr hS) ?_
            case h0 => simp only [List.getElem?_toArray, List.getElem?_cons_zero]; rfl
            case w0 => rfl
            case y0 => (intro w; go_simp; try with_reducible rfl)
            try simp only [Act.put, List.setIfInBounds_toArray, List.set_cons_zero, List.set_cons_succ]
            refine anyL_take0 (i := 1) (oi := ?o1) (v := ?v1) ?h1 (by kernel_rfl) (by kernel_rfl) (by kernel_rfl) (by kernel_rfl) (fun _ _ _ h => h) (Or.inl ⟨?w1, ?y1⟩) (Or.inr hS) ?_
            case h1 => simp only [List.getElem?_toArray, List.getElem?_cons_succ, List.getElem?_cons_zero]; rfl
            case w1 => rfl
            case y1 => (intro w; go_simp; try with_reducible rfl)
            try simp only [Act.put, List.setIfInBounds_toArray, List.set_cons_zero, List.set_cons_succ]
            refine anyL_take0 (i := 2) (oi := ?o2) (v := ?v2) ?h2 (by kernel_rfl) (by kernel_rfl) (by kernel_rfl) (by kernel_rfl) (fun _ _ _ h => h) (Or.inl ⟨?w2, ?y2⟩) (Or.inr hS) ?_
            case h2 => simp only [List.getElem?_toArray, List.getElem?_cons_succ, List.getElem?_cons_zero]; rfl
            case w2 => rfl
            case y2 => (intro w; go_simp; try with_reducible rfl)
            try simp only [Act.put, List.setIfInBounds_toArray, List.set_cons_zero, List.set_cons_succ]
            refine anyL_take0 (i := 3) (oi := ?o3) (v := ?v3) ?h3 (by kernel_rfl) (by kernel_rfl) (by kernel_rfl) (by kernel_rfl) (fun _ _ _ h => h) (Or.inl ⟨?w3, ?y3⟩) (Or.inr hS) ?_
            case h3 => simp only [List.getElem?_toArray, List.getElem?_cons_succ, List.getElem?_cons_zero]; rfl
            case w3 => rfl
            case y3 => (intro w; go_simp; try with_reducible rfl)
            try simp only [Act.put, List.setIfInBounds_toArray, List.set_cons_zero, List.set_cons_succ]
            refine anyL_take0 (i := 4) (oi := ?o4) (v := ?v4) ?h4 (by kernel_rfl) (by kernel_rfl) (by kernel_rfl) (by kernel_rfl) (fun _ _ _ h => h) (Or.inl ⟨?w4, ?y4⟩) (Or.inr hS) ?_
            case h4 => simp only [List.getElem?_toArray, List.getElem?_cons_succ, List.getElem?_cons_zero]; rfl
            case w4 => rfl
            case y4 => (intro w; go_simp; try with_reducible rfl)
            try simp only [Act.put, List.setIfInBounds_toArray, List.set_cons_zero, List.set_cons_succ]
            refine anyL_take (i := 5) (oi := ?o5) (v := ?v5) ?h5 (by kernel_rfl) (by kernel_rfl) (by kernel_rfl) (by kernel_rfl) (by kernel_rfl) (fun _ _ _ h => h) (Or.inl ⟨?w5, ?y5⟩) hS ?_
            case h5 => simp only [List.getElem?_toArray, List.getElem?_cons_succ, List.getElem?_cons_zero]; rfl
            case w5 => rfl
            case y5 => (intro w hSw; replace hSw := HSI.out _ hSw; go_simp; try with_reducible rfl)
            try simp only [Act.put, List.setIfInBounds_toArray, List.set_cons_zero, List.set_cons_succ]
            refine anyL_take0 (i := 6) (oi := ?o6) (v := ?v6) ?h6 (by kernel_rfl) (by kernel_rfl) (by kernel_rfl) (by kernel_rfl) (fun _ _ _ h => h) (Or.inl ⟨?w6, ?y6⟩) (Or.inr hS) ?_
            case h6 => simp only [List.getElem?_toArray, List.getElem?_cons_succ, List.getElem?_cons_zero]; rfl
            case w6 => rfl
            case y6 => (intro w; go_simp; try with_reducible rfl)
            try simp only [Act.put, List.setIfInBounds_toArray, List.set_cons_zero, List.set_cons_succ]
            refine anyL_take0 (i := 7) (oi := ?o7) (v := ?v7) ?h7 (by kernel_rfl) (by kernel_rfl) (by kernel_rfl) (by kernel_rfl) (fun _ _ _ h => h) (Or.inl ⟨?w7, ?y7⟩) (Or.inr hS) ?_
            case h7 => simp only [List.getElem?_toArray, List.getElem?_cons_succ, List.getElem?_cons_zero]; rfl
            case w7 => rfl
            case y7 => (intro w; go_simp; try with_reducible rfl)
            try simp only [Act.put, List.setIfInBounds_toArray, List.set_cons_zero, List.set_cons_succ]
            refine anyL_take0 (i := 8) (oi := ?o8) (v := ?v8) ?h8 (by kernel_rfl) (by kernel_rfl) (by kernel_rfl) (by kernel_rfl) (fun _ _ _ h => h) (Or.inl ⟨?w8, ?y8⟩) (Or.inr hS) ?_
            case h8 => simp only [List.getElem?_toArray, List.getElem?_cons_succ, List.getElem?_cons_zero]; rfl
            case w8 => rfl
            case y8 => (intro w; go_simp; try with_reducible rfl)
            try simp only [Act.put, List.setIfInBounds_toArray, List.set_cons_zero, List.set_cons_succ]
            refine anyL_take0 (i := 9) (oi := ?o9) (v := ?v9) ?h9 (by kernel_rfl) (by kernel_rfl) (by kernel_rfl) (by kernel_rfl) (fun _ _ _ h => h) (Or.inl ⟨?w9, ?y9⟩) (Or.inr hS) ?_
            case h9 => simp only [List.getElem?_toArray, List.getElem?_cons_succ, List.getElem?_cons_zero]; rfl
            case w9 => rfl
            case y9 => (intro w; go_simp; try with_reducible rfl)
            try simp only [Act.put, List.setIfInBounds_toArray, List.set_cons_zero, List.set_cons_succ]
            refine anyL_take0 (i := 10) (oi := ?o10) (v := ?v10) ?h10 (by kernel_rfl) (by kernel_rfl) (by kernel_rfl) (by kernel_rfl) (fun _ _ _ h => h) (Or.inl ⟨?w10, ?y10⟩) (Or.inr hS) ?_
            case h10 => simp only [List.getElem?_toArray, List.getElem?_cons_succ, List.getElem?_cons_zero]; rfl
            case w10 => rfl
            case y10 => (intro w; go_simp; try with_reducible rfl)
            try simp only [Act.put, List.setIfInBounds_toArray, List.set_cons_zero, List.set_cons_succ]
            refine anyL_take (i := 11) (oi := ?o11) (v := ?v11) ?h11 (by kernel_rfl) (by kernel_rfl) (by kernel_rfl) (by kernel_rfl) (by kernel_rfl) (fun _ _ _ h => h) (Or.inl ⟨?w11, ?y11⟩) hS ?_
            case h11 => simp only [List.getElem?_toArray, List.getElem?_cons_succ, List.getElem?_cons_zero]; rfl
            case w11 => rfl
            case y11 => (intro w hSw; replace hSw := HSI.out _ hSw; go_simp; try with_reducible rfl)
            try simp only [Act.put, List.setIfInBounds_toArray, List.set_cons_zero, List.set_cons_succ]
            refine anyL_take0 (i := 12) (oi := ?o12) (v := ?v12) ?h12 (by kernel_rfl) (by kernel_rfl) (by kernel_rfl) (by kernel_rfl) (fun _ _ _ h => h) (Or.inl ⟨?w12, ?y12⟩) (Or.inr hS) ?_
            case h12 => simp only [List.getElem?_toArray, List.getElem?_cons_succ, List.getElem?_cons_zero]; rfl
            case w12 => rfl
            case y12 => (intro w; go_simp; try with_reducible rfl)
            try simp only [Act.put, List.setIfInBounds_toArray, List.set_cons_zero, List.set_cons_succ]
            refine anyL_take0 (i := 13) (oi := ?o13) (v := ?v13) ?h13 (by kernel_rfl) (by kernel_rfl) (by kernel_rfl) (by kernel_rfl) (fun _ _ _ h => h) (Or.inl ⟨?w13, ?y13⟩) (Or.inr hS) ?_
            case h13 => simp only [List.getElem?_toArray, List.getElem?_cons_succ, List.getElem?_cons_zero]; rfl
            case w13 => rfl
            case y13 => (intro w; go_simp; try with_reducible rfl)
            try simp only [Act.put, List.setIfInBounds_toArray, List.set_cons_zero, List.set_cons_succ]
            refine anyL_take0 (i := 14) (oi := ?o14) (v := ?v14) ?h14 (by kernel_rfl) (by kernel_rfl) (by kernel_rfl) (by kernel_rfl) (fun _ _ _ h => h) (Or.inl ⟨?w14, ?y14⟩) (Or.inr hS) ?_
            case h14 => simp only [List.getElem?_toArray, List.getElem?_cons_succ, List.getElem?_cons_zero]; rfl
            case w14 => rfl
            case y14 => (intro w; go_simp; try with_reducible rfl)
            try simp only [Act.put, List.setIfInBounds_toArray, List.set_cons_zero, List.set_cons_succ]
            refine anyL_take (i := 15) (oi := ?o15) (v := ?v15) ?h15 (by kernel_rfl) (by kernel_rfl) (by kernel_rfl) (by kernel_rfl) (by kernel_rfl) (fun _ _ _ h => h) (Or.inl ⟨?w15, ?y15⟩) hS ?_
            case h15 => simp only [List.getElem?_toArray, List.getElem?_cons_succ, List.getElem?_cons_zero]; rfl
            case w15 => rfl
            case y15 => (intro w hSw; replace hSw := HSI.out _ hSw; go_simp; try with_reducible rfl)
            try simp only [Act.put, List.setIfInBounds_toArray, List.set_cons_zero, List.set_cons_succ]
            refine anyL_take0 (i := 17) (oi := ?o17) (v := ?v17) ?h17 (by kernel_rfl) (by kernel_rfl) (by kernel_rfl) (by kernel_rfl) (fun _ _ _ h => h) (Or.inl ⟨?w17, ?y17⟩) (Or.inr hS) ?_
            case h17 => simp only [List.getElem?_toArray, List.getElem?_cons_succ, List.getElem?_cons_zero]; rfl
            case w17 => rfl
            case y17 => (intro w; go_simp; try with_reducible rfl)
            try simp only [Act.put, List.setIfInBounds_toArray, List.set_cons_zero, List.set_cons_succ]
            refine anyL_take0 (i := 18) (oi := ?o18) (v := ?v18) ?h18 (by kernel_rfl) (by kernel_rfl) (by kernel_rfl) (by kernel_rfl) (fun _ _ _ h => h) (Or.inl ⟨?w18, ?y18⟩) (Or.inr hS) ?_
            case h18 => simp only [List.getElem?_toArray, List.getElem?_cons_succ, List.getElem?_cons_zero]; rfl
            case w18 => rfl
            case y18 => (intro w; go_simp; try with_reducible rfl)
            try simp only [Act.put, List.setIfInBounds_toArray, List.set_cons_zero, List.set_cons_succ]
            refine anyL_take0 (i := 19) (oi := ?o19) (v := ?v19) ?h19 (by kernel_rfl) (by kernel_rfl) (by kernel_rfl) (by kernel_rfl) (fun _ _ _ h => h) (Or.inl ⟨?w19, ?y19⟩) (Or.inr hS) ?_
            case h19 => simp only [List.getElem?_toArray, List.getElem?_cons_succ, List.getElem?_cons_zero]; rfl
            case w19 => rfl
            case y19 => (intro w; go_simp; try with_reducible rfl)
            try simp only [Act.put, List.setIfInBounds_toArray, List.set_cons_zero, List.set_cons_succ]
            refine anyL_take (i := 20) (oi := ?o20) (v := ?v20) ?h20 (by kernel_rfl) (by kernel_rfl) (by kernel_rfl) (by kernel_rfl) (by kernel_rfl) (fun _ _ _ h => h) (Or.inl ⟨?w20, ?y20⟩) hS ?_
            case h20 => simp only [List.getElem?_toArray, List.getElem?_cons_succ, List.getElem?_cons_zero]; rfl
            case w20 => rfl
            case y20 => (intro w hSw; replace hSw := HSI.out _ hSw; go_simp; try with_reducible rfl)
            try simp only [Act.put, List.setIfInBounds_toArray, List.set_cons_zero, List.set_cons_succ]
            refine anyL_take0 (i := 21) (oi := ?o21) (v := ?v21) ?h21 (by kernel_rfl) (by kernel_rfl) (by kernel_rfl) (by kernel_rfl) (fun _ _ _ h => h) (Or.inl ⟨?w21, ?y21⟩) (Or.inr hS) ?_
            case h21 => simp only [List.getElem?_toArray, List.getElem?_cons_succ, List.getElem?_cons_zero]; rfl
            case w21 => rfl
            case y21 => (intro w; go_simp; try with_reducible rfl)
            try simp only [Act.put, List.setIfInBounds_toArray, List.set_cons_zero, List.set_cons_succ]
            refine anyL_take0 (i := 22) (oi := ?o22) (v := ?v22) ?h22 (by kernel_rfl) (by kernel_rfl) (by kernel_rfl) (by kernel_rfl) (fun _ _ _ h => h) (Or.inl ⟨?w22, ?y22⟩) (Or.inr hS) ?_
            case h22 => simp only [List.getElem?_toArray, List.getElem?_cons_succ, List.getElem?_cons_zero]; rfl
            case w22 => rfl
            case y22 => (intro w; go_simp; try with_reducible rfl)
            try simp only [Act.put, List.setIfInBounds_toArray, List.set_cons_zero, List.set_cons_succ]
            refine anyL_take (i := 23) (oi := ?o23) (v := ?v23) ?h23 (by kernel_rfl) (by kernel_rfl) (by kernel_rfl) (by kernel_rfl) (by kernel_rfl) (fun _ _ _ h => h) (Or.inl ⟨?w23, ?y23⟩) hS ?_
            case h23 => simp only [List.getElem?_toArray, List.getElem?_cons_succ, List.getElem?_cons_zero]; rfl
            case w23 => rfl
            case y23 => (intro w hSw; replace hSw := HSI.out _ hSw; go_simp; try with_reducible rfl)
            try simp only [Act.put, List.setIfInBounds_toArray, List.set_cons_zero, List.set_cons_succ]
            refine anyL_take0 (i := 24) (oi := ?o24) (v := ?v24) ?h24 (by kernel_rfl) (by kernel_rfl) (by kernel_rfl) (by kernel_rfl) (fun _ _ _ h => h) (Or.inl ⟨?w24, ?y24⟩) (Or.inr hS) ?_
            case h24 => simp only [List.getElem?_toArray, List.getElem?_cons_succ, List.getElem?_cons_zero]; rfl
            case w24 => rfl
            case y24 => (intro w; go_simp; try with_reducible rfl)
            try simp only [Act.put, List.setIfInBounds_toArray, List.set_cons_zero, List.set_cons_succ]
            refine anyL_take0 (i := 25) (oi := ?o25) (v := ?v25) ?h25 (by kernel_rfl) (by kernel_rfl) (by kernel_rfl) (by kernel_rfl) (fun _ _ _ h => h) (Or.inl ⟨?w25, ?y25⟩) (Or.inr hS) ?_
            case h25 => simp only [List.getElem?_toArray, List.getElem?_cons_succ, List.getElem?_cons_zero]; rfl
            case w25 => rfl
            case y25 => (intro w; go_simp; try with_reducible rfl)
            try simp only [Act.put, List.setIfInBounds_toArray, List.set_cons_zero, List.set_cons_succ]
            refine anyL_take0 (i := 26) (oi := ?o26) (v := ?v26) ?h26 (by kernel_rfl) (by kernel_rfl) (by kernel_rfl) (by kernel_rfl) (fun _ _ _ h => h) (Or.inl ⟨?w26, ?y26⟩) (Or.inr hS) ?_
            case h26 => simp only [List.getElem?_toArray, List.getElem?_cons_succ, List.getElem?_cons_zero]; rfl
            case w26 => rfl
            case y26 => (intro w; go_simp; try with_reducible rfl)
            try simp only [Act.put, List.setIfInBounds_toArray, List.set_cons_zero, List.set_cons_succ]
            refine anyL_take (i := 27) (oi := ?o27) (v := ?v27) ?h27 (by kernel_rfl) (by kernel_rfl) (by kernel_rfl) (by kernel_rfl) (by kernel_rfl) (fun _ _ _ h => h) (Or.inl ⟨?w27, ?y27⟩) hS ?_
            case h27 => simp only [List.getElem?_toArray, List.getElem?_cons_succ, List.getElem?_cons_zero]; rfl
            case w27 => rfl
            case y27 => (intro w hSw; replace hSw := HSI.out _ hSw; go_simp; try with_reducible rfl)
            try simp only [Act.put, List.setIfInBounds_toArray, List.set_cons_zero, List.set_cons_succ]
            refine anyL_take0 (i := 28) (oi := ?o28) (v := ?v28) ?h28 (by kernel_rfl) (by kernel_rfl) (by kernel_rfl) (by kernel_rfl) (fun _ _ _ h => h) (Or.inl ⟨?w28, ?y28⟩) (Or.inr hS) ?_
            case h28 => simp only [List.getElem?_toArray, List.getElem?_cons_succ, List.getElem?_cons_zero]; rfl
            case w28 => rfl
            case y28 => (intro w; go_simp; try with_reducible rfl)
            try simp only [Act.put, List.setIfInBounds_toArray, List.set_cons_zero, List.set_cons_succ]
            refine anyL_take (i := 29) (oi := ?o29) (v := ?v29) ?h29 (by kernel_rfl) (by kernel_rfl) (by kernel_rfl) (by kernel_rfl) (by kernel_rfl) (fun _ _ _ h => h) (Or.inl ⟨?w29, ?y29⟩) hS ?_
            case h29 => simp only [List.getElem?_toArray, List.getElem?_cons_succ, List.getElem?_cons_zero]; rfl
            case w29 => rfl
            case y29 => (intro w hSw; replace hSw := HSI.out _ hSw; go_simp; try with_reducible rfl)
            try simp only [Act.put, List.setIfInBounds_toArray, List.set_cons_zero, List.set_cons_succ]
            refine anyL_one (i := 16) (o := ?o16) (by kernel_rfl) ?h16 ?w16 (fun K hK => ?_)
            case h16 => simp only [List.getElem?_toArray, List.getElem?_cons_succ, List.getElem?_cons_zero]; rfl
            case w16 => rfl
            go_simp
            go_at_call 181
            refine (l00Own_c _ A1 c1 sk _ (D3.out.below ints_good (bel_drew (hb3 _))) (by omega)).mono ?_
            rintro e w1 ⟨v1, rfl, ho1, hb1⟩
            obtain ⟨A6, c6, rfl, hs1⟩ := ho1.sl
            have HB1 : Hid (Below wr.heap.size wr w1) := Lib.hid (Below.trans (bel_drew (hb3 _)) hb1)
            have HS1 : Hid (Sl 1 (elInt .i64) (fun b => wr.heap.size ≤ b) w1 A6 c6 sk) := Lib.hid hs1
            clear ho1 hs1 hb1
            go_wp2_with fail
            refine hK _ _ (fun _ => HSE.out _ HB1.out) ?_
            replace hS := HSE.out _ HB1.out
            clear hK K
            try simp only [Act.put, List.setIfInBounds_toArray, List.set_cons_zero, List.set_cons_succ]
            refine anyL_one (i := 30) (o := ?o30) (by kernel_rfl) ?h30 ?w30 (fun K hK => ?_)
            case h30 => simp only [List.getElem?_toArray, List.getElem?_cons_succ, List.getElem?_cons_zero]; rfl
            case w30 => rfl
            go_simp
            go_at_call 58
            have hgo := l02Go_c (fun k => RunD X wr g A c k ∨ wr.heap.size ≤ k) vb vo d (st, sk) (60 * rn) A6 c6 pw w1 ((HVR.out.1.below HB1.out).mono fun k hk _ => .inl (HDD.out k hk)) (HS1.out.mono ints_good fun k hk _ => .inr hk) HD.out HAT.out (by omega) HSY.out
            dsimp only at hgo
            rw [← HQ.out] at hgo
            refine hgo.mono ?_
            clear hgo
            rintro e w2 ⟨A7, c7, rfl, hs2, hb2⟩
            have HB2 : Hid (Below wr.heap.size wr w2) := Lib.hid (HB1.out.trans (hb2.mono HB1.out.size))
            have HS2 := Lib.hid hs2
            clear hs2 hb2
            go_wp2_with fail
            refine hK _ _ (fun _ => HSE.out _ HB2.out) ?_
            replace hS := HSE.out _ HB2.out
            have HR3 := Lib.hid (HR2.out.below HB2.out)
            obtain ⟨x1, x2, x3, x4⟩ : w2.cell? ⟨g, 2, none⟩ = some (.int .i64 st) ∧ w2.cell? ⟨g, 3, none⟩ = some (.slice A1 sk.length c1) ∧ w2.frozen? ⟨g, 2, none⟩ = false ∧ w2.frozen? ⟨g, 3, none⟩ = false := by
              have z := HSI.out _ hS
              exact ⟨z.2.2.1, z.2.2.2.1, HR3.out.free 2, HR3.out.free 3⟩
            clear hK K
            try simp only [Act.put, List.setIfInBounds_toArray, List.set_cons_zero, List.set_cons_succ]
            refine anyL_take0 (i := 31) (oi := ?o31) (v := ?v31) ?h31 (by kernel_rfl) (by kernel_rfl) (by kernel_rfl) (by kernel_rfl) (fun _ _ _ h => h) (Or.inl ⟨?w31, ?y31⟩) (Or.inr hS) ?_
            case h31 => simp only [List.getElem?_toArray, List.getElem?_cons_succ, List.getElem?_cons_zero]; rfl
            case w31 => rfl
            case y31 => (intro w; go_simp; try with_reducible rfl)
            try simp only [Act.put, List.setIfInBounds_toArray, List.set_cons_zero, List.set_cons_succ]
            refine anyL_take0 (i := 32) (oi := ?o32) (v := ?v32) ?h32 (by kernel_rfl) (by kernel_rfl) (by kernel_rfl) (by kernel_rfl) (fun _ _ _ h => h) (Or.inl ⟨?w32, ?y32⟩) (Or.inr hS) ?_
            case h32 => simp only [List.getElem?_toArray, List.getElem?_cons_succ, List.getElem?_cons_zero]; rfl
            case w32 => rfl
            case y32 => (intro w; go_simp; try with_reducible rfl)
            try simp only [Act.put, List.setIfInBounds_toArray, List.set_cons_zero, List.set_cons_succ]
            refine anyL_take0 (i := 33) (oi := ?o33) (v := ?v33) ?h33 (by kernel_rfl) (by kernel_rfl) (by kernel_rfl) (by kernel_rfl) (fun _ _ _ h => h) (Or.inl ⟨?w33, ?y33⟩) (Or.inr hS) ?_
            case h33 => simp only [List.getElem?_toArray, List.getElem?_cons_succ, List.getElem?_cons_zero]; rfl
            case w33 => rfl
            case y33 => (intro w; go_simp; try with_reducible rfl)
            try simp only [Act.put, List.setIfInBounds_toArray, List.set_cons_zero, List.set_cons_succ]
            refine anyL_take0 (i := 34) (oi := ?o34) (v := ?v34) ?h34 (by kernel_rfl) (by kernel_rfl) (by kernel_rfl) (by kernel_rfl) (fun _ _ _ h => h) (Or.inl ⟨?w34, ?y34⟩) (Or.inr hS) ?_
            case h34 => simp only [List.getElem?_toArray, List.getElem?_cons_succ, List.getElem?_cons_zero]; rfl
            case w34 => rfl
            case y34 => (intro w; go_simp; try with_reducible rfl)
            try simp only [Act.put, List.setIfInBounds_toArray, List.set_cons_zero, List.set_cons_succ]
            refine anyL_take0 (i := 35) (oi := ?o35) (v := ?v35) ?h35 (by kernel_rfl) (by kernel_rfl) (by kernel_rfl) (by kernel_rfl) (fun _ _ _ h => h) (Or.inl ⟨?w35, ?y35⟩) (Or.inr hS) ?_
            case h35 => simp only [List.getElem?_toArray, List.getElem?_cons_succ, List.getElem?_cons_zero]; rfl
            case w35 => rfl
            case y35 => (intro w; go_simp; try with_reducible rfl)
            try simp only [Act.put, List.setIfInBounds_toArray, List.set_cons_zero, List.set_cons_succ]
            refine anyL_late (i := 36) (o := ?o36) (by kernel_rfl) ?h36 ?w36 (by kernel_rfl) (fun K hK => ?_)
            case h36 => simp only [List.getElem?_toArray, List.getElem?_cons_succ, List.getElem?_cons_zero]; rfl
            case w36 => rfl
            go_simp
            refine hK _ _ ?_
            clear hK K
            try simp only [Act.put, List.setIfInBounds_toArray, List.set_cons_zero, List.set_cons_succ]
            refine anyL_take0 (i := 37) (oi := ?o37) (v := ?v37) ?h37 (by kernel_rfl) (by kernel_rfl) (by kernel_rfl) (by kernel_rfl) (fun _ _ _ h => h) (Or.inl ⟨?w37, ?y37⟩) (Or.inl (by kernel_rfl)) ?_
            case h37 => simp only [List.getElem?_toArray, List.getElem?_cons_succ, List.getElem?_cons_zero]; rfl
            case w37 => rfl
            case y37 => (intro w; go_simp; try with_reducible rfl)
            try simp only [Act.put, List.setIfInBounds_toArray, List.set_cons_zero, List.set_cons_succ]
            refine anyL_take0 (i := 38) (oi := ?o38) (v := ?v38) ?h38 (by kernel_rfl) (by kernel_rfl) (by kernel_rfl) (by kernel_rfl) (fun _ _ _ h => h) (Or.inl ⟨?w38, ?y38⟩) (Or.inl (by kernel_rfl)) ?_
            case h38 => simp only [List.getElem?_toArray, List.getElem?_cons_succ, List.getElem?_cons_zero]; rfl
            case w38 => rfl
            case y38 => (intro w; go_simp; try with_reducible rfl)
            try simp only [Act.put, List.setIfInBounds_toArray, List.set_cons_zero, List.set_cons_succ]
            refine anyL_late (i := 39) (o := ?o39) (by kernel_rfl) ?h39 ?w39 (by kernel_rfl) (fun K hK => ?_)
            case h39 => simp only [List.getElem?_toArray, List.getElem?_cons_succ, List.getElem?_cons_zero]; rfl
            case w39 => rfl
            go_simp
            refine hK _ _ ?_
            clear hK K
            try simp only [Act.put, List.setIfInBounds_toArray, List.set_cons_zero, List.set_cons_succ]
            refine anyL_end (by kernel_rfl) ?_ _
            have HSL : Hid (Sl 1 (elInt .i64) (RunD X w2 g A c) w2 A7 c7 q1.2) := Lib.hid (HS2.out.mono ints_good fun k hk hl => by
              rcases hk with (hk | hk) | hk
              · exact ⟨hl, hk.2⟩
              · exact HR2.out.new hk hl
              · exact HR2.out.new (Nat.le_trans HB1.out.size hk) hl)
            have HR5 := Lib.hid (HR3.out.setBoth q1.1 HSL.out)
            have HB3 : Hid (But (· = g) wr ((w2.setCell ⟨g, 2, none⟩ (.int .i64 q1.1)).setCell ⟨g, 3, none⟩ (.slice A7 q1.2.length c7))) := Lib.hid (But.set (a := ⟨g, 3, none⟩) (But.set (a := ⟨g, 2, none⟩) (But.of_below HB2.out) (Or.inr rfl)) (Or.inr rfl))
            have e4 : ((w2.setCell ⟨g, 2, none⟩ (.int .i64 q1.1)).setCell ⟨g, 3, none⟩ (.slice A7 q1.2.length c7)).cell? ⟨g, 4, none⟩ = some (.slice (some ⟨b6, o6, none⟩) (xs.length + 1) c2) := by
              rw [cell_set_ne (by omega), cell_set_ne (by omega)]
              exact ((bcell HB2.out (Nat.le_refl _)).1 _ _ (lt_of_cell d4)).trans d4
            clear x1 x2 x3 x4 hS h6 d0 d1 d2 d4
            generalize ((w2.setCell ⟨g, 2, none⟩ (.int .i64 q1.1)).setCell ⟨g, 3, none⟩ (.slice A7 q1.2.length c7)) = W3 at HR5 HB3 e4 ⊢
            have HT5 := Lib.hid (HTL.out W3 (D5.out.keep ints_good fun k hk => HB3.out.block k hk.1 hk.2.1))
            have hxl : xs.length ≤ 20 := by simp only [List.length_cons] at hwl; omega
            go_wp2_with (go_at_call 181; refine (l00Own_c _ A9 (c2 - 1) xs _ HT5.out (by omega)).mono ?_; rintro e w3 ⟨v3, rfl, ho3, hb4⟩; obtain ⟨A10, c10, rfl, hs3⟩ := ho3.sl; have HS3 := Lib.hid hs3; have HB4 := Lib.hid hb4; have HR6 := Lib.hid (HR5.out.below hb4); obtain ⟨y0, _, _, A11, c11, y4, _⟩ := HR6.out.desk; simp only [Nat.reduceAdd] at y0 y4; have z1 := HR6.out.free 1; have z4 := HR6.out.free 4; clear ho3 hs3 hb4)
            go_roundg (xs.length + 1)
            case measure => have := HZ2.out; simp only [List.length_cons] at this; omega
            case rel =>
              refine ⟨(rn : Int) + 1, q1.1, q1.2, xs, by simp only [List.length_cons] at hwl; omega, rfl, ⟨by simp only; omega, by simp only; omega, ?_, HRI2.out⟩, HDR2.out, ?_, ?_⟩
              · have : ((rn : Int) + 1).toNat = rn + 1 := by omega
                simp only [this]
                exact HAT2.out
              · exact (HR6.out.setWaiting (HS3.out.mono ints_good fun k hk hl => HR5.out.new hk hl)).setRead _
              · exact HBT2.out.trans ((((HB3.out.trans (But.of_below HB4.out) fun _ _ h => h).set (.inr rfl)).set (.inr rfl))) fun _ _ h => h
          · have hx2 : (x == rd) = false := beq_eq_false_iff_ne.2 hx
            have he : comeC d p n.desk q = ⟨rd, st, sk, x :: xs⟩ := by rw [← HFC.out, HDR.out, drain, if_neg hx]
            have HE := Lib.hid he
            clear he
            go_wp2_with fail
            go_quiet (fail)
            go_wp2_with fail
            refine Go.Great.bodyPost_end0 rfl rfl ⟨rfl, ?_, ?_⟩
            · rw [HE.out]; exact HR2.out.below (hb3 _)
            · exact HBT2.out.trans (E' := (· = g)) (But.of_below (hb3 _)) fun _ _ h => h
end Go.Proofs.YtcagdmaiemmfgaaGreat
