/- The reference's run of a checker comes to where the plain run comes; for all valid checkers and words. -/
import Derived.Test.YtcagdmaiemmfgaaGreatProg
import Derived.Test.YtcagdmaiemmfgaaGreatK
import Derived.Test.YtcagdmaiemmfgaaGreatU
import Derived.Test.YtcagdmaiemmfgaaGreatO
import Derived.Test.YtcagdmaiemmfgaaGreatP
import Derived.Test.YtcagdmaiemmfgaaGreatQ
import Derived.WalkKit
import Derived.WalkSpells
import Derived.WalkLawsBesides
import Derived.LoopTactic
import Derived.Deep.QuietTactic
import Derived.BigQuiet
import Derived.Deep.LoopGhost
import Derived.Deep.RegionHeld3
namespace Go.Proofs.YtcagdmaiemmfgaaGreat
open Go.RowKit


theorem info_i64 : (Tryz.prog.info? 2).map (fun i => (i.zero, i.size, i.bytes)) = some (some (.int .i64 0), 1, 8) := by kernel_rfl
set_option maxHeartbeats 400000 in
theorem l00Own_c (D : Dom) (A : Option Addr) (c : Nat) (xs : List Int) (w : World) (hs : Sl 1 (elInt .i64) D w A c xs) (hn : xs.length ≤ 17592186044416) :
    Calls Tryz.prog 181 #[.slice A xs.length c] w (RetOwn 2 w xs) := by
  go_enter Tryz.func181, Tryz.ntmps181
  go_wp2_with (at_builtin; refine wpList_app _ rfl (.tmp 3) (.tmp 4) 70 2 rfl Tryz.underlying70 info_i64 w.heap.size _ [] rfl (OwnI.lit0 (Nat.le_refl _)) D A c xs rfl (hs.below ints_good (bel1 _ _)) (by simpa using hn) (by simp) ?_; intro v1 w1 ho hg _; have HO := Lib.hid ho; have HB := Lib.hid (OwnI.below_of (OwnI.lit0 (Nat.le_refl _)) (bel1 _ _) (by simp) hg); clear ho hg)
  go_ret
  exact ⟨v1, rfl, by simpa using HO.out, HB.out⟩
end Go.Proofs.YtcagdmaiemmfgaaGreat
