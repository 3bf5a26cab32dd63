/-
  No cell of these rows narrows 'for every input' (looked for: loops, veiled, ifaces, maps, wideKeys, modest, calm, conditions, laid).
  DERIVED. THE GIVEN ROWS OF THIS SEAT. 7 by the template 'for every input the law returns true; each argument reads behind the call as it read before'; 0 by the template 'total and deterministic' (their statements: YtcagdmaiemmfgaaGreatTotals.lean).
  GIVEN WITH THE SEED: the statements are not yours to turn. If you find one false, say at which input.
  Laid BY PROGRAM, IN A SANDBOX (cutbox-rows.mjs): the forced cells as the released guide's own fill.sh prints them over the translation 3bb4d51475fc6fe2… (all of the seat's roots in one cut). By AI agents, Wed Nov 11 2026. No macro, syntax, notation, axiom, sorry.
-/
import Derived.Test.YtcagdmaiemmfgaaGreatChecked
import GoSem.Claim
import GoSem.ClaimJoined
import GoSem.ClaimMapViews
import Derived.JoinedTies
import Derived.KernelRfl
namespace Go.Proofs.YtcagdmaiemmfgaaGreat
/- THE CELL 'sum', in the pinned program and in every row, IS THE sha256 OF THE DUMP (.gsa) THAT YtcagdmaiemmfgaaGreatProg.lean LOADS. Nothing in Lean hashes anything: it is a label: what it is worth is what the hold of that sum in a sandbox is worth. -/
noncomputable def Tryz.pinned : Pinned := { name := "ytcagdmaiemmfgaagreat", sum := "3bb4d51475fc6fe2f649ad80da2bc25a3e920c6e42f746dc81062236978f7250", checked := Tryz.checked }
namespace Rows
def none {H : Type} : Left H := { results := [], args := [] }

/-- 'laws.FnExactPreimageChecker': WHATEVER THE INPUT: true; the input reads as it did. -/
def fnExactPreimageCheckerSpec : ChangeSpec := { name := "fnExactPreimageChecker", fn := fun _ => fun
  | [d1, d2] => { results := [.lit (.bool true)], args := [d1, d2] }
  | _ => none }
def fnExactPreimageCheckerRow : OpenClaim := { program := "ytcagdmaiemmfgaagreat", sum := "3bb4d51475fc6fe2f649ad80da2bc25a3e920c6e42f746dc81062236978f7250", func := "loop.example/g01145/laws.FnExactPreimageChecker", spec := "fnExactPreimageChecker", inPlace := ["internal/bytealg.IndexByteString"], unfollowed := true, recurses := true, apart := false }
def FnExactPreimageCheckerSaid : Prop := fnExactPreimageCheckerRow.holds Tryz.pinned (OpenSpec.ofChange fnExactPreimageCheckerSpec)

/-- ITS FALSE NEIGHBOUR: 'it returns false'. Refute it at one input. -/
def fnExactPreimageCheckerWrong : ChangeSpec := { name := "fnExactPreimageChecker", fn := fun _ => fun
  | [d1, d2] => { results := [.lit (.bool false)], args := [d1, d2] }
  | _ => none }
def FnExactPreimageCheckerWrongFalsely : Prop := fnExactPreimageCheckerRow.holds Tryz.pinned (OpenSpec.ofChange fnExactPreimageCheckerWrong)

/-- 'laws.FnExactDepthAfter': WHATEVER THE INPUT: true; the input reads as it did. -/
def fnExactDepthAfterSpec : ChangeSpec := { name := "fnExactDepthAfter", fn := fun _ => fun
  | [d1, d2] => { results := [.lit (.bool true)], args := [d1, d2] }
  | _ => none }
def fnExactDepthAfterRow : OpenClaim := { program := "ytcagdmaiemmfgaagreat", sum := "3bb4d51475fc6fe2f649ad80da2bc25a3e920c6e42f746dc81062236978f7250", func := "loop.example/g01145/laws.FnExactDepthAfter", spec := "fnExactDepthAfter", inPlace := ["internal/bytealg.IndexByteString", "internal/abi.NoEscape", "internal/bytealg.MakeNoZero"], unfollowed := true, recurses := true, apart := false }
def FnExactDepthAfterSaid : Prop := fnExactDepthAfterRow.holds Tryz.pinned (OpenSpec.ofChange fnExactDepthAfterSpec)

/-- ITS FALSE NEIGHBOUR: 'it returns false'. Refute it at one input. -/
def fnExactDepthAfterWrong : ChangeSpec := { name := "fnExactDepthAfter", fn := fun _ => fun
  | [d1, d2] => { results := [.lit (.bool false)], args := [d1, d2] }
  | _ => none }
def FnExactDepthAfterWrongFalsely : Prop := fnExactDepthAfterRow.holds Tryz.pinned (OpenSpec.ofChange fnExactDepthAfterWrong)

/-- 'laws.FnExactRefusedDeed': WHATEVER THE INPUT: true; the input reads as it did. -/
def fnExactRefusedDeedSpec : ChangeSpec := { name := "fnExactRefusedDeed", fn := fun _ => fun
  | [d1, d2] => { results := [.lit (.bool true)], args := [d1, d2] }
  | _ => none }
def fnExactRefusedDeedRow : OpenClaim := { program := "ytcagdmaiemmfgaagreat", sum := "3bb4d51475fc6fe2f649ad80da2bc25a3e920c6e42f746dc81062236978f7250", func := "loop.example/g01145/laws.FnExactRefusedDeed", spec := "fnExactRefusedDeed", inPlace := ["internal/bytealg.IndexByteString", "internal/abi.NoEscape", "internal/bytealg.MakeNoZero"], unfollowed := true, recurses := true, apart := false }
def FnExactRefusedDeedSaid : Prop := fnExactRefusedDeedRow.holds Tryz.pinned (OpenSpec.ofChange fnExactRefusedDeedSpec)

/-- ITS FALSE NEIGHBOUR: 'it returns false'. Refute it at one input. -/
def fnExactRefusedDeedWrong : ChangeSpec := { name := "fnExactRefusedDeed", fn := fun _ => fun
  | [d1, d2] => { results := [.lit (.bool false)], args := [d1, d2] }
  | _ => none }
def FnExactRefusedDeedWrongFalsely : Prop := fnExactRefusedDeedRow.holds Tryz.pinned (OpenSpec.ofChange fnExactRefusedDeedWrong)

/-- 'laws.FnExactVerdictAfter': WHATEVER THE INPUT: true; the input reads as it did. -/
def fnExactVerdictAfterSpec : ChangeSpec := { name := "fnExactVerdictAfter", fn := fun _ => fun
  | [d1, d2] => { results := [.lit (.bool true)], args := [d1, d2] }
  | _ => none }
def fnExactVerdictAfterRow : OpenClaim := { program := "ytcagdmaiemmfgaagreat", sum := "3bb4d51475fc6fe2f649ad80da2bc25a3e920c6e42f746dc81062236978f7250", func := "loop.example/g01145/laws.FnExactVerdictAfter", spec := "fnExactVerdictAfter", inPlace := ["internal/bytealg.IndexByteString", "internal/abi.NoEscape", "internal/bytealg.MakeNoZero"], unfollowed := true, recurses := true, apart := false }
def FnExactVerdictAfterSaid : Prop := fnExactVerdictAfterRow.holds Tryz.pinned (OpenSpec.ofChange fnExactVerdictAfterSpec)

/-- ITS FALSE NEIGHBOUR: 'it returns false'. Refute it at one input. -/
def fnExactVerdictAfterWrong : ChangeSpec := { name := "fnExactVerdictAfter", fn := fun _ => fun
  | [d1, d2] => { results := [.lit (.bool false)], args := [d1, d2] }
  | _ => none }
def FnExactVerdictAfterWrongFalsely : Prop := fnExactVerdictAfterRow.holds Tryz.pinned (OpenSpec.ofChange fnExactVerdictAfterWrong)

/-- 'laws.FnExactMissingAfter': WHATEVER THE INPUT: true; the input reads as it did. -/
def fnExactMissingAfterSpec : ChangeSpec := { name := "fnExactMissingAfter", fn := fun _ => fun
  | [d1, d2] => { results := [.lit (.bool true)], args := [d1, d2] }
  | _ => none }
def fnExactMissingAfterRow : OpenClaim := { program := "ytcagdmaiemmfgaagreat", sum := "3bb4d51475fc6fe2f649ad80da2bc25a3e920c6e42f746dc81062236978f7250", func := "loop.example/g01145/laws.FnExactMissingAfter", spec := "fnExactMissingAfter", inPlace := ["internal/bytealg.IndexByteString", "internal/abi.NoEscape", "internal/bytealg.MakeNoZero"], unfollowed := true, recurses := true, apart := false }
def FnExactMissingAfterSaid : Prop := fnExactMissingAfterRow.holds Tryz.pinned (OpenSpec.ofChange fnExactMissingAfterSpec)

/-- ITS FALSE NEIGHBOUR: 'it returns false'. Refute it at one input. -/
def fnExactMissingAfterWrong : ChangeSpec := { name := "fnExactMissingAfter", fn := fun _ => fun
  | [d1, d2] => { results := [.lit (.bool false)], args := [d1, d2] }
  | _ => none }
def FnExactMissingAfterWrongFalsely : Prop := fnExactMissingAfterRow.holds Tryz.pinned (OpenSpec.ofChange fnExactMissingAfterWrong)

/-- 'laws.FnExactFinishDeeds': WHATEVER THE INPUT: true; the input reads as it did. -/
def fnExactFinishDeedsSpec : ChangeSpec := { name := "fnExactFinishDeeds", fn := fun _ => fun
  | [d1, d2] => { results := [.lit (.bool true)], args := [d1, d2] }
  | _ => none }
def fnExactFinishDeedsRow : OpenClaim := { program := "ytcagdmaiemmfgaagreat", sum := "3bb4d51475fc6fe2f649ad80da2bc25a3e920c6e42f746dc81062236978f7250", func := "loop.example/g01145/laws.FnExactFinishDeeds", spec := "fnExactFinishDeeds", inPlace := ["internal/bytealg.IndexByteString", "internal/abi.NoEscape", "internal/bytealg.MakeNoZero"], unfollowed := true, recurses := true, apart := false }
def FnExactFinishDeedsSaid : Prop := fnExactFinishDeedsRow.holds Tryz.pinned (OpenSpec.ofChange fnExactFinishDeedsSpec)

/-- ITS FALSE NEIGHBOUR: 'it returns false'. Refute it at one input. -/
def fnExactFinishDeedsWrong : ChangeSpec := { name := "fnExactFinishDeeds", fn := fun _ => fun
  | [d1, d2] => { results := [.lit (.bool false)], args := [d1, d2] }
  | _ => none }
def FnExactFinishDeedsWrongFalsely : Prop := fnExactFinishDeedsRow.holds Tryz.pinned (OpenSpec.ofChange fnExactFinishDeedsWrong)

/-- 'laws.FnExactPlantAfter': WHATEVER THE INPUT: true; the input reads as it did. -/
def fnExactPlantAfterSpec : ChangeSpec := { name := "fnExactPlantAfter", fn := fun _ => fun
  | [d1, d2] => { results := [.lit (.bool true)], args := [d1, d2] }
  | _ => none }
def fnExactPlantAfterRow : OpenClaim := { program := "ytcagdmaiemmfgaagreat", sum := "3bb4d51475fc6fe2f649ad80da2bc25a3e920c6e42f746dc81062236978f7250", func := "loop.example/g01145/laws.FnExactPlantAfter", spec := "fnExactPlantAfter", inPlace := ["internal/bytealg.IndexByteString", "internal/abi.NoEscape", "internal/bytealg.MakeNoZero"], unfollowed := true, recurses := true, apart := false }
def FnExactPlantAfterSaid : Prop := fnExactPlantAfterRow.holds Tryz.pinned (OpenSpec.ofChange fnExactPlantAfterSpec)

/-- ITS FALSE NEIGHBOUR: 'it returns false'. Refute it at one input. -/
def fnExactPlantAfterWrong : ChangeSpec := { name := "fnExactPlantAfter", fn := fun _ => fun
  | [d1, d2] => { results := [.lit (.bool false)], args := [d1, d2] }
  | _ => none }
def FnExactPlantAfterWrongFalsely : Prop := fnExactPlantAfterRow.holds Tryz.pinned (OpenSpec.ofChange fnExactPlantAfterWrong)

/- THE SECOND FORM. 'bulk': how many values and letters a reading holds, each counted each time it is reached (what is shared counts as often as it is met; a slice's spare places count too). A statement '..UptoSaid' is the law's where the arguments, and the package variables that the reading takes, are together of bulk at most 1048576: NARROWER than '..Said'. Prove '..Said' where nothing that the law and all that it calls make is longer than what came in: it says more and counts as full. Else prove '..UptoSaid'. A law counts once. -/
mutual
def uptoBulk {H : Type} : DataW H → Nat
  | .lit (.string bytes) => bytes.length + 1
  | .lit _ => 1
  | .nil => 1
  | .ptr d => uptoBulk d + 1
  | .slice elems spare => uptoBulkAll elems + uptoBulkAll spare + 1
  | .agg parts => uptoBulkAll parts + 1
  | .iface _ d => uptoBulk d + 1
  | .map entries => uptoBulkEntries entries + 1
  | .held _ => 1
def uptoBulkAll {H : Type} : List (DataW H) → Nat
  | [] => 0
  | d :: r => uptoBulk d + uptoBulkAll r
def uptoBulkEntries {H : Type} : List (Lit × DataW H) → Nat
  | [] => 0
  | x :: r => uptoBulkEntry x + uptoBulkEntries r
def uptoBulkEntry {H : Type} : Lit × DataW H → Nat
  | (.string bytes, d) => bytes.length + uptoBulk d + 1
  | (_, d) => uptoBulk d + 1
 end
def uptoSmall : (H : Type) → List (DataW H) → Bool := fun _ ds => decide (uptoBulkAll ds ≤ 1048576)
def OpenSpec.upto (s : _root_.Go.ChangeSpec) : _root_.Go.OpenSpec := { _root_.Go.OpenSpec.ofChange s with cond := some uptoSmall }

/-- 'laws.FnExactPreimageChecker', WHERE WHAT IT READS IS OF BULK AT MOST 1048576: true; the input reads as it did. -/
def fnExactPreimageCheckerUptoRow : OpenClaim := { program := "ytcagdmaiemmfgaagreat", sum := "3bb4d51475fc6fe2f649ad80da2bc25a3e920c6e42f746dc81062236978f7250", func := "loop.example/g01145/laws.FnExactPreimageChecker", spec := "fnExactPreimageChecker", inPlace := ["internal/bytealg.IndexByteString"], unfollowed := true, recurses := true, apart := false, narrowed := true }
def FnExactPreimageCheckerUptoSaid : Prop := fnExactPreimageCheckerUptoRow.holds Tryz.pinned (OpenSpec.upto fnExactPreimageCheckerSpec)

/-- 'laws.FnExactDepthAfter', WHERE WHAT IT READS IS OF BULK AT MOST 1048576: true; the input reads as it did. -/
def fnExactDepthAfterUptoRow : OpenClaim := { program := "ytcagdmaiemmfgaagreat", sum := "3bb4d51475fc6fe2f649ad80da2bc25a3e920c6e42f746dc81062236978f7250", func := "loop.example/g01145/laws.FnExactDepthAfter", spec := "fnExactDepthAfter", inPlace := ["internal/bytealg.IndexByteString", "internal/abi.NoEscape", "internal/bytealg.MakeNoZero"], unfollowed := true, recurses := true, apart := false, narrowed := true }
def FnExactDepthAfterUptoSaid : Prop := fnExactDepthAfterUptoRow.holds Tryz.pinned (OpenSpec.upto fnExactDepthAfterSpec)

/-- 'laws.FnExactRefusedDeed', WHERE WHAT IT READS IS OF BULK AT MOST 1048576: true; the input reads as it did. -/
def fnExactRefusedDeedUptoRow : OpenClaim := { program := "ytcagdmaiemmfgaagreat", sum := "3bb4d51475fc6fe2f649ad80da2bc25a3e920c6e42f746dc81062236978f7250", func := "loop.example/g01145/laws.FnExactRefusedDeed", spec := "fnExactRefusedDeed", inPlace := ["internal/bytealg.IndexByteString", "internal/abi.NoEscape", "internal/bytealg.MakeNoZero"], unfollowed := true, recurses := true, apart := false, narrowed := true }
def FnExactRefusedDeedUptoSaid : Prop := fnExactRefusedDeedUptoRow.holds Tryz.pinned (OpenSpec.upto fnExactRefusedDeedSpec)

/-- 'laws.FnExactVerdictAfter', WHERE WHAT IT READS IS OF BULK AT MOST 1048576: true; the input reads as it did. -/
def fnExactVerdictAfterUptoRow : OpenClaim := { program := "ytcagdmaiemmfgaagreat", sum := "3bb4d51475fc6fe2f649ad80da2bc25a3e920c6e42f746dc81062236978f7250", func := "loop.example/g01145/laws.FnExactVerdictAfter", spec := "fnExactVerdictAfter", inPlace := ["internal/bytealg.IndexByteString", "internal/abi.NoEscape", "internal/bytealg.MakeNoZero"], unfollowed := true, recurses := true, apart := false, narrowed := true }
def FnExactVerdictAfterUptoSaid : Prop := fnExactVerdictAfterUptoRow.holds Tryz.pinned (OpenSpec.upto fnExactVerdictAfterSpec)

/-- 'laws.FnExactMissingAfter', WHERE WHAT IT READS IS OF BULK AT MOST 1048576: true; the input reads as it did. -/
def fnExactMissingAfterUptoRow : OpenClaim := { program := "ytcagdmaiemmfgaagreat", sum := "3bb4d51475fc6fe2f649ad80da2bc25a3e920c6e42f746dc81062236978f7250", func := "loop.example/g01145/laws.FnExactMissingAfter", spec := "fnExactMissingAfter", inPlace := ["internal/bytealg.IndexByteString", "internal/abi.NoEscape", "internal/bytealg.MakeNoZero"], unfollowed := true, recurses := true, apart := false, narrowed := true }
def FnExactMissingAfterUptoSaid : Prop := fnExactMissingAfterUptoRow.holds Tryz.pinned (OpenSpec.upto fnExactMissingAfterSpec)

/-- 'laws.FnExactFinishDeeds', WHERE WHAT IT READS IS OF BULK AT MOST 1048576: true; the input reads as it did. -/
def fnExactFinishDeedsUptoRow : OpenClaim := { program := "ytcagdmaiemmfgaagreat", sum := "3bb4d51475fc6fe2f649ad80da2bc25a3e920c6e42f746dc81062236978f7250", func := "loop.example/g01145/laws.FnExactFinishDeeds", spec := "fnExactFinishDeeds", inPlace := ["internal/bytealg.IndexByteString", "internal/abi.NoEscape", "internal/bytealg.MakeNoZero"], unfollowed := true, recurses := true, apart := false, narrowed := true }
def FnExactFinishDeedsUptoSaid : Prop := fnExactFinishDeedsUptoRow.holds Tryz.pinned (OpenSpec.upto fnExactFinishDeedsSpec)

/-- 'laws.FnExactPlantAfter', WHERE WHAT IT READS IS OF BULK AT MOST 1048576: true; the input reads as it did. -/
def fnExactPlantAfterUptoRow : OpenClaim := { program := "ytcagdmaiemmfgaagreat", sum := "3bb4d51475fc6fe2f649ad80da2bc25a3e920c6e42f746dc81062236978f7250", func := "loop.example/g01145/laws.FnExactPlantAfter", spec := "fnExactPlantAfter", inPlace := ["internal/bytealg.IndexByteString", "internal/abi.NoEscape", "internal/bytealg.MakeNoZero"], unfollowed := true, recurses := true, apart := false, narrowed := true }
def FnExactPlantAfterUptoSaid : Prop := fnExactPlantAfterUptoRow.holds Tryz.pinned (OpenSpec.upto fnExactPlantAfterSpec)

end Rows
end Go.Proofs.YtcagdmaiemmfgaaGreat
