/-
  No cell of these rows narrows 'for every input' (looked for: loops, veiled, ifaces, maps, wideKeys, modest, calm, conditions, laid).
  DERIVED. THE GIVEN ROWS OF THIS SEAT. 17 by the template 'for every input the law returns true; each argument reads behind the call as it read before'; 0 by the template 'total and deterministic' (their statements: YtglpfccgmfhkdaaTotals.lean).
  GIVEN WITH THE SEED: the statements are not yours to turn. If you find one false, say at which input.
  Laid BY PROGRAM, IN A SANDBOX (cutbox-rows.mjs): the forced cells as the released guide's own fill.sh prints them over the translation 8a4ed27189448cdc… (all of the seat's roots in one cut). By AI agents, Wed Nov 11 2026. No macro, syntax, notation, axiom, sorry.
-/
import Derived.Test.YtglpfccgmfhkdaaChecked
import GoSem.Claim
import GoSem.ClaimJoined
import GoSem.ClaimMapViews
import Derived.JoinedTies
import Derived.KernelRfl
namespace Go.Proofs.Ytglpfccgmfhkdaa
/- THE CELL 'sum', in the pinned program and in every row, IS THE sha256 OF THE DUMP (.gsa) THAT YtglpfccgmfhkdaaProg.lean LOADS. Nothing in Lean hashes anything: it is a label: what it is worth is what the hold of that sum in a sandbox is worth. -/
noncomputable def Try.pinned : Pinned := { name := "ytglpfccgmfhkdaa", sum := "8a4ed27189448cdc577a142e28c45bc091a970924037a6a8f0bd9b6d7b508a1c", checked := Try.checked }
namespace Rows
def none {H : Type} : Left H := { results := [], args := [] }

/-- 'laws.FnExactConstants': WHATEVER THE INPUT: true; the input reads as it did. -/
def fnExactConstantsSpec : ChangeSpec := { name := "fnExactConstants", fn := fun _ => fun
  | [] => { results := [.lit (.bool true)], args := [] }
  | _ => none }
def fnExactConstantsRow : OpenClaim := { program := "ytglpfccgmfhkdaa", sum := "8a4ed27189448cdc577a142e28c45bc091a970924037a6a8f0bd9b6d7b508a1c", func := "loop.example/tappet/laws.FnExactConstants", spec := "fnExactConstants", apart := false }
def FnExactConstantsSaid : Prop := fnExactConstantsRow.holds Try.pinned (OpenSpec.ofChange fnExactConstantsSpec)

/-- ITS FALSE NEIGHBOUR: 'it returns false'. Refute it at one input. -/
def fnExactConstantsWrong : ChangeSpec := { name := "fnExactConstants", fn := fun _ => fun
  | [] => { results := [.lit (.bool false)], args := [] }
  | _ => none }
def FnExactConstantsWrongFalsely : Prop := fnExactConstantsRow.holds Try.pinned (OpenSpec.ofChange fnExactConstantsWrong)

/-- 'laws.FnBack': WHATEVER THE INPUT: true; the input reads as it did. -/
def fnBackSpec : ChangeSpec := { name := "fnBack", fn := fun _ => fun
  | [d] => { results := [.lit (.bool true)], args := [d] }
  | _ => none }
def fnBackRow : OpenClaim := { program := "ytglpfccgmfhkdaa", sum := "8a4ed27189448cdc577a142e28c45bc091a970924037a6a8f0bd9b6d7b508a1c", func := "loop.example/tappet/laws.FnBack", spec := "fnBack", unfollowed := true, recurses := true, apart := false }
def FnBackSaid : Prop := fnBackRow.holds Try.pinned (OpenSpec.ofChange fnBackSpec)

/-- ITS FALSE NEIGHBOUR: 'it returns false'. Refute it at one input. -/
def fnBackWrong : ChangeSpec := { name := "fnBack", fn := fun _ => fun
  | [d] => { results := [.lit (.bool false)], args := [d] }
  | _ => none }
def FnBackWrongFalsely : Prop := fnBackRow.holds Try.pinned (OpenSpec.ofChange fnBackWrong)

/-- 'laws.FnExactPlanOk': WHATEVER THE INPUT: true; the input reads as it did. -/
def fnExactPlanOkSpec : ChangeSpec := { name := "fnExactPlanOk", fn := fun _ => fun
  | [d] => { results := [.lit (.bool true)], args := [d] }
  | _ => none }
def fnExactPlanOkRow : OpenClaim := { program := "ytglpfccgmfhkdaa", sum := "8a4ed27189448cdc577a142e28c45bc091a970924037a6a8f0bd9b6d7b508a1c", func := "loop.example/tappet/laws.FnExactPlanOk", spec := "fnExactPlanOk", apart := false }
def FnExactPlanOkSaid : Prop := fnExactPlanOkRow.holds Try.pinned (OpenSpec.ofChange fnExactPlanOkSpec)

/-- ITS FALSE NEIGHBOUR: 'it returns false'. Refute it at one input. -/
def fnExactPlanOkWrong : ChangeSpec := { name := "fnExactPlanOk", fn := fun _ => fun
  | [d] => { results := [.lit (.bool false)], args := [d] }
  | _ => none }
def FnExactPlanOkWrongFalsely : Prop := fnExactPlanOkRow.holds Try.pinned (OpenSpec.ofChange fnExactPlanOkWrong)

/-- 'laws.FnExactEventOk': WHATEVER THE INPUT: true; the input reads as it did. -/
def fnExactEventOkSpec : ChangeSpec := { name := "fnExactEventOk", fn := fun _ => fun
  | [d1, d2] => { results := [.lit (.bool true)], args := [d1, d2] }
  | _ => none }
def fnExactEventOkRow : OpenClaim := { program := "ytglpfccgmfhkdaa", sum := "8a4ed27189448cdc577a142e28c45bc091a970924037a6a8f0bd9b6d7b508a1c", func := "loop.example/tappet/laws.FnExactEventOk", spec := "fnExactEventOk", unfollowed := true, recurses := true, apart := false }
def FnExactEventOkSaid : Prop := fnExactEventOkRow.holds Try.pinned (OpenSpec.ofChange fnExactEventOkSpec)

/-- ITS FALSE NEIGHBOUR: 'it returns false'. Refute it at one input. -/
def fnExactEventOkWrong : ChangeSpec := { name := "fnExactEventOk", fn := fun _ => fun
  | [d1, d2] => { results := [.lit (.bool false)], args := [d1, d2] }
  | _ => none }
def FnExactEventOkWrongFalsely : Prop := fnExactEventOkRow.holds Try.pinned (OpenSpec.ofChange fnExactEventOkWrong)

/-- 'laws.FnExactBegin': WHATEVER THE INPUT: true; the input reads as it did. -/
def fnExactBeginSpec : ChangeSpec := { name := "fnExactBegin", fn := fun _ => fun
  | [d] => { results := [.lit (.bool true)], args := [d] }
  | _ => none }
def fnExactBeginRow : OpenClaim := { program := "ytglpfccgmfhkdaa", sum := "8a4ed27189448cdc577a142e28c45bc091a970924037a6a8f0bd9b6d7b508a1c", func := "loop.example/tappet/laws.FnExactBegin", spec := "fnExactBegin", apart := false }
def FnExactBeginSaid : Prop := fnExactBeginRow.holds Try.pinned (OpenSpec.ofChange fnExactBeginSpec)

/-- ITS FALSE NEIGHBOUR: 'it returns false'. Refute it at one input. -/
def fnExactBeginWrong : ChangeSpec := { name := "fnExactBegin", fn := fun _ => fun
  | [d] => { results := [.lit (.bool false)], args := [d] }
  | _ => none }
def FnExactBeginWrongFalsely : Prop := fnExactBeginRow.holds Try.pinned (OpenSpec.ofChange fnExactBeginWrong)

/-- 'laws.FnPass': WHATEVER THE INPUT: true; the input reads as it did. -/
def fnPassSpec : ChangeSpec := { name := "fnPass", fn := fun _ => fun
  | [d] => { results := [.lit (.bool true)], args := [d] }
  | _ => none }
def fnPassRow : OpenClaim := { program := "ytglpfccgmfhkdaa", sum := "8a4ed27189448cdc577a142e28c45bc091a970924037a6a8f0bd9b6d7b508a1c", func := "loop.example/tappet/laws.FnPass", spec := "fnPass", unfollowed := true, recurses := true, apart := false }
def FnPassSaid : Prop := fnPassRow.holds Try.pinned (OpenSpec.ofChange fnPassSpec)

/-- ITS FALSE NEIGHBOUR: 'it returns false'. Refute it at one input. -/
def fnPassWrong : ChangeSpec := { name := "fnPass", fn := fun _ => fun
  | [d] => { results := [.lit (.bool false)], args := [d] }
  | _ => none }
def FnPassWrongFalsely : Prop := fnPassRow.holds Try.pinned (OpenSpec.ofChange fnPassWrong)

/-- 'laws.FnExactFrameOk': WHATEVER THE INPUT: true; the input reads as it did. -/
def fnExactFrameOkSpec : ChangeSpec := { name := "fnExactFrameOk", fn := fun _ => fun
  | [d1, d2] => { results := [.lit (.bool true)], args := [d1, d2] }
  | _ => none }
def fnExactFrameOkRow : OpenClaim := { program := "ytglpfccgmfhkdaa", sum := "8a4ed27189448cdc577a142e28c45bc091a970924037a6a8f0bd9b6d7b508a1c", func := "loop.example/tappet/laws.FnExactFrameOk", spec := "fnExactFrameOk", unfollowed := true, recurses := true, apart := false }
def FnExactFrameOkSaid : Prop := fnExactFrameOkRow.holds Try.pinned (OpenSpec.ofChange fnExactFrameOkSpec)

/-- ITS FALSE NEIGHBOUR: 'it returns false'. Refute it at one input. -/
def fnExactFrameOkWrong : ChangeSpec := { name := "fnExactFrameOk", fn := fun _ => fun
  | [d1, d2] => { results := [.lit (.bool false)], args := [d1, d2] }
  | _ => none }
def FnExactFrameOkWrongFalsely : Prop := fnExactFrameOkRow.holds Try.pinned (OpenSpec.ofChange fnExactFrameOkWrong)

/-- 'laws.FnExactProved': WHATEVER THE INPUT: true; the input reads as it did. -/
def fnExactProvedSpec : ChangeSpec := { name := "fnExactProved", fn := fun _ => fun
  | [d1, d2, d3] => { results := [.lit (.bool true)], args := [d1, d2, d3] }
  | _ => none }
def fnExactProvedRow : OpenClaim := { program := "ytglpfccgmfhkdaa", sum := "8a4ed27189448cdc577a142e28c45bc091a970924037a6a8f0bd9b6d7b508a1c", func := "loop.example/tappet/laws.FnExactProved", spec := "fnExactProved", unfollowed := true, recurses := true, apart := false }
def FnExactProvedSaid : Prop := fnExactProvedRow.holds Try.pinned (OpenSpec.ofChange fnExactProvedSpec)

/-- ITS FALSE NEIGHBOUR: 'it returns false'. Refute it at one input. -/
def fnExactProvedWrong : ChangeSpec := { name := "fnExactProved", fn := fun _ => fun
  | [d1, d2, d3] => { results := [.lit (.bool false)], args := [d1, d2, d3] }
  | _ => none }
def FnExactProvedWrongFalsely : Prop := fnExactProvedRow.holds Try.pinned (OpenSpec.ofChange fnExactProvedWrong)

/-- 'laws.FnHeld': WHATEVER THE INPUT: true; the input reads as it did. -/
def fnHeldSpec : ChangeSpec := { name := "fnHeld", fn := fun _ => fun
  | [d] => { results := [.lit (.bool true)], args := [d] }
  | _ => none }
def fnHeldRow : OpenClaim := { program := "ytglpfccgmfhkdaa", sum := "8a4ed27189448cdc577a142e28c45bc091a970924037a6a8f0bd9b6d7b508a1c", func := "loop.example/tappet/laws.FnHeld", spec := "fnHeld", unfollowed := true, recurses := true, apart := false }
def FnHeldSaid : Prop := fnHeldRow.holds Try.pinned (OpenSpec.ofChange fnHeldSpec)

/-- ITS FALSE NEIGHBOUR: 'it returns false'. Refute it at one input. -/
def fnHeldWrong : ChangeSpec := { name := "fnHeld", fn := fun _ => fun
  | [d] => { results := [.lit (.bool false)], args := [d] }
  | _ => none }
def FnHeldWrongFalsely : Prop := fnHeldRow.holds Try.pinned (OpenSpec.ofChange fnHeldWrong)

/-- 'laws.FnExactLockedBy': WHATEVER THE INPUT: true; the input reads as it did. -/
def fnExactLockedBySpec : ChangeSpec := { name := "fnExactLockedBy", fn := fun _ => fun
  | [d1, d2, d3] => { results := [.lit (.bool true)], args := [d1, d2, d3] }
  | _ => none }
def fnExactLockedByRow : OpenClaim := { program := "ytglpfccgmfhkdaa", sum := "8a4ed27189448cdc577a142e28c45bc091a970924037a6a8f0bd9b6d7b508a1c", func := "loop.example/tappet/laws.FnExactLockedBy", spec := "fnExactLockedBy", unfollowed := true, recurses := true, apart := false }
def FnExactLockedBySaid : Prop := fnExactLockedByRow.holds Try.pinned (OpenSpec.ofChange fnExactLockedBySpec)

/-- ITS FALSE NEIGHBOUR: 'it returns false'. Refute it at one input. -/
def fnExactLockedByWrong : ChangeSpec := { name := "fnExactLockedBy", fn := fun _ => fun
  | [d1, d2, d3] => { results := [.lit (.bool false)], args := [d1, d2, d3] }
  | _ => none }
def FnExactLockedByWrongFalsely : Prop := fnExactLockedByRow.holds Try.pinned (OpenSpec.ofChange fnExactLockedByWrong)

/-- 'laws.FnClear': WHATEVER THE INPUT: true; the input reads as it did. -/
def fnClearSpec : ChangeSpec := { name := "fnClear", fn := fun _ => fun
  | [d] => { results := [.lit (.bool true)], args := [d] }
  | _ => none }
def fnClearRow : OpenClaim := { program := "ytglpfccgmfhkdaa", sum := "8a4ed27189448cdc577a142e28c45bc091a970924037a6a8f0bd9b6d7b508a1c", func := "loop.example/tappet/laws.FnClear", spec := "fnClear", unfollowed := true, recurses := true, apart := false }
def FnClearSaid : Prop := fnClearRow.holds Try.pinned (OpenSpec.ofChange fnClearSpec)

/-- ITS FALSE NEIGHBOUR: 'it returns false'. Refute it at one input. -/
def fnClearWrong : ChangeSpec := { name := "fnClear", fn := fun _ => fun
  | [d] => { results := [.lit (.bool false)], args := [d] }
  | _ => none }
def FnClearWrongFalsely : Prop := fnClearRow.holds Try.pinned (OpenSpec.ofChange fnClearWrong)

/-- 'laws.FnStill': WHATEVER THE INPUT: true; the input reads as it did. -/
def fnStillSpec : ChangeSpec := { name := "fnStill", fn := fun _ => fun
  | [d] => { results := [.lit (.bool true)], args := [d] }
  | _ => none }
def fnStillRow : OpenClaim := { program := "ytglpfccgmfhkdaa", sum := "8a4ed27189448cdc577a142e28c45bc091a970924037a6a8f0bd9b6d7b508a1c", func := "loop.example/tappet/laws.FnStill", spec := "fnStill", unfollowed := true, recurses := true, apart := false }
def FnStillSaid : Prop := fnStillRow.holds Try.pinned (OpenSpec.ofChange fnStillSpec)

/-- ITS FALSE NEIGHBOUR: 'it returns false'. Refute it at one input. -/
def fnStillWrong : ChangeSpec := { name := "fnStill", fn := fun _ => fun
  | [d] => { results := [.lit (.bool false)], args := [d] }
  | _ => none }
def FnStillWrongFalsely : Prop := fnStillRow.holds Try.pinned (OpenSpec.ofChange fnStillWrong)

/-- 'laws.FnWhy': WHATEVER THE INPUT: true; the input reads as it did. -/
def fnWhySpec : ChangeSpec := { name := "fnWhy", fn := fun _ => fun
  | [d] => { results := [.lit (.bool true)], args := [d] }
  | _ => none }
def fnWhyRow : OpenClaim := { program := "ytglpfccgmfhkdaa", sum := "8a4ed27189448cdc577a142e28c45bc091a970924037a6a8f0bd9b6d7b508a1c", func := "loop.example/tappet/laws.FnWhy", spec := "fnWhy", unfollowed := true, recurses := true, apart := false }
def FnWhySaid : Prop := fnWhyRow.holds Try.pinned (OpenSpec.ofChange fnWhySpec)

/-- ITS FALSE NEIGHBOUR: 'it returns false'. Refute it at one input. -/
def fnWhyWrong : ChangeSpec := { name := "fnWhy", fn := fun _ => fun
  | [d] => { results := [.lit (.bool false)], args := [d] }
  | _ => none }
def FnWhyWrongFalsely : Prop := fnWhyRow.holds Try.pinned (OpenSpec.ofChange fnWhyWrong)

/-- 'laws.FnBars': WHATEVER THE INPUT: true; the input reads as it did. -/
def fnBarsSpec : ChangeSpec := { name := "fnBars", fn := fun _ => fun
  | [d] => { results := [.lit (.bool true)], args := [d] }
  | _ => none }
def fnBarsRow : OpenClaim := { program := "ytglpfccgmfhkdaa", sum := "8a4ed27189448cdc577a142e28c45bc091a970924037a6a8f0bd9b6d7b508a1c", func := "loop.example/tappet/laws.FnBars", spec := "fnBars", unfollowed := true, recurses := true, apart := false }
def FnBarsSaid : Prop := fnBarsRow.holds Try.pinned (OpenSpec.ofChange fnBarsSpec)

/-- ITS FALSE NEIGHBOUR: 'it returns false'. Refute it at one input. -/
def fnBarsWrong : ChangeSpec := { name := "fnBars", fn := fun _ => fun
  | [d] => { results := [.lit (.bool false)], args := [d] }
  | _ => none }
def FnBarsWrongFalsely : Prop := fnBarsRow.holds Try.pinned (OpenSpec.ofChange fnBarsWrong)

/-- 'laws.FnExactPointLock': WHATEVER THE INPUT: true; the input reads as it did. -/
def fnExactPointLockSpec : ChangeSpec := { name := "fnExactPointLock", fn := fun _ => fun
  | [d1, d2, d3] => { results := [.lit (.bool true)], args := [d1, d2, d3] }
  | _ => none }
def fnExactPointLockRow : OpenClaim := { program := "ytglpfccgmfhkdaa", sum := "8a4ed27189448cdc577a142e28c45bc091a970924037a6a8f0bd9b6d7b508a1c", func := "loop.example/tappet/laws.FnExactPointLock", spec := "fnExactPointLock", unfollowed := true, recurses := true, apart := false }
def FnExactPointLockSaid : Prop := fnExactPointLockRow.holds Try.pinned (OpenSpec.ofChange fnExactPointLockSpec)

/-- ITS FALSE NEIGHBOUR: 'it returns false'. Refute it at one input. -/
def fnExactPointLockWrong : ChangeSpec := { name := "fnExactPointLock", fn := fun _ => fun
  | [d1, d2, d3] => { results := [.lit (.bool false)], args := [d1, d2, d3] }
  | _ => none }
def FnExactPointLockWrongFalsely : Prop := fnExactPointLockRow.holds Try.pinned (OpenSpec.ofChange fnExactPointLockWrong)

/-- 'laws.FnExactShown': WHATEVER THE INPUT: true; the input reads as it did. -/
def fnExactShownSpec : ChangeSpec := { name := "fnExactShown", fn := fun _ => fun
  | [d1, d2] => { results := [.lit (.bool true)], args := [d1, d2] }
  | _ => none }
def fnExactShownRow : OpenClaim := { program := "ytglpfccgmfhkdaa", sum := "8a4ed27189448cdc577a142e28c45bc091a970924037a6a8f0bd9b6d7b508a1c", func := "loop.example/tappet/laws.FnExactShown", spec := "fnExactShown", inPlace := ["internal/abi.NoEscape"], unfollowed := true, recurses := true, apart := false }
def FnExactShownSaid : Prop := fnExactShownRow.holds Try.pinned (OpenSpec.ofChange fnExactShownSpec)

/-- ITS FALSE NEIGHBOUR: 'it returns false'. Refute it at one input. -/
def fnExactShownWrong : ChangeSpec := { name := "fnExactShown", fn := fun _ => fun
  | [d1, d2] => { results := [.lit (.bool false)], args := [d1, d2] }
  | _ => none }
def FnExactShownWrongFalsely : Prop := fnExactShownRow.holds Try.pinned (OpenSpec.ofChange fnExactShownWrong)

/-- 'laws.FnExactWhyNot': WHATEVER THE INPUT: true; the input reads as it did. -/
def fnExactWhyNotSpec : ChangeSpec := { name := "fnExactWhyNot", fn := fun _ => fun
  | [d1, d2, d3] => { results := [.lit (.bool true)], args := [d1, d2, d3] }
  | _ => none }
def fnExactWhyNotRow : OpenClaim := { program := "ytglpfccgmfhkdaa", sum := "8a4ed27189448cdc577a142e28c45bc091a970924037a6a8f0bd9b6d7b508a1c", func := "loop.example/tappet/laws.FnExactWhyNot", spec := "fnExactWhyNot", unfollowed := true, recurses := true, apart := false }
def FnExactWhyNotSaid : Prop := fnExactWhyNotRow.holds Try.pinned (OpenSpec.ofChange fnExactWhyNotSpec)

/-- ITS FALSE NEIGHBOUR: 'it returns false'. Refute it at one input. -/
def fnExactWhyNotWrong : ChangeSpec := { name := "fnExactWhyNot", fn := fun _ => fun
  | [d1, d2, d3] => { results := [.lit (.bool false)], args := [d1, d2, d3] }
  | _ => none }
def FnExactWhyNotWrongFalsely : Prop := fnExactWhyNotRow.holds Try.pinned (OpenSpec.ofChange fnExactWhyNotWrong)

/- THE SECOND FORM. 'bulk': how many values and letters a reading holds, each counted each time it is reached (what is shared counts as often as it is met; a slice's spare places count too). A statement '..UptoSaid' is the law's where the arguments, and the package variables that the reading takes, are together of bulk at most 1048576: NARROWER than '..Said'. Prove '..Said' where nothing that the law and all that it calls make is longer than what came in: it says more and counts as full. Else prove '..UptoSaid'. A law counts once. -/
mutual
def uptoBulk {H : Type} : DataW H → Nat
  | .lit (.string bytes) => bytes.length + 1
  | .lit _ => 1
  | .nil => 1
  | .ptr d => uptoBulk d + 1
  | .slice elems spare => uptoBulkAll elems + uptoBulkAll spare + 1
  | .agg parts => uptoBulkAll parts + 1
  | .iface _ d => uptoBulk d + 1
  | .map entries => uptoBulkEntries entries + 1
  | .held _ => 1
def uptoBulkAll {H : Type} : List (DataW H) → Nat
  | [] => 0
  | d :: r => uptoBulk d + uptoBulkAll r
def uptoBulkEntries {H : Type} : List (Lit × DataW H) → Nat
  | [] => 0
  | x :: r => uptoBulkEntry x + uptoBulkEntries r
def uptoBulkEntry {H : Type} : Lit × DataW H → Nat
  | (.string bytes, d) => bytes.length + uptoBulk d + 1
  | (_, d) => uptoBulk d + 1
 end
def uptoSmall : (H : Type) → List (DataW H) → Bool := fun _ ds => decide (uptoBulkAll ds ≤ 1048576)
def OpenSpec.upto (s : _root_.Go.ChangeSpec) : _root_.Go.OpenSpec := { _root_.Go.OpenSpec.ofChange s with cond := some uptoSmall }

/-- 'laws.FnExactConstants', WHERE WHAT IT READS IS OF BULK AT MOST 1048576: true; the input reads as it did. -/
def fnExactConstantsUptoRow : OpenClaim := { program := "ytglpfccgmfhkdaa", sum := "8a4ed27189448cdc577a142e28c45bc091a970924037a6a8f0bd9b6d7b508a1c", func := "loop.example/tappet/laws.FnExactConstants", spec := "fnExactConstants", apart := false, narrowed := true }
def FnExactConstantsUptoSaid : Prop := fnExactConstantsUptoRow.holds Try.pinned (OpenSpec.upto fnExactConstantsSpec)

/-- 'laws.FnBack', WHERE WHAT IT READS IS OF BULK AT MOST 1048576: true; the input reads as it did. -/
def fnBackUptoRow : OpenClaim := { program := "ytglpfccgmfhkdaa", sum := "8a4ed27189448cdc577a142e28c45bc091a970924037a6a8f0bd9b6d7b508a1c", func := "loop.example/tappet/laws.FnBack", spec := "fnBack", unfollowed := true, recurses := true, apart := false, narrowed := true }
def FnBackUptoSaid : Prop := fnBackUptoRow.holds Try.pinned (OpenSpec.upto fnBackSpec)

/-- 'laws.FnExactPlanOk', WHERE WHAT IT READS IS OF BULK AT MOST 1048576: true; the input reads as it did. -/
def fnExactPlanOkUptoRow : OpenClaim := { program := "ytglpfccgmfhkdaa", sum := "8a4ed27189448cdc577a142e28c45bc091a970924037a6a8f0bd9b6d7b508a1c", func := "loop.example/tappet/laws.FnExactPlanOk", spec := "fnExactPlanOk", apart := false, narrowed := true }
def FnExactPlanOkUptoSaid : Prop := fnExactPlanOkUptoRow.holds Try.pinned (OpenSpec.upto fnExactPlanOkSpec)

/-- 'laws.FnExactEventOk', WHERE WHAT IT READS IS OF BULK AT MOST 1048576: true; the input reads as it did. -/
def fnExactEventOkUptoRow : OpenClaim := { program := "ytglpfccgmfhkdaa", sum := "8a4ed27189448cdc577a142e28c45bc091a970924037a6a8f0bd9b6d7b508a1c", func := "loop.example/tappet/laws.FnExactEventOk", spec := "fnExactEventOk", unfollowed := true, recurses := true, apart := false, narrowed := true }
def FnExactEventOkUptoSaid : Prop := fnExactEventOkUptoRow.holds Try.pinned (OpenSpec.upto fnExactEventOkSpec)

/-- 'laws.FnExactBegin', WHERE WHAT IT READS IS OF BULK AT MOST 1048576: true; the input reads as it did. -/
def fnExactBeginUptoRow : OpenClaim := { program := "ytglpfccgmfhkdaa", sum := "8a4ed27189448cdc577a142e28c45bc091a970924037a6a8f0bd9b6d7b508a1c", func := "loop.example/tappet/laws.FnExactBegin", spec := "fnExactBegin", apart := false, narrowed := true }
def FnExactBeginUptoSaid : Prop := fnExactBeginUptoRow.holds Try.pinned (OpenSpec.upto fnExactBeginSpec)

/-- 'laws.FnPass', WHERE WHAT IT READS IS OF BULK AT MOST 1048576: true; the input reads as it did. -/
def fnPassUptoRow : OpenClaim := { program := "ytglpfccgmfhkdaa", sum := "8a4ed27189448cdc577a142e28c45bc091a970924037a6a8f0bd9b6d7b508a1c", func := "loop.example/tappet/laws.FnPass", spec := "fnPass", unfollowed := true, recurses := true, apart := false, narrowed := true }
def FnPassUptoSaid : Prop := fnPassUptoRow.holds Try.pinned (OpenSpec.upto fnPassSpec)

/-- 'laws.FnExactFrameOk', WHERE WHAT IT READS IS OF BULK AT MOST 1048576: true; the input reads as it did. -/
def fnExactFrameOkUptoRow : OpenClaim := { program := "ytglpfccgmfhkdaa", sum := "8a4ed27189448cdc577a142e28c45bc091a970924037a6a8f0bd9b6d7b508a1c", func := "loop.example/tappet/laws.FnExactFrameOk", spec := "fnExactFrameOk", unfollowed := true, recurses := true, apart := false, narrowed := true }
def FnExactFrameOkUptoSaid : Prop := fnExactFrameOkUptoRow.holds Try.pinned (OpenSpec.upto fnExactFrameOkSpec)

/-- 'laws.FnExactProved', WHERE WHAT IT READS IS OF BULK AT MOST 1048576: true; the input reads as it did. -/
def fnExactProvedUptoRow : OpenClaim := { program := "ytglpfccgmfhkdaa", sum := "8a4ed27189448cdc577a142e28c45bc091a970924037a6a8f0bd9b6d7b508a1c", func := "loop.example/tappet/laws.FnExactProved", spec := "fnExactProved", unfollowed := true, recurses := true, apart := false, narrowed := true }
def FnExactProvedUptoSaid : Prop := fnExactProvedUptoRow.holds Try.pinned (OpenSpec.upto fnExactProvedSpec)

/-- 'laws.FnHeld', WHERE WHAT IT READS IS OF BULK AT MOST 1048576: true; the input reads as it did. -/
def fnHeldUptoRow : OpenClaim := { program := "ytglpfccgmfhkdaa", sum := "8a4ed27189448cdc577a142e28c45bc091a970924037a6a8f0bd9b6d7b508a1c", func := "loop.example/tappet/laws.FnHeld", spec := "fnHeld", unfollowed := true, recurses := true, apart := false, narrowed := true }
def FnHeldUptoSaid : Prop := fnHeldUptoRow.holds Try.pinned (OpenSpec.upto fnHeldSpec)

/-- 'laws.FnExactLockedBy', WHERE WHAT IT READS IS OF BULK AT MOST 1048576: true; the input reads as it did. -/
def fnExactLockedByUptoRow : OpenClaim := { program := "ytglpfccgmfhkdaa", sum := "8a4ed27189448cdc577a142e28c45bc091a970924037a6a8f0bd9b6d7b508a1c", func := "loop.example/tappet/laws.FnExactLockedBy", spec := "fnExactLockedBy", unfollowed := true, recurses := true, apart := false, narrowed := true }
def FnExactLockedByUptoSaid : Prop := fnExactLockedByUptoRow.holds Try.pinned (OpenSpec.upto fnExactLockedBySpec)

/-- 'laws.FnClear', WHERE WHAT IT READS IS OF BULK AT MOST 1048576: true; the input reads as it did. -/
def fnClearUptoRow : OpenClaim := { program := "ytglpfccgmfhkdaa", sum := "8a4ed27189448cdc577a142e28c45bc091a970924037a6a8f0bd9b6d7b508a1c", func := "loop.example/tappet/laws.FnClear", spec := "fnClear", unfollowed := true, recurses := true, apart := false, narrowed := true }
def FnClearUptoSaid : Prop := fnClearUptoRow.holds Try.pinned (OpenSpec.upto fnClearSpec)

/-- 'laws.FnStill', WHERE WHAT IT READS IS OF BULK AT MOST 1048576: true; the input reads as it did. -/
def fnStillUptoRow : OpenClaim := { program := "ytglpfccgmfhkdaa", sum := "8a4ed27189448cdc577a142e28c45bc091a970924037a6a8f0bd9b6d7b508a1c", func := "loop.example/tappet/laws.FnStill", spec := "fnStill", unfollowed := true, recurses := true, apart := false, narrowed := true }
def FnStillUptoSaid : Prop := fnStillUptoRow.holds Try.pinned (OpenSpec.upto fnStillSpec)

/-- 'laws.FnWhy', WHERE WHAT IT READS IS OF BULK AT MOST 1048576: true; the input reads as it did. -/
def fnWhyUptoRow : OpenClaim := { program := "ytglpfccgmfhkdaa", sum := "8a4ed27189448cdc577a142e28c45bc091a970924037a6a8f0bd9b6d7b508a1c", func := "loop.example/tappet/laws.FnWhy", spec := "fnWhy", unfollowed := true, recurses := true, apart := false, narrowed := true }
def FnWhyUptoSaid : Prop := fnWhyUptoRow.holds Try.pinned (OpenSpec.upto fnWhySpec)

/-- 'laws.FnBars', WHERE WHAT IT READS IS OF BULK AT MOST 1048576: true; the input reads as it did. -/
def fnBarsUptoRow : OpenClaim := { program := "ytglpfccgmfhkdaa", sum := "8a4ed27189448cdc577a142e28c45bc091a970924037a6a8f0bd9b6d7b508a1c", func := "loop.example/tappet/laws.FnBars", spec := "fnBars", unfollowed := true, recurses := true, apart := false, narrowed := true }
def FnBarsUptoSaid : Prop := fnBarsUptoRow.holds Try.pinned (OpenSpec.upto fnBarsSpec)

/-- 'laws.FnExactPointLock', WHERE WHAT IT READS IS OF BULK AT MOST 1048576: true; the input reads as it did. -/
def fnExactPointLockUptoRow : OpenClaim := { program := "ytglpfccgmfhkdaa", sum := "8a4ed27189448cdc577a142e28c45bc091a970924037a6a8f0bd9b6d7b508a1c", func := "loop.example/tappet/laws.FnExactPointLock", spec := "fnExactPointLock", unfollowed := true, recurses := true, apart := false, narrowed := true }
def FnExactPointLockUptoSaid : Prop := fnExactPointLockUptoRow.holds Try.pinned (OpenSpec.upto fnExactPointLockSpec)

/-- 'laws.FnExactShown', WHERE WHAT IT READS IS OF BULK AT MOST 1048576: true; the input reads as it did. -/
def fnExactShownUptoRow : OpenClaim := { program := "ytglpfccgmfhkdaa", sum := "8a4ed27189448cdc577a142e28c45bc091a970924037a6a8f0bd9b6d7b508a1c", func := "loop.example/tappet/laws.FnExactShown", spec := "fnExactShown", inPlace := ["internal/abi.NoEscape"], unfollowed := true, recurses := true, apart := false, narrowed := true }
def FnExactShownUptoSaid : Prop := fnExactShownUptoRow.holds Try.pinned (OpenSpec.upto fnExactShownSpec)

/-- 'laws.FnExactWhyNot', WHERE WHAT IT READS IS OF BULK AT MOST 1048576: true; the input reads as it did. -/
def fnExactWhyNotUptoRow : OpenClaim := { program := "ytglpfccgmfhkdaa", sum := "8a4ed27189448cdc577a142e28c45bc091a970924037a6a8f0bd9b6d7b508a1c", func := "loop.example/tappet/laws.FnExactWhyNot", spec := "fnExactWhyNot", unfollowed := true, recurses := true, apart := false, narrowed := true }
def FnExactWhyNotUptoSaid : Prop := fnExactWhyNotUptoRow.holds Try.pinned (OpenSpec.upto fnExactWhyNotSpec)

end Rows
end Go.Proofs.Ytglpfccgmfhkdaa
