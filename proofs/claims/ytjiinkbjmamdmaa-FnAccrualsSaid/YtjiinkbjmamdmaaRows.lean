/-
  No cell of these rows narrows 'for every input' (looked for: loops, veiled, ifaces, maps, wideKeys, modest, calm, conditions, laid).
  DERIVED. THE GIVEN ROWS OF THIS SEAT. 15 by the template 'for every input the law returns true; each argument reads behind the call as it read before'; 0 by the template 'total and deterministic' (their statements: YtjiinkbjmamdmaaTotals.lean).
  GIVEN WITH THE SEED: the statements are not yours to turn. If you find one false, say at which input.
  Laid BY PROGRAM, IN A SANDBOX (cutbox-rows.mjs): the forced cells as the released guide's own fill.sh prints them over the translation fc195d06de4d48e4… (all of the seat's roots in one cut). By AI agents, Wed Nov 11 2026. No macro, syntax, notation, axiom, sorry.
-/
import Derived.Test.YtjiinkbjmamdmaaChecked
import GoSem.Claim
import GoSem.ClaimJoined
import GoSem.ClaimMapViews
import Derived.JoinedTies
import Derived.KernelRfl
namespace Go.Proofs.Ytjiinkbjmamdmaa
/- THE CELL 'sum', in the pinned program and in every row, IS THE sha256 OF THE DUMP (.gsa) THAT YtjiinkbjmamdmaaProg.lean LOADS. Nothing in Lean hashes anything: it is a label: what it is worth is what the hold of that sum in a sandbox is worth. -/
noncomputable def Try.pinned : Pinned := { name := "ytjiinkbjmamdmaa", sum := "fc195d06de4d48e40c8d0ecc1e78ed4019fe3302e6caf06887364ab05f2dea4c", checked := Try.checked }
namespace Rows
def none {H : Type} : Left H := { results := [], args := [] }

/-- 'laws.FnExactDueFor': WHATEVER THE INPUT: true; the input reads as it did. -/
def fnExactDueForSpec : ChangeSpec := { name := "fnExactDueFor", fn := fun _ => fun
  | [d1, d2] => { results := [.lit (.bool true)], args := [d1, d2] }
  | _ => none }
def fnExactDueForRow : OpenClaim := { program := "ytjiinkbjmamdmaa", sum := "fc195d06de4d48e40c8d0ecc1e78ed4019fe3302e6caf06887364ab05f2dea4c", func := "loop.example/g00980/laws.FnExactDueFor", spec := "fnExactDueFor", apart := false }
def FnExactDueForSaid : Prop := fnExactDueForRow.holds Try.pinned (OpenSpec.ofChange fnExactDueForSpec)

/-- ITS FALSE NEIGHBOUR: 'it returns false'. Refute it at one input. -/
def fnExactDueForWrong : ChangeSpec := { name := "fnExactDueFor", fn := fun _ => fun
  | [d1, d2] => { results := [.lit (.bool false)], args := [d1, d2] }
  | _ => none }
def FnExactDueForWrongFalsely : Prop := fnExactDueForRow.holds Try.pinned (OpenSpec.ofChange fnExactDueForWrong)

/-- 'laws.FnExactDesignOk': WHATEVER THE INPUT: true; the input reads as it did. -/
def fnExactDesignOkSpec : ChangeSpec := { name := "fnExactDesignOk", fn := fun _ => fun
  | [d] => { results := [.lit (.bool true)], args := [d] }
  | _ => none }
def fnExactDesignOkRow : OpenClaim := { program := "ytjiinkbjmamdmaa", sum := "fc195d06de4d48e40c8d0ecc1e78ed4019fe3302e6caf06887364ab05f2dea4c", func := "loop.example/g00980/laws.FnExactDesignOk", spec := "fnExactDesignOk", apart := false }
def FnExactDesignOkSaid : Prop := fnExactDesignOkRow.holds Try.pinned (OpenSpec.ofChange fnExactDesignOkSpec)

/-- ITS FALSE NEIGHBOUR: 'it returns false'. Refute it at one input. -/
def fnExactDesignOkWrong : ChangeSpec := { name := "fnExactDesignOk", fn := fun _ => fun
  | [d] => { results := [.lit (.bool false)], args := [d] }
  | _ => none }
def FnExactDesignOkWrongFalsely : Prop := fnExactDesignOkRow.holds Try.pinned (OpenSpec.ofChange fnExactDesignOkWrong)

/-- 'laws.FnExactGrowAccount': WHATEVER THE INPUT: true; the input reads as it did. -/
def fnExactGrowAccountSpec : ChangeSpec := { name := "fnExactGrowAccount", fn := fun _ => fun
  | [d1, d2, d3, d4] => { results := [.lit (.bool true)], args := [d1, d2, d3, d4] }
  | _ => none }
def fnExactGrowAccountRow : OpenClaim := { program := "ytjiinkbjmamdmaa", sum := "fc195d06de4d48e40c8d0ecc1e78ed4019fe3302e6caf06887364ab05f2dea4c", func := "loop.example/g00980/laws.FnExactGrowAccount", spec := "fnExactGrowAccount", apart := false }
def FnExactGrowAccountSaid : Prop := fnExactGrowAccountRow.holds Try.pinned (OpenSpec.ofChange fnExactGrowAccountSpec)

/-- ITS FALSE NEIGHBOUR: 'it returns false'. Refute it at one input. -/
def fnExactGrowAccountWrong : ChangeSpec := { name := "fnExactGrowAccount", fn := fun _ => fun
  | [d1, d2, d3, d4] => { results := [.lit (.bool false)], args := [d1, d2, d3, d4] }
  | _ => none }
def FnExactGrowAccountWrongFalsely : Prop := fnExactGrowAccountRow.holds Try.pinned (OpenSpec.ofChange fnExactGrowAccountWrong)

/-- 'laws.FnExactSettleBy': WHATEVER THE INPUT: true; the input reads as it did. -/
def fnExactSettleBySpec : ChangeSpec := { name := "fnExactSettleBy", fn := fun _ => fun
  | [d1, d2, d3] => { results := [.lit (.bool true)], args := [d1, d2, d3] }
  | _ => none }
def fnExactSettleByRow : OpenClaim := { program := "ytjiinkbjmamdmaa", sum := "fc195d06de4d48e40c8d0ecc1e78ed4019fe3302e6caf06887364ab05f2dea4c", func := "loop.example/g00980/laws.FnExactSettleBy", spec := "fnExactSettleBy", unfollowed := true, recurses := true, apart := false }
def FnExactSettleBySaid : Prop := fnExactSettleByRow.holds Try.pinned (OpenSpec.ofChange fnExactSettleBySpec)

/-- ITS FALSE NEIGHBOUR: 'it returns false'. Refute it at one input. -/
def fnExactSettleByWrong : ChangeSpec := { name := "fnExactSettleBy", fn := fun _ => fun
  | [d1, d2, d3] => { results := [.lit (.bool false)], args := [d1, d2, d3] }
  | _ => none }
def FnExactSettleByWrongFalsely : Prop := fnExactSettleByRow.holds Try.pinned (OpenSpec.ofChange fnExactSettleByWrong)

/-- 'laws.FnGrowing': WHATEVER THE INPUT: true; the input reads as it did. -/
def fnGrowingSpec : ChangeSpec := { name := "fnGrowing", fn := fun _ => fun
  | [d] => { results := [.lit (.bool true)], args := [d] }
  | _ => none }
def fnGrowingRow : OpenClaim := { program := "ytjiinkbjmamdmaa", sum := "fc195d06de4d48e40c8d0ecc1e78ed4019fe3302e6caf06887364ab05f2dea4c", func := "loop.example/g00980/laws.FnGrowing", spec := "fnGrowing", apart := false }
def FnGrowingSaid : Prop := fnGrowingRow.holds Try.pinned (OpenSpec.ofChange fnGrowingSpec)

/-- ITS FALSE NEIGHBOUR: 'it returns false'. Refute it at one input. -/
def fnGrowingWrong : ChangeSpec := { name := "fnGrowing", fn := fun _ => fun
  | [d] => { results := [.lit (.bool false)], args := [d] }
  | _ => none }
def FnGrowingWrongFalsely : Prop := fnGrowingRow.holds Try.pinned (OpenSpec.ofChange fnGrowingWrong)

/-- 'laws.FnExactUnitsFor': WHATEVER THE INPUT: true; the input reads as it did. -/
def fnExactUnitsForSpec : ChangeSpec := { name := "fnExactUnitsFor", fn := fun _ => fun
  | [d1, d2] => { results := [.lit (.bool true)], args := [d1, d2] }
  | _ => none }
def fnExactUnitsForRow : OpenClaim := { program := "ytjiinkbjmamdmaa", sum := "fc195d06de4d48e40c8d0ecc1e78ed4019fe3302e6caf06887364ab05f2dea4c", func := "loop.example/g00980/laws.FnExactUnitsFor", spec := "fnExactUnitsFor", apart := false }
def FnExactUnitsForSaid : Prop := fnExactUnitsForRow.holds Try.pinned (OpenSpec.ofChange fnExactUnitsForSpec)

/-- ITS FALSE NEIGHBOUR: 'it returns false'. Refute it at one input. -/
def fnExactUnitsForWrong : ChangeSpec := { name := "fnExactUnitsFor", fn := fun _ => fun
  | [d1, d2] => { results := [.lit (.bool false)], args := [d1, d2] }
  | _ => none }
def FnExactUnitsForWrongFalsely : Prop := fnExactUnitsForRow.holds Try.pinned (OpenSpec.ofChange fnExactUnitsForWrong)

/-- 'laws.FnAccounts': WHATEVER THE INPUT: true; the input reads as it did. -/
def fnAccountsSpec : ChangeSpec := { name := "fnAccounts", fn := fun _ => fun
  | [d] => { results := [.lit (.bool true)], args := [d] }
  | _ => none }
def fnAccountsRow : OpenClaim := { program := "ytjiinkbjmamdmaa", sum := "fc195d06de4d48e40c8d0ecc1e78ed4019fe3302e6caf06887364ab05f2dea4c", func := "loop.example/g00980/laws.FnAccounts", spec := "fnAccounts", unfollowed := true, recurses := true, apart := false }
def FnAccountsSaid : Prop := fnAccountsRow.holds Try.pinned (OpenSpec.ofChange fnAccountsSpec)

/-- ITS FALSE NEIGHBOUR: 'it returns false'. Refute it at one input. -/
def fnAccountsWrong : ChangeSpec := { name := "fnAccounts", fn := fun _ => fun
  | [d] => { results := [.lit (.bool false)], args := [d] }
  | _ => none }
def FnAccountsWrongFalsely : Prop := fnAccountsRow.holds Try.pinned (OpenSpec.ofChange fnAccountsWrong)

/-- 'laws.FnExactInterestIn': WHATEVER THE INPUT: true; the input reads as it did. -/
def fnExactInterestInSpec : ChangeSpec := { name := "fnExactInterestIn", fn := fun _ => fun
  | [d1, d2, d3] => { results := [.lit (.bool true)], args := [d1, d2, d3] }
  | _ => none }
def fnExactInterestInRow : OpenClaim := { program := "ytjiinkbjmamdmaa", sum := "fc195d06de4d48e40c8d0ecc1e78ed4019fe3302e6caf06887364ab05f2dea4c", func := "loop.example/g00980/laws.FnExactInterestIn", spec := "fnExactInterestIn", unfollowed := true, recurses := true, apart := false }
def FnExactInterestInSaid : Prop := fnExactInterestInRow.holds Try.pinned (OpenSpec.ofChange fnExactInterestInSpec)

/-- ITS FALSE NEIGHBOUR: 'it returns false'. Refute it at one input. -/
def fnExactInterestInWrong : ChangeSpec := { name := "fnExactInterestIn", fn := fun _ => fun
  | [d1, d2, d3] => { results := [.lit (.bool false)], args := [d1, d2, d3] }
  | _ => none }
def FnExactInterestInWrongFalsely : Prop := fnExactInterestInRow.holds Try.pinned (OpenSpec.ofChange fnExactInterestInWrong)

/-- 'laws.FnExactFirstArrears': WHATEVER THE INPUT: true; the input reads as it did. -/
def fnExactFirstArrearsSpec : ChangeSpec := { name := "fnExactFirstArrears", fn := fun _ => fun
  | [d1, d2, d3] => { results := [.lit (.bool true)], args := [d1, d2, d3] }
  | _ => none }
def fnExactFirstArrearsRow : OpenClaim := { program := "ytjiinkbjmamdmaa", sum := "fc195d06de4d48e40c8d0ecc1e78ed4019fe3302e6caf06887364ab05f2dea4c", func := "loop.example/g00980/laws.FnExactFirstArrears", spec := "fnExactFirstArrears", unfollowed := true, recurses := true, apart := false }
def FnExactFirstArrearsSaid : Prop := fnExactFirstArrearsRow.holds Try.pinned (OpenSpec.ofChange fnExactFirstArrearsSpec)

/-- ITS FALSE NEIGHBOUR: 'it returns false'. Refute it at one input. -/
def fnExactFirstArrearsWrong : ChangeSpec := { name := "fnExactFirstArrears", fn := fun _ => fun
  | [d1, d2, d3] => { results := [.lit (.bool false)], args := [d1, d2, d3] }
  | _ => none }
def FnExactFirstArrearsWrongFalsely : Prop := fnExactFirstArrearsRow.holds Try.pinned (OpenSpec.ofChange fnExactFirstArrearsWrong)

/-- 'laws.FnExactRunAccount': WHATEVER THE INPUT: true; the input reads as it did. -/
def fnExactRunAccountSpec : ChangeSpec := { name := "fnExactRunAccount", fn := fun _ => fun
  | [d1, d2, d3] => { results := [.lit (.bool true)], args := [d1, d2, d3] }
  | _ => none }
def fnExactRunAccountRow : OpenClaim := { program := "ytjiinkbjmamdmaa", sum := "fc195d06de4d48e40c8d0ecc1e78ed4019fe3302e6caf06887364ab05f2dea4c", func := "loop.example/g00980/laws.FnExactRunAccount", spec := "fnExactRunAccount", unfollowed := true, recurses := true, apart := false }
def FnExactRunAccountSaid : Prop := fnExactRunAccountRow.holds Try.pinned (OpenSpec.ofChange fnExactRunAccountSpec)

/-- ITS FALSE NEIGHBOUR: 'it returns false'. Refute it at one input. -/
def fnExactRunAccountWrong : ChangeSpec := { name := "fnExactRunAccount", fn := fun _ => fun
  | [d1, d2, d3] => { results := [.lit (.bool false)], args := [d1, d2, d3] }
  | _ => none }
def FnExactRunAccountWrongFalsely : Prop := fnExactRunAccountRow.holds Try.pinned (OpenSpec.ofChange fnExactRunAccountWrong)

/-- 'laws.FnSettled': WHATEVER THE INPUT: true; the input reads as it did. -/
def fnSettledSpec : ChangeSpec := { name := "fnSettled", fn := fun _ => fun
  | [d] => { results := [.lit (.bool true)], args := [d] }
  | _ => none }
def fnSettledRow : OpenClaim := { program := "ytjiinkbjmamdmaa", sum := "fc195d06de4d48e40c8d0ecc1e78ed4019fe3302e6caf06887364ab05f2dea4c", func := "loop.example/g00980/laws.FnSettled", spec := "fnSettled", unfollowed := true, recurses := true, apart := false }
def FnSettledSaid : Prop := fnSettledRow.holds Try.pinned (OpenSpec.ofChange fnSettledSpec)

/-- ITS FALSE NEIGHBOUR: 'it returns false'. Refute it at one input. -/
def fnSettledWrong : ChangeSpec := { name := "fnSettled", fn := fun _ => fun
  | [d] => { results := [.lit (.bool false)], args := [d] }
  | _ => none }
def FnSettledWrongFalsely : Prop := fnSettledRow.holds Try.pinned (OpenSpec.ofChange fnSettledWrong)

/-- 'laws.FnUnits': WHATEVER THE INPUT: true; the input reads as it did. -/
def fnUnitsSpec : ChangeSpec := { name := "fnUnits", fn := fun _ => fun
  | [d] => { results := [.lit (.bool true)], args := [d] }
  | _ => none }
def fnUnitsRow : OpenClaim := { program := "ytjiinkbjmamdmaa", sum := "fc195d06de4d48e40c8d0ecc1e78ed4019fe3302e6caf06887364ab05f2dea4c", func := "loop.example/g00980/laws.FnUnits", spec := "fnUnits", apart := false }
def FnUnitsSaid : Prop := fnUnitsRow.holds Try.pinned (OpenSpec.ofChange fnUnitsSpec)

/-- ITS FALSE NEIGHBOUR: 'it returns false'. Refute it at one input. -/
def fnUnitsWrong : ChangeSpec := { name := "fnUnits", fn := fun _ => fun
  | [d] => { results := [.lit (.bool false)], args := [d] }
  | _ => none }
def FnUnitsWrongFalsely : Prop := fnUnitsRow.holds Try.pinned (OpenSpec.ofChange fnUnitsWrong)

/-- 'laws.FnAccruals': WHATEVER THE INPUT: true; the input reads as it did. -/
def fnAccrualsSpec : ChangeSpec := { name := "fnAccruals", fn := fun _ => fun
  | [d] => { results := [.lit (.bool true)], args := [d] }
  | _ => none }
def fnAccrualsRow : OpenClaim := { program := "ytjiinkbjmamdmaa", sum := "fc195d06de4d48e40c8d0ecc1e78ed4019fe3302e6caf06887364ab05f2dea4c", func := "loop.example/g00980/laws.FnAccruals", spec := "fnAccruals", apart := false }
def FnAccrualsSaid : Prop := fnAccrualsRow.holds Try.pinned (OpenSpec.ofChange fnAccrualsSpec)

/-- ITS FALSE NEIGHBOUR: 'it returns false'. Refute it at one input. -/
def fnAccrualsWrong : ChangeSpec := { name := "fnAccruals", fn := fun _ => fun
  | [d] => { results := [.lit (.bool false)], args := [d] }
  | _ => none }
def FnAccrualsWrongFalsely : Prop := fnAccrualsRow.holds Try.pinned (OpenSpec.ofChange fnAccrualsWrong)

/-- 'laws.FnExactAccrued': WHATEVER THE INPUT: true; the input reads as it did. -/
def fnExactAccruedSpec : ChangeSpec := { name := "fnExactAccrued", fn := fun _ => fun
  | [d1, d2, d3] => { results := [.lit (.bool true)], args := [d1, d2, d3] }
  | _ => none }
def fnExactAccruedRow : OpenClaim := { program := "ytjiinkbjmamdmaa", sum := "fc195d06de4d48e40c8d0ecc1e78ed4019fe3302e6caf06887364ab05f2dea4c", func := "loop.example/g00980/laws.FnExactAccrued", spec := "fnExactAccrued", apart := false }
def FnExactAccruedSaid : Prop := fnExactAccruedRow.holds Try.pinned (OpenSpec.ofChange fnExactAccruedSpec)

/-- ITS FALSE NEIGHBOUR: 'it returns false'. Refute it at one input. -/
def fnExactAccruedWrong : ChangeSpec := { name := "fnExactAccrued", fn := fun _ => fun
  | [d1, d2, d3] => { results := [.lit (.bool false)], args := [d1, d2, d3] }
  | _ => none }
def FnExactAccruedWrongFalsely : Prop := fnExactAccruedRow.holds Try.pinned (OpenSpec.ofChange fnExactAccruedWrong)

/-- 'laws.FnExactUnitPension': WHATEVER THE INPUT: true; the input reads as it did. -/
def fnExactUnitPensionSpec : ChangeSpec := { name := "fnExactUnitPension", fn := fun _ => fun
  | [d1, d2] => { results := [.lit (.bool true)], args := [d1, d2] }
  | _ => none }
def fnExactUnitPensionRow : OpenClaim := { program := "ytjiinkbjmamdmaa", sum := "fc195d06de4d48e40c8d0ecc1e78ed4019fe3302e6caf06887364ab05f2dea4c", func := "loop.example/g00980/laws.FnExactUnitPension", spec := "fnExactUnitPension", apart := false }
def FnExactUnitPensionSaid : Prop := fnExactUnitPensionRow.holds Try.pinned (OpenSpec.ofChange fnExactUnitPensionSpec)

/-- ITS FALSE NEIGHBOUR: 'it returns false'. Refute it at one input. -/
def fnExactUnitPensionWrong : ChangeSpec := { name := "fnExactUnitPension", fn := fun _ => fun
  | [d1, d2] => { results := [.lit (.bool false)], args := [d1, d2] }
  | _ => none }
def FnExactUnitPensionWrongFalsely : Prop := fnExactUnitPensionRow.holds Try.pinned (OpenSpec.ofChange fnExactUnitPensionWrong)

/- THE SECOND FORM. 'bulk': how many values and letters a reading holds, each counted each time it is reached (what is shared counts as often as it is met; a slice's spare places count too). A statement '..UptoSaid' is the law's where the arguments, and the package variables that the reading takes, are together of bulk at most 1048576: NARROWER than '..Said'. Prove '..Said' where nothing that the law and all that it calls make is longer than what came in: it says more and counts as full. Else prove '..UptoSaid'. A law counts once. -/
mutual
def uptoBulk {H : Type} : DataW H → Nat
  | .lit (.string bytes) => bytes.length + 1
  | .lit _ => 1
  | .nil => 1
  | .ptr d => uptoBulk d + 1
  | .slice elems spare => uptoBulkAll elems + uptoBulkAll spare + 1
  | .agg parts => uptoBulkAll parts + 1
  | .iface _ d => uptoBulk d + 1
  | .map entries => uptoBulkEntries entries + 1
  | .held _ => 1
def uptoBulkAll {H : Type} : List (DataW H) → Nat
  | [] => 0
  | d :: r => uptoBulk d + uptoBulkAll r
def uptoBulkEntries {H : Type} : List (Lit × DataW H) → Nat
  | [] => 0
  | x :: r => uptoBulkEntry x + uptoBulkEntries r
def uptoBulkEntry {H : Type} : Lit × DataW H → Nat
  | (.string bytes, d) => bytes.length + uptoBulk d + 1
  | (_, d) => uptoBulk d + 1
 end
def uptoSmall : (H : Type) → List (DataW H) → Bool := fun _ ds => decide (uptoBulkAll ds ≤ 1048576)
def OpenSpec.upto (s : _root_.Go.ChangeSpec) : _root_.Go.OpenSpec := { _root_.Go.OpenSpec.ofChange s with cond := some uptoSmall }

/-- 'laws.FnExactDueFor', WHERE WHAT IT READS IS OF BULK AT MOST 1048576: true; the input reads as it did. -/
def fnExactDueForUptoRow : OpenClaim := { program := "ytjiinkbjmamdmaa", sum := "fc195d06de4d48e40c8d0ecc1e78ed4019fe3302e6caf06887364ab05f2dea4c", func := "loop.example/g00980/laws.FnExactDueFor", spec := "fnExactDueFor", apart := false, narrowed := true }
def FnExactDueForUptoSaid : Prop := fnExactDueForUptoRow.holds Try.pinned (OpenSpec.upto fnExactDueForSpec)

/-- 'laws.FnExactDesignOk', WHERE WHAT IT READS IS OF BULK AT MOST 1048576: true; the input reads as it did. -/
def fnExactDesignOkUptoRow : OpenClaim := { program := "ytjiinkbjmamdmaa", sum := "fc195d06de4d48e40c8d0ecc1e78ed4019fe3302e6caf06887364ab05f2dea4c", func := "loop.example/g00980/laws.FnExactDesignOk", spec := "fnExactDesignOk", apart := false, narrowed := true }
def FnExactDesignOkUptoSaid : Prop := fnExactDesignOkUptoRow.holds Try.pinned (OpenSpec.upto fnExactDesignOkSpec)

/-- 'laws.FnExactGrowAccount', WHERE WHAT IT READS IS OF BULK AT MOST 1048576: true; the input reads as it did. -/
def fnExactGrowAccountUptoRow : OpenClaim := { program := "ytjiinkbjmamdmaa", sum := "fc195d06de4d48e40c8d0ecc1e78ed4019fe3302e6caf06887364ab05f2dea4c", func := "loop.example/g00980/laws.FnExactGrowAccount", spec := "fnExactGrowAccount", apart := false, narrowed := true }
def FnExactGrowAccountUptoSaid : Prop := fnExactGrowAccountUptoRow.holds Try.pinned (OpenSpec.upto fnExactGrowAccountSpec)

/-- 'laws.FnExactSettleBy', WHERE WHAT IT READS IS OF BULK AT MOST 1048576: true; the input reads as it did. -/
def fnExactSettleByUptoRow : OpenClaim := { program := "ytjiinkbjmamdmaa", sum := "fc195d06de4d48e40c8d0ecc1e78ed4019fe3302e6caf06887364ab05f2dea4c", func := "loop.example/g00980/laws.FnExactSettleBy", spec := "fnExactSettleBy", unfollowed := true, recurses := true, apart := false, narrowed := true }
def FnExactSettleByUptoSaid : Prop := fnExactSettleByUptoRow.holds Try.pinned (OpenSpec.upto fnExactSettleBySpec)

/-- 'laws.FnGrowing', WHERE WHAT IT READS IS OF BULK AT MOST 1048576: true; the input reads as it did. -/
def fnGrowingUptoRow : OpenClaim := { program := "ytjiinkbjmamdmaa", sum := "fc195d06de4d48e40c8d0ecc1e78ed4019fe3302e6caf06887364ab05f2dea4c", func := "loop.example/g00980/laws.FnGrowing", spec := "fnGrowing", apart := false, narrowed := true }
def FnGrowingUptoSaid : Prop := fnGrowingUptoRow.holds Try.pinned (OpenSpec.upto fnGrowingSpec)

/-- 'laws.FnExactUnitsFor', WHERE WHAT IT READS IS OF BULK AT MOST 1048576: true; the input reads as it did. -/
def fnExactUnitsForUptoRow : OpenClaim := { program := "ytjiinkbjmamdmaa", sum := "fc195d06de4d48e40c8d0ecc1e78ed4019fe3302e6caf06887364ab05f2dea4c", func := "loop.example/g00980/laws.FnExactUnitsFor", spec := "fnExactUnitsFor", apart := false, narrowed := true }
def FnExactUnitsForUptoSaid : Prop := fnExactUnitsForUptoRow.holds Try.pinned (OpenSpec.upto fnExactUnitsForSpec)

/-- 'laws.FnAccounts', WHERE WHAT IT READS IS OF BULK AT MOST 1048576: true; the input reads as it did. -/
def fnAccountsUptoRow : OpenClaim := { program := "ytjiinkbjmamdmaa", sum := "fc195d06de4d48e40c8d0ecc1e78ed4019fe3302e6caf06887364ab05f2dea4c", func := "loop.example/g00980/laws.FnAccounts", spec := "fnAccounts", unfollowed := true, recurses := true, apart := false, narrowed := true }
def FnAccountsUptoSaid : Prop := fnAccountsUptoRow.holds Try.pinned (OpenSpec.upto fnAccountsSpec)

/-- 'laws.FnExactInterestIn', WHERE WHAT IT READS IS OF BULK AT MOST 1048576: true; the input reads as it did. -/
def fnExactInterestInUptoRow : OpenClaim := { program := "ytjiinkbjmamdmaa", sum := "fc195d06de4d48e40c8d0ecc1e78ed4019fe3302e6caf06887364ab05f2dea4c", func := "loop.example/g00980/laws.FnExactInterestIn", spec := "fnExactInterestIn", unfollowed := true, recurses := true, apart := false, narrowed := true }
def FnExactInterestInUptoSaid : Prop := fnExactInterestInUptoRow.holds Try.pinned (OpenSpec.upto fnExactInterestInSpec)

/-- 'laws.FnExactFirstArrears', WHERE WHAT IT READS IS OF BULK AT MOST 1048576: true; the input reads as it did. -/
def fnExactFirstArrearsUptoRow : OpenClaim := { program := "ytjiinkbjmamdmaa", sum := "fc195d06de4d48e40c8d0ecc1e78ed4019fe3302e6caf06887364ab05f2dea4c", func := "loop.example/g00980/laws.FnExactFirstArrears", spec := "fnExactFirstArrears", unfollowed := true, recurses := true, apart := false, narrowed := true }
def FnExactFirstArrearsUptoSaid : Prop := fnExactFirstArrearsUptoRow.holds Try.pinned (OpenSpec.upto fnExactFirstArrearsSpec)

/-- 'laws.FnExactRunAccount', WHERE WHAT IT READS IS OF BULK AT MOST 1048576: true; the input reads as it did. -/
def fnExactRunAccountUptoRow : OpenClaim := { program := "ytjiinkbjmamdmaa", sum := "fc195d06de4d48e40c8d0ecc1e78ed4019fe3302e6caf06887364ab05f2dea4c", func := "loop.example/g00980/laws.FnExactRunAccount", spec := "fnExactRunAccount", unfollowed := true, recurses := true, apart := false, narrowed := true }
def FnExactRunAccountUptoSaid : Prop := fnExactRunAccountUptoRow.holds Try.pinned (OpenSpec.upto fnExactRunAccountSpec)

/-- 'laws.FnSettled', WHERE WHAT IT READS IS OF BULK AT MOST 1048576: true; the input reads as it did. -/
def fnSettledUptoRow : OpenClaim := { program := "ytjiinkbjmamdmaa", sum := "fc195d06de4d48e40c8d0ecc1e78ed4019fe3302e6caf06887364ab05f2dea4c", func := "loop.example/g00980/laws.FnSettled", spec := "fnSettled", unfollowed := true, recurses := true, apart := false, narrowed := true }
def FnSettledUptoSaid : Prop := fnSettledUptoRow.holds Try.pinned (OpenSpec.upto fnSettledSpec)

/-- 'laws.FnUnits', WHERE WHAT IT READS IS OF BULK AT MOST 1048576: true; the input reads as it did. -/
def fnUnitsUptoRow : OpenClaim := { program := "ytjiinkbjmamdmaa", sum := "fc195d06de4d48e40c8d0ecc1e78ed4019fe3302e6caf06887364ab05f2dea4c", func := "loop.example/g00980/laws.FnUnits", spec := "fnUnits", apart := false, narrowed := true }
def FnUnitsUptoSaid : Prop := fnUnitsUptoRow.holds Try.pinned (OpenSpec.upto fnUnitsSpec)

/-- 'laws.FnAccruals', WHERE WHAT IT READS IS OF BULK AT MOST 1048576: true; the input reads as it did. -/
def fnAccrualsUptoRow : OpenClaim := { program := "ytjiinkbjmamdmaa", sum := "fc195d06de4d48e40c8d0ecc1e78ed4019fe3302e6caf06887364ab05f2dea4c", func := "loop.example/g00980/laws.FnAccruals", spec := "fnAccruals", apart := false, narrowed := true }
def FnAccrualsUptoSaid : Prop := fnAccrualsUptoRow.holds Try.pinned (OpenSpec.upto fnAccrualsSpec)

/-- 'laws.FnExactAccrued', WHERE WHAT IT READS IS OF BULK AT MOST 1048576: true; the input reads as it did. -/
def fnExactAccruedUptoRow : OpenClaim := { program := "ytjiinkbjmamdmaa", sum := "fc195d06de4d48e40c8d0ecc1e78ed4019fe3302e6caf06887364ab05f2dea4c", func := "loop.example/g00980/laws.FnExactAccrued", spec := "fnExactAccrued", apart := false, narrowed := true }
def FnExactAccruedUptoSaid : Prop := fnExactAccruedUptoRow.holds Try.pinned (OpenSpec.upto fnExactAccruedSpec)

/-- 'laws.FnExactUnitPension', WHERE WHAT IT READS IS OF BULK AT MOST 1048576: true; the input reads as it did. -/
def fnExactUnitPensionUptoRow : OpenClaim := { program := "ytjiinkbjmamdmaa", sum := "fc195d06de4d48e40c8d0ecc1e78ed4019fe3302e6caf06887364ab05f2dea4c", func := "loop.example/g00980/laws.FnExactUnitPension", spec := "fnExactUnitPension", apart := false, narrowed := true }
def FnExactUnitPensionUptoSaid : Prop := fnExactUnitPensionUptoRow.holds Try.pinned (OpenSpec.upto fnExactUnitPensionSpec)

end Rows
end Go.Proofs.Ytjiinkbjmamdmaa
