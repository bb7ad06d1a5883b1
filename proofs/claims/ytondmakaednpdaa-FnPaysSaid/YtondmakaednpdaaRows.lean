/-
  No cell of these rows narrows 'for every input' (looked for: loops, veiled, ifaces, maps, wideKeys, modest, calm, conditions, laid).
  DERIVED. THE GIVEN ROWS OF THIS SEAT. 8 by the template 'for every input the law returns true; each argument reads behind the call as it read before'; 0 by the template 'total and deterministic' (their statements: YtondmakaednpdaaTotals.lean).
  GIVEN WITH THE SEED: the statements are not yours to turn. If you find one false, say at which input.
  Laid BY PROGRAM, IN A SANDBOX (cutbox-rows.mjs): the forced cells as the released guide's own fill.sh prints them over the translation 080ece8f23a7c745… (all of the seat's roots in one cut). By AI agents, Wed Nov 11 2026. No macro, syntax, notation, axiom, sorry.
-/
import Derived.Test.YtondmakaednpdaaChecked
import GoSem.Claim
import GoSem.ClaimJoined
import GoSem.ClaimMapViews
import Derived.JoinedTies
import Derived.KernelRfl
namespace Go.Proofs.Ytondmakaednpdaa
/- THE CELL 'sum', in the pinned program and in every row, IS THE sha256 OF THE DUMP (.gsa) THAT YtondmakaednpdaaProg.lean LOADS. Nothing in Lean hashes anything: it is a label: what it is worth is what the hold of that sum in a sandbox is worth. -/
noncomputable def Try.pinned : Pinned := { name := "ytondmakaednpdaa", sum := "080ece8f23a7c7454b28dc2da71cabd94a78e120cc4a18fcec91d30b54d85c31", checked := Try.checked }
namespace Rows
def none {H : Type} : Left H := { results := [], args := [] }

/-- 'laws.FnLastPay': WHATEVER THE INPUT: true; the input reads as it did. -/
def fnLastPaySpec : ChangeSpec := { name := "fnLastPay", fn := fun _ => fun
  | [d] => { results := [.lit (.bool true)], args := [d] }
  | _ => none }
def fnLastPayRow : OpenClaim := { program := "ytondmakaednpdaa", sum := "080ece8f23a7c7454b28dc2da71cabd94a78e120cc4a18fcec91d30b54d85c31", func := "loop.example/g00980/laws.FnLastPay", spec := "fnLastPay", unfollowed := true, recurses := true, apart := false }
def FnLastPaySaid : Prop := fnLastPayRow.holds Try.pinned (OpenSpec.ofChange fnLastPaySpec)

/-- ITS FALSE NEIGHBOUR: 'it returns false'. Refute it at one input. -/
def fnLastPayWrong : ChangeSpec := { name := "fnLastPay", fn := fun _ => fun
  | [d] => { results := [.lit (.bool false)], args := [d] }
  | _ => none }
def FnLastPayWrongFalsely : Prop := fnLastPayRow.holds Try.pinned (OpenSpec.ofChange fnLastPayWrong)

/-- 'laws.FnExactFinalPay': WHATEVER THE INPUT: true; the input reads as it did. -/
def fnExactFinalPaySpec : ChangeSpec := { name := "fnExactFinalPay", fn := fun _ => fun
  | [d1, d2, d3] => { results := [.lit (.bool true)], args := [d1, d2, d3] }
  | _ => none }
def fnExactFinalPayRow : OpenClaim := { program := "ytondmakaednpdaa", sum := "080ece8f23a7c7454b28dc2da71cabd94a78e120cc4a18fcec91d30b54d85c31", func := "loop.example/g00980/laws.FnExactFinalPay", spec := "fnExactFinalPay", unfollowed := true, recurses := true, apart := false }
def FnExactFinalPaySaid : Prop := fnExactFinalPayRow.holds Try.pinned (OpenSpec.ofChange fnExactFinalPaySpec)

/-- ITS FALSE NEIGHBOUR: 'it returns false'. Refute it at one input. -/
def fnExactFinalPayWrong : ChangeSpec := { name := "fnExactFinalPay", fn := fun _ => fun
  | [d1, d2, d3] => { results := [.lit (.bool false)], args := [d1, d2, d3] }
  | _ => none }
def FnExactFinalPayWrongFalsely : Prop := fnExactFinalPayRow.holds Try.pinned (OpenSpec.ofChange fnExactFinalPayWrong)

/-- 'laws.FnRevalued': WHATEVER THE INPUT: true; the input reads as it did. -/
def fnRevaluedSpec : ChangeSpec := { name := "fnRevalued", fn := fun _ => fun
  | [d] => { results := [.lit (.bool true)], args := [d] }
  | _ => none }
def fnRevaluedRow : OpenClaim := { program := "ytondmakaednpdaa", sum := "080ece8f23a7c7454b28dc2da71cabd94a78e120cc4a18fcec91d30b54d85c31", func := "loop.example/g00980/laws.FnRevalued", spec := "fnRevalued", unfollowed := true, recurses := true, apart := false }
def FnRevaluedSaid : Prop := fnRevaluedRow.holds Try.pinned (OpenSpec.ofChange fnRevaluedSpec)

/-- ITS FALSE NEIGHBOUR: 'it returns false'. Refute it at one input. -/
def fnRevaluedWrong : ChangeSpec := { name := "fnRevalued", fn := fun _ => fun
  | [d] => { results := [.lit (.bool false)], args := [d] }
  | _ => none }
def FnRevaluedWrongFalsely : Prop := fnRevaluedRow.holds Try.pinned (OpenSpec.ofChange fnRevaluedWrong)

/-- 'laws.FnAverages': WHATEVER THE INPUT: true; the input reads as it did. -/
def fnAveragesSpec : ChangeSpec := { name := "fnAverages", fn := fun _ => fun
  | [d] => { results := [.lit (.bool true)], args := [d] }
  | _ => none }
def fnAveragesRow : OpenClaim := { program := "ytondmakaednpdaa", sum := "080ece8f23a7c7454b28dc2da71cabd94a78e120cc4a18fcec91d30b54d85c31", func := "loop.example/g00980/laws.FnAverages", spec := "fnAverages", unfollowed := true, recurses := true, apart := false }
def FnAveragesSaid : Prop := fnAveragesRow.holds Try.pinned (OpenSpec.ofChange fnAveragesSpec)

/-- ITS FALSE NEIGHBOUR: 'it returns false'. Refute it at one input. -/
def fnAveragesWrong : ChangeSpec := { name := "fnAverages", fn := fun _ => fun
  | [d] => { results := [.lit (.bool false)], args := [d] }
  | _ => none }
def FnAveragesWrongFalsely : Prop := fnAveragesRow.holds Try.pinned (OpenSpec.ofChange fnAveragesWrong)

/-- 'laws.FnExactAveragePay': WHATEVER THE INPUT: true; the input reads as it did. -/
def fnExactAveragePaySpec : ChangeSpec := { name := "fnExactAveragePay", fn := fun _ => fun
  | [d1, d2, d3, d4] => { results := [.lit (.bool true)], args := [d1, d2, d3, d4] }
  | _ => none }
def fnExactAveragePayRow : OpenClaim := { program := "ytondmakaednpdaa", sum := "080ece8f23a7c7454b28dc2da71cabd94a78e120cc4a18fcec91d30b54d85c31", func := "loop.example/g00980/laws.FnExactAveragePay", spec := "fnExactAveragePay", unfollowed := true, recurses := true, apart := false }
def FnExactAveragePaySaid : Prop := fnExactAveragePayRow.holds Try.pinned (OpenSpec.ofChange fnExactAveragePaySpec)

/-- ITS FALSE NEIGHBOUR: 'it returns false'. Refute it at one input. -/
def fnExactAveragePayWrong : ChangeSpec := { name := "fnExactAveragePay", fn := fun _ => fun
  | [d1, d2, d3, d4] => { results := [.lit (.bool false)], args := [d1, d2, d3, d4] }
  | _ => none }
def FnExactAveragePayWrongFalsely : Prop := fnExactAveragePayRow.holds Try.pinned (OpenSpec.ofChange fnExactAveragePayWrong)

/-- 'laws.FnPays': WHATEVER THE INPUT: true; the input reads as it did. -/
def fnPaysSpec : ChangeSpec := { name := "fnPays", fn := fun _ => fun
  | [d] => { results := [.lit (.bool true)], args := [d] }
  | _ => none }
def fnPaysRow : OpenClaim := { program := "ytondmakaednpdaa", sum := "080ece8f23a7c7454b28dc2da71cabd94a78e120cc4a18fcec91d30b54d85c31", func := "loop.example/g00980/laws.FnPays", spec := "fnPays", unfollowed := true, recurses := true, apart := false }
def FnPaysSaid : Prop := fnPaysRow.holds Try.pinned (OpenSpec.ofChange fnPaysSpec)

/-- ITS FALSE NEIGHBOUR: 'it returns false'. Refute it at one input. -/
def fnPaysWrong : ChangeSpec := { name := "fnPays", fn := fun _ => fun
  | [d] => { results := [.lit (.bool false)], args := [d] }
  | _ => none }
def FnPaysWrongFalsely : Prop := fnPaysRow.holds Try.pinned (OpenSpec.ofChange fnPaysWrong)

/-- 'laws.FnExactRevaluedPay': WHATEVER THE INPUT: true; the input reads as it did. -/
def fnExactRevaluedPaySpec : ChangeSpec := { name := "fnExactRevaluedPay", fn := fun _ => fun
  | [d1, d2, d3, d4, d5] => { results := [.lit (.bool true)], args := [d1, d2, d3, d4, d5] }
  | _ => none }
def fnExactRevaluedPayRow : OpenClaim := { program := "ytondmakaednpdaa", sum := "080ece8f23a7c7454b28dc2da71cabd94a78e120cc4a18fcec91d30b54d85c31", func := "loop.example/g00980/laws.FnExactRevaluedPay", spec := "fnExactRevaluedPay", unfollowed := true, recurses := true, apart := false }
def FnExactRevaluedPaySaid : Prop := fnExactRevaluedPayRow.holds Try.pinned (OpenSpec.ofChange fnExactRevaluedPaySpec)

/-- ITS FALSE NEIGHBOUR: 'it returns false'. Refute it at one input. -/
def fnExactRevaluedPayWrong : ChangeSpec := { name := "fnExactRevaluedPay", fn := fun _ => fun
  | [d1, d2, d3, d4, d5] => { results := [.lit (.bool false)], args := [d1, d2, d3, d4, d5] }
  | _ => none }
def FnExactRevaluedPayWrongFalsely : Prop := fnExactRevaluedPayRow.holds Try.pinned (OpenSpec.ofChange fnExactRevaluedPayWrong)

/-- 'laws.FnExactBestPay': WHATEVER THE INPUT: true; the input reads as it did. -/
def fnExactBestPaySpec : ChangeSpec := { name := "fnExactBestPay", fn := fun _ => fun
  | [d1, d2, d3, d4, d5] => { results := [.lit (.bool true)], args := [d1, d2, d3, d4, d5] }
  | _ => none }
def fnExactBestPayRow : OpenClaim := { program := "ytondmakaednpdaa", sum := "080ece8f23a7c7454b28dc2da71cabd94a78e120cc4a18fcec91d30b54d85c31", func := "loop.example/g00980/laws.FnExactBestPay", spec := "fnExactBestPay", unfollowed := true, recurses := true, apart := false }
def FnExactBestPaySaid : Prop := fnExactBestPayRow.holds Try.pinned (OpenSpec.ofChange fnExactBestPaySpec)

/-- ITS FALSE NEIGHBOUR: 'it returns false'. Refute it at one input. -/
def fnExactBestPayWrong : ChangeSpec := { name := "fnExactBestPay", fn := fun _ => fun
  | [d1, d2, d3, d4, d5] => { results := [.lit (.bool false)], args := [d1, d2, d3, d4, d5] }
  | _ => none }
def FnExactBestPayWrongFalsely : Prop := fnExactBestPayRow.holds Try.pinned (OpenSpec.ofChange fnExactBestPayWrong)

/- THE SECOND FORM. 'bulk': how many values and letters a reading holds, each counted each time it is reached (what is shared counts as often as it is met; a slice's spare places count too). A statement '..UptoSaid' is the law's where the arguments, and the package variables that the reading takes, are together of bulk at most 1048576: NARROWER than '..Said'. Prove '..Said' where nothing that the law and all that it calls make is longer than what came in: it says more and counts as full. Else prove '..UptoSaid'. A law counts once. -/
mutual
def uptoBulk {H : Type} : DataW H → Nat
  | .lit (.string bytes) => bytes.length + 1
  | .lit _ => 1
  | .nil => 1
  | .ptr d => uptoBulk d + 1
  | .slice elems spare => uptoBulkAll elems + uptoBulkAll spare + 1
  | .agg parts => uptoBulkAll parts + 1
  | .iface _ d => uptoBulk d + 1
  | .map entries => uptoBulkEntries entries + 1
  | .held _ => 1
def uptoBulkAll {H : Type} : List (DataW H) → Nat
  | [] => 0
  | d :: r => uptoBulk d + uptoBulkAll r
def uptoBulkEntries {H : Type} : List (Lit × DataW H) → Nat
  | [] => 0
  | x :: r => uptoBulkEntry x + uptoBulkEntries r
def uptoBulkEntry {H : Type} : Lit × DataW H → Nat
  | (.string bytes, d) => bytes.length + uptoBulk d + 1
  | (_, d) => uptoBulk d + 1
 end
def uptoSmall : (H : Type) → List (DataW H) → Bool := fun _ ds => decide (uptoBulkAll ds ≤ 1048576)
def OpenSpec.upto (s : _root_.Go.ChangeSpec) : _root_.Go.OpenSpec := { _root_.Go.OpenSpec.ofChange s with cond := some uptoSmall }

/-- 'laws.FnLastPay', WHERE WHAT IT READS IS OF BULK AT MOST 1048576: true; the input reads as it did. -/
def fnLastPayUptoRow : OpenClaim := { program := "ytondmakaednpdaa", sum := "080ece8f23a7c7454b28dc2da71cabd94a78e120cc4a18fcec91d30b54d85c31", func := "loop.example/g00980/laws.FnLastPay", spec := "fnLastPay", unfollowed := true, recurses := true, apart := false, narrowed := true }
def FnLastPayUptoSaid : Prop := fnLastPayUptoRow.holds Try.pinned (OpenSpec.upto fnLastPaySpec)

/-- 'laws.FnExactFinalPay', WHERE WHAT IT READS IS OF BULK AT MOST 1048576: true; the input reads as it did. -/
def fnExactFinalPayUptoRow : OpenClaim := { program := "ytondmakaednpdaa", sum := "080ece8f23a7c7454b28dc2da71cabd94a78e120cc4a18fcec91d30b54d85c31", func := "loop.example/g00980/laws.FnExactFinalPay", spec := "fnExactFinalPay", unfollowed := true, recurses := true, apart := false, narrowed := true }
def FnExactFinalPayUptoSaid : Prop := fnExactFinalPayUptoRow.holds Try.pinned (OpenSpec.upto fnExactFinalPaySpec)

/-- 'laws.FnRevalued', WHERE WHAT IT READS IS OF BULK AT MOST 1048576: true; the input reads as it did. -/
def fnRevaluedUptoRow : OpenClaim := { program := "ytondmakaednpdaa", sum := "080ece8f23a7c7454b28dc2da71cabd94a78e120cc4a18fcec91d30b54d85c31", func := "loop.example/g00980/laws.FnRevalued", spec := "fnRevalued", unfollowed := true, recurses := true, apart := false, narrowed := true }
def FnRevaluedUptoSaid : Prop := fnRevaluedUptoRow.holds Try.pinned (OpenSpec.upto fnRevaluedSpec)

/-- 'laws.FnAverages', WHERE WHAT IT READS IS OF BULK AT MOST 1048576: true; the input reads as it did. -/
def fnAveragesUptoRow : OpenClaim := { program := "ytondmakaednpdaa", sum := "080ece8f23a7c7454b28dc2da71cabd94a78e120cc4a18fcec91d30b54d85c31", func := "loop.example/g00980/laws.FnAverages", spec := "fnAverages", unfollowed := true, recurses := true, apart := false, narrowed := true }
def FnAveragesUptoSaid : Prop := fnAveragesUptoRow.holds Try.pinned (OpenSpec.upto fnAveragesSpec)

/-- 'laws.FnExactAveragePay', WHERE WHAT IT READS IS OF BULK AT MOST 1048576: true; the input reads as it did. -/
def fnExactAveragePayUptoRow : OpenClaim := { program := "ytondmakaednpdaa", sum := "080ece8f23a7c7454b28dc2da71cabd94a78e120cc4a18fcec91d30b54d85c31", func := "loop.example/g00980/laws.FnExactAveragePay", spec := "fnExactAveragePay", unfollowed := true, recurses := true, apart := false, narrowed := true }
def FnExactAveragePayUptoSaid : Prop := fnExactAveragePayUptoRow.holds Try.pinned (OpenSpec.upto fnExactAveragePaySpec)

/-- 'laws.FnPays', WHERE WHAT IT READS IS OF BULK AT MOST 1048576: true; the input reads as it did. -/
def fnPaysUptoRow : OpenClaim := { program := "ytondmakaednpdaa", sum := "080ece8f23a7c7454b28dc2da71cabd94a78e120cc4a18fcec91d30b54d85c31", func := "loop.example/g00980/laws.FnPays", spec := "fnPays", unfollowed := true, recurses := true, apart := false, narrowed := true }
def FnPaysUptoSaid : Prop := fnPaysUptoRow.holds Try.pinned (OpenSpec.upto fnPaysSpec)

/-- 'laws.FnExactRevaluedPay', WHERE WHAT IT READS IS OF BULK AT MOST 1048576: true; the input reads as it did. -/
def fnExactRevaluedPayUptoRow : OpenClaim := { program := "ytondmakaednpdaa", sum := "080ece8f23a7c7454b28dc2da71cabd94a78e120cc4a18fcec91d30b54d85c31", func := "loop.example/g00980/laws.FnExactRevaluedPay", spec := "fnExactRevaluedPay", unfollowed := true, recurses := true, apart := false, narrowed := true }
def FnExactRevaluedPayUptoSaid : Prop := fnExactRevaluedPayUptoRow.holds Try.pinned (OpenSpec.upto fnExactRevaluedPaySpec)

/-- 'laws.FnExactBestPay', WHERE WHAT IT READS IS OF BULK AT MOST 1048576: true; the input reads as it did. -/
def fnExactBestPayUptoRow : OpenClaim := { program := "ytondmakaednpdaa", sum := "080ece8f23a7c7454b28dc2da71cabd94a78e120cc4a18fcec91d30b54d85c31", func := "loop.example/g00980/laws.FnExactBestPay", spec := "fnExactBestPay", unfollowed := true, recurses := true, apart := false, narrowed := true }
def FnExactBestPayUptoSaid : Prop := fnExactBestPayUptoRow.holds Try.pinned (OpenSpec.upto fnExactBestPaySpec)

end Rows
end Go.Proofs.Ytondmakaednpdaa
