/-
  No cell of these rows narrows 'for every input' (looked for: loops, veiled, ifaces, maps, wideKeys, modest, calm, conditions, laid).
  DERIVED. THE GIVEN ROWS OF THIS SEAT. 5 by the template 'for every input the law returns true; each argument reads behind the call as it read before'; 0 by the template 'total and deterministic' (their statements: YtdccdoodmiihbaaTotals.lean).
  GIVEN WITH THE SEED: the statements are not yours to turn. If you find one false, say at which input.
  Laid BY PROGRAM, IN A SANDBOX (cutbox-rows.mjs): the forced cells as the released guide's own fill.sh prints them over the translation 3cea2101f98dfabf… (all of the seat's roots in one cut). By AI agents, Wed Nov 11 2026. No macro, syntax, notation, axiom, sorry.
-/
import Derived.Test.YtdccdoodmiihbaaChecked
import GoSem.Claim
import GoSem.ClaimJoined
import GoSem.ClaimMapViews
import Derived.JoinedTies
import Derived.KernelRfl
namespace Go.Proofs.Ytdccdoodmiihbaa
/- THE CELL 'sum', in the pinned program and in every row, IS THE sha256 OF THE DUMP (.gsa) THAT YtdccdoodmiihbaaProg.lean LOADS. Nothing in Lean hashes anything: it is a label: what it is worth is what the hold of that sum in a sandbox is worth. -/
noncomputable def Try.pinned : Pinned := { name := "ytdccdoodmiihbaa", sum := "3cea2101f98dfabf987a64a26a6903fff7d90bcd97b3fe509b7ac208af753fbc", checked := Try.checked }
namespace Rows
def none {H : Type} : Left H := { results := [], args := [] }

/-- 'laws.FnExactFormulaSize': WHATEVER THE INPUT: true; the input reads as it did. -/
def fnExactFormulaSizeSpec : ChangeSpec := { name := "fnExactFormulaSize", fn := fun _ => fun
  | [d] => { results := [.lit (.bool true)], args := [d] }
  | _ => none }
def fnExactFormulaSizeRow : OpenClaim := { program := "ytdccdoodmiihbaa", sum := "3cea2101f98dfabf987a64a26a6903fff7d90bcd97b3fe509b7ac208af753fbc", func := "loop.example/g00980/laws.FnExactFormulaSize", spec := "fnExactFormulaSize", apart := false }
def FnExactFormulaSizeSaid : Prop := fnExactFormulaSizeRow.holds Try.pinned (OpenSpec.ofChange fnExactFormulaSizeSpec)

/-- ITS FALSE NEIGHBOUR: 'it returns false'. Refute it at one input. -/
def fnExactFormulaSizeWrong : ChangeSpec := { name := "fnExactFormulaSize", fn := fun _ => fun
  | [d] => { results := [.lit (.bool false)], args := [d] }
  | _ => none }
def FnExactFormulaSizeWrongFalsely : Prop := fnExactFormulaSizeRow.holds Try.pinned (OpenSpec.ofChange fnExactFormulaSizeWrong)

/-- 'laws.FnUnusedVars': WHATEVER THE INPUT: true; the input reads as it did. -/
def fnUnusedVarsSpec : ChangeSpec := { name := "fnUnusedVars", fn := fun _ => fun
  | [d] => { results := [.lit (.bool true)], args := [d] }
  | _ => none }
def fnUnusedVarsRow : OpenClaim := { program := "ytdccdoodmiihbaa", sum := "3cea2101f98dfabf987a64a26a6903fff7d90bcd97b3fe509b7ac208af753fbc", func := "loop.example/g00980/laws.FnUnusedVars", spec := "fnUnusedVars", unfollowed := true, recurses := true, apart := false }
def FnUnusedVarsSaid : Prop := fnUnusedVarsRow.holds Try.pinned (OpenSpec.ofChange fnUnusedVarsSpec)

/-- ITS FALSE NEIGHBOUR: 'it returns false'. Refute it at one input. -/
def fnUnusedVarsWrong : ChangeSpec := { name := "fnUnusedVars", fn := fun _ => fun
  | [d] => { results := [.lit (.bool false)], args := [d] }
  | _ => none }
def FnUnusedVarsWrongFalsely : Prop := fnUnusedVarsRow.holds Try.pinned (OpenSpec.ofChange fnUnusedVarsWrong)

/-- 'laws.FnDerived': WHATEVER THE INPUT: true; the input reads as it did. -/
def fnDerivedSpec : ChangeSpec := { name := "fnDerived", fn := fun _ => fun
  | [d] => { results := [.lit (.bool true)], args := [d] }
  | _ => none }
def fnDerivedRow : OpenClaim := { program := "ytdccdoodmiihbaa", sum := "3cea2101f98dfabf987a64a26a6903fff7d90bcd97b3fe509b7ac208af753fbc", func := "loop.example/g00980/laws.FnDerived", spec := "fnDerived", unfollowed := true, recurses := true, apart := false }
def FnDerivedSaid : Prop := fnDerivedRow.holds Try.pinned (OpenSpec.ofChange fnDerivedSpec)

/-- ITS FALSE NEIGHBOUR: 'it returns false'. Refute it at one input. -/
def fnDerivedWrong : ChangeSpec := { name := "fnDerived", fn := fun _ => fun
  | [d] => { results := [.lit (.bool false)], args := [d] }
  | _ => none }
def FnDerivedWrongFalsely : Prop := fnDerivedRow.holds Try.pinned (OpenSpec.ofChange fnDerivedWrong)

/-- 'laws.FnExactEval': WHATEVER THE INPUT: true; the input reads as it did. -/
def fnExactEvalSpec : ChangeSpec := { name := "fnExactEval", fn := fun _ => fun
  | [d1, d2] => { results := [.lit (.bool true)], args := [d1, d2] }
  | _ => none }
def fnExactEvalRow : OpenClaim := { program := "ytdccdoodmiihbaa", sum := "3cea2101f98dfabf987a64a26a6903fff7d90bcd97b3fe509b7ac208af753fbc", func := "loop.example/g00980/laws.FnExactEval", spec := "fnExactEval", unfollowed := true, recurses := true, apart := false }
def FnExactEvalSaid : Prop := fnExactEvalRow.holds Try.pinned (OpenSpec.ofChange fnExactEvalSpec)

/-- ITS FALSE NEIGHBOUR: 'it returns false'. Refute it at one input. -/
def fnExactEvalWrong : ChangeSpec := { name := "fnExactEval", fn := fun _ => fun
  | [d1, d2] => { results := [.lit (.bool false)], args := [d1, d2] }
  | _ => none }
def FnExactEvalWrongFalsely : Prop := fnExactEvalRow.holds Try.pinned (OpenSpec.ofChange fnExactEvalWrong)

/-- 'laws.FnExactEvalAll': WHATEVER THE INPUT: true; the input reads as it did. -/
def fnExactEvalAllSpec : ChangeSpec := { name := "fnExactEvalAll", fn := fun _ => fun
  | [d1, d2] => { results := [.lit (.bool true)], args := [d1, d2] }
  | _ => none }
def fnExactEvalAllRow : OpenClaim := { program := "ytdccdoodmiihbaa", sum := "3cea2101f98dfabf987a64a26a6903fff7d90bcd97b3fe509b7ac208af753fbc", func := "loop.example/g00980/laws.FnExactEvalAll", spec := "fnExactEvalAll", unfollowed := true, recurses := true, apart := false }
def FnExactEvalAllSaid : Prop := fnExactEvalAllRow.holds Try.pinned (OpenSpec.ofChange fnExactEvalAllSpec)

/-- ITS FALSE NEIGHBOUR: 'it returns false'. Refute it at one input. -/
def fnExactEvalAllWrong : ChangeSpec := { name := "fnExactEvalAll", fn := fun _ => fun
  | [d1, d2] => { results := [.lit (.bool false)], args := [d1, d2] }
  | _ => none }
def FnExactEvalAllWrongFalsely : Prop := fnExactEvalAllRow.holds Try.pinned (OpenSpec.ofChange fnExactEvalAllWrong)

/- THE SECOND FORM. 'bulk': how many values and letters a reading holds, each counted each time it is reached (what is shared counts as often as it is met; a slice's spare places count too). A statement '..UptoSaid' is the law's where the arguments, and the package variables that the reading takes, are together of bulk at most 1048576: NARROWER than '..Said'. Prove '..Said' where nothing that the law and all that it calls make is longer than what came in: it says more and counts as full. Else prove '..UptoSaid'. A law counts once. -/
mutual
def uptoBulk {H : Type} : DataW H → Nat
  | .lit (.string bytes) => bytes.length + 1
  | .lit _ => 1
  | .nil => 1
  | .ptr d => uptoBulk d + 1
  | .slice elems spare => uptoBulkAll elems + uptoBulkAll spare + 1
  | .agg parts => uptoBulkAll parts + 1
  | .iface _ d => uptoBulk d + 1
  | .map entries => uptoBulkEntries entries + 1
  | .held _ => 1
def uptoBulkAll {H : Type} : List (DataW H) → Nat
  | [] => 0
  | d :: r => uptoBulk d + uptoBulkAll r
def uptoBulkEntries {H : Type} : List (Lit × DataW H) → Nat
  | [] => 0
  | x :: r => uptoBulkEntry x + uptoBulkEntries r
def uptoBulkEntry {H : Type} : Lit × DataW H → Nat
  | (.string bytes, d) => bytes.length + uptoBulk d + 1
  | (_, d) => uptoBulk d + 1
 end
def uptoSmall : (H : Type) → List (DataW H) → Bool := fun _ ds => decide (uptoBulkAll ds ≤ 1048576)
def OpenSpec.upto (s : _root_.Go.ChangeSpec) : _root_.Go.OpenSpec := { _root_.Go.OpenSpec.ofChange s with cond := some uptoSmall }

/-- 'laws.FnExactFormulaSize', WHERE WHAT IT READS IS OF BULK AT MOST 1048576: true; the input reads as it did. -/
def fnExactFormulaSizeUptoRow : OpenClaim := { program := "ytdccdoodmiihbaa", sum := "3cea2101f98dfabf987a64a26a6903fff7d90bcd97b3fe509b7ac208af753fbc", func := "loop.example/g00980/laws.FnExactFormulaSize", spec := "fnExactFormulaSize", apart := false, narrowed := true }
def FnExactFormulaSizeUptoSaid : Prop := fnExactFormulaSizeUptoRow.holds Try.pinned (OpenSpec.upto fnExactFormulaSizeSpec)

/-- 'laws.FnUnusedVars', WHERE WHAT IT READS IS OF BULK AT MOST 1048576: true; the input reads as it did. -/
def fnUnusedVarsUptoRow : OpenClaim := { program := "ytdccdoodmiihbaa", sum := "3cea2101f98dfabf987a64a26a6903fff7d90bcd97b3fe509b7ac208af753fbc", func := "loop.example/g00980/laws.FnUnusedVars", spec := "fnUnusedVars", unfollowed := true, recurses := true, apart := false, narrowed := true }
def FnUnusedVarsUptoSaid : Prop := fnUnusedVarsUptoRow.holds Try.pinned (OpenSpec.upto fnUnusedVarsSpec)

/-- 'laws.FnDerived', WHERE WHAT IT READS IS OF BULK AT MOST 1048576: true; the input reads as it did. -/
def fnDerivedUptoRow : OpenClaim := { program := "ytdccdoodmiihbaa", sum := "3cea2101f98dfabf987a64a26a6903fff7d90bcd97b3fe509b7ac208af753fbc", func := "loop.example/g00980/laws.FnDerived", spec := "fnDerived", unfollowed := true, recurses := true, apart := false, narrowed := true }
def FnDerivedUptoSaid : Prop := fnDerivedUptoRow.holds Try.pinned (OpenSpec.upto fnDerivedSpec)

/-- 'laws.FnExactEval', WHERE WHAT IT READS IS OF BULK AT MOST 1048576: true; the input reads as it did. -/
def fnExactEvalUptoRow : OpenClaim := { program := "ytdccdoodmiihbaa", sum := "3cea2101f98dfabf987a64a26a6903fff7d90bcd97b3fe509b7ac208af753fbc", func := "loop.example/g00980/laws.FnExactEval", spec := "fnExactEval", unfollowed := true, recurses := true, apart := false, narrowed := true }
def FnExactEvalUptoSaid : Prop := fnExactEvalUptoRow.holds Try.pinned (OpenSpec.upto fnExactEvalSpec)

/-- 'laws.FnExactEvalAll', WHERE WHAT IT READS IS OF BULK AT MOST 1048576: true; the input reads as it did. -/
def fnExactEvalAllUptoRow : OpenClaim := { program := "ytdccdoodmiihbaa", sum := "3cea2101f98dfabf987a64a26a6903fff7d90bcd97b3fe509b7ac208af753fbc", func := "loop.example/g00980/laws.FnExactEvalAll", spec := "fnExactEvalAll", unfollowed := true, recurses := true, apart := false, narrowed := true }
def FnExactEvalAllUptoSaid : Prop := fnExactEvalAllUptoRow.holds Try.pinned (OpenSpec.upto fnExactEvalAllSpec)

end Rows
end Go.Proofs.Ytdccdoodmiihbaa
