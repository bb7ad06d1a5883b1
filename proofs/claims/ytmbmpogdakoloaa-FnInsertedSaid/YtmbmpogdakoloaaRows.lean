/-
  No cell of these rows narrows 'for every input' (looked for: loops, veiled, ifaces, maps, wideKeys, modest, calm, conditions, laid).
  DERIVED. THE GIVEN ROWS OF THIS SEAT. 10 by the template 'for every input the law returns true; each argument reads behind the call as it read before'; 0 by the template 'total and deterministic' (their statements: YtmbmpogdakoloaaTotals.lean).
  GIVEN WITH THE SEED: the statements are not yours to turn. If you find one false, say at which input.
  Laid BY PROGRAM, IN A SANDBOX (cutbox-rows.mjs): the forced cells as the released guide's own fill.sh prints them over the translation cbdfbbb18e961365… (all of the seat's roots in one cut). By AI agents, Wed Nov 11 2026. No macro, syntax, notation, axiom, sorry.
-/
import Derived.Test.YtmbmpogdakoloaaChecked
import GoSem.Claim
import GoSem.ClaimJoined
import GoSem.ClaimMapViews
import Derived.JoinedTies
import Derived.KernelRfl
namespace Go.Proofs.Ytmbmpogdakoloaa
/- THE CELL 'sum', in the pinned program and in every row, IS THE sha256 OF THE DUMP (.gsa) THAT YtmbmpogdakoloaaProg.lean LOADS. Nothing in Lean hashes anything: it is a label: what it is worth is what the hold of that sum in a sandbox is worth. -/
noncomputable def Try.pinned : Pinned := { name := "ytmbmpogdakoloaa", sum := "cbdfbbb18e9613652cfa26e0b078481f3bc3fd5bb7b932f211c1ac8638180d18", checked := Try.checked }
namespace Rows
def none {H : Type} : Left H := { results := [], args := [] }

/-- 'laws.FnBreaks': WHATEVER THE INPUT: true; the input reads as it did. -/
def fnBreaksSpec : ChangeSpec := { name := "fnBreaks", fn := fun _ => fun
  | [d] => { results := [.lit (.bool true)], args := [d] }
  | _ => none }
def fnBreaksRow : OpenClaim := { program := "ytmbmpogdakoloaa", sum := "cbdfbbb18e9613652cfa26e0b078481f3bc3fd5bb7b932f211c1ac8638180d18", func := "loop.example/g00980/laws.FnBreaks", spec := "fnBreaks", apart := false }
def FnBreaksSaid : Prop := fnBreaksRow.holds Try.pinned (OpenSpec.ofChange fnBreaksSpec)

/-- ITS FALSE NEIGHBOUR: 'it returns false'. Refute it at one input. -/
def fnBreaksWrong : ChangeSpec := { name := "fnBreaks", fn := fun _ => fun
  | [d] => { results := [.lit (.bool false)], args := [d] }
  | _ => none }
def FnBreaksWrongFalsely : Prop := fnBreaksRow.holds Try.pinned (OpenSpec.ofChange fnBreaksWrong)

/-- 'laws.FnExactSpellsOk': WHATEVER THE INPUT: true; the input reads as it did. -/
def fnExactSpellsOkSpec : ChangeSpec := { name := "fnExactSpellsOk", fn := fun _ => fun
  | [d] => { results := [.lit (.bool true)], args := [d] }
  | _ => none }
def fnExactSpellsOkRow : OpenClaim := { program := "ytmbmpogdakoloaa", sum := "cbdfbbb18e9613652cfa26e0b078481f3bc3fd5bb7b932f211c1ac8638180d18", func := "loop.example/g00980/laws.FnExactSpellsOk", spec := "fnExactSpellsOk", apart := false }
def FnExactSpellsOkSaid : Prop := fnExactSpellsOkRow.holds Try.pinned (OpenSpec.ofChange fnExactSpellsOkSpec)

/-- ITS FALSE NEIGHBOUR: 'it returns false'. Refute it at one input. -/
def fnExactSpellsOkWrong : ChangeSpec := { name := "fnExactSpellsOk", fn := fun _ => fun
  | [d] => { results := [.lit (.bool false)], args := [d] }
  | _ => none }
def FnExactSpellsOkWrongFalsely : Prop := fnExactSpellsOkRow.holds Try.pinned (OpenSpec.ofChange fnExactSpellsOkWrong)

/-- 'laws.FnExactTableOk': WHATEVER THE INPUT: true; the input reads as it did. -/
def fnExactTableOkSpec : ChangeSpec := { name := "fnExactTableOk", fn := fun _ => fun
  | [d] => { results := [.lit (.bool true)], args := [d] }
  | _ => none }
def fnExactTableOkRow : OpenClaim := { program := "ytmbmpogdakoloaa", sum := "cbdfbbb18e9613652cfa26e0b078481f3bc3fd5bb7b932f211c1ac8638180d18", func := "loop.example/g00980/laws.FnExactTableOk", spec := "fnExactTableOk", unfollowed := true, recurses := true, apart := false }
def FnExactTableOkSaid : Prop := fnExactTableOkRow.holds Try.pinned (OpenSpec.ofChange fnExactTableOkSpec)

/-- ITS FALSE NEIGHBOUR: 'it returns false'. Refute it at one input. -/
def fnExactTableOkWrong : ChangeSpec := { name := "fnExactTableOk", fn := fun _ => fun
  | [d] => { results := [.lit (.bool false)], args := [d] }
  | _ => none }
def FnExactTableOkWrongFalsely : Prop := fnExactTableOkRow.holds Try.pinned (OpenSpec.ofChange fnExactTableOkWrong)

/-- 'laws.FnExactPercentAt': WHATEVER THE INPUT: true; the input reads as it did. -/
def fnExactPercentAtSpec : ChangeSpec := { name := "fnExactPercentAt", fn := fun _ => fun
  | [d1, d2] => { results := [.lit (.bool true)], args := [d1, d2] }
  | _ => none }
def fnExactPercentAtRow : OpenClaim := { program := "ytmbmpogdakoloaa", sum := "cbdfbbb18e9613652cfa26e0b078481f3bc3fd5bb7b932f211c1ac8638180d18", func := "loop.example/g00980/laws.FnExactPercentAt", spec := "fnExactPercentAt", apart := false }
def FnExactPercentAtSaid : Prop := fnExactPercentAtRow.holds Try.pinned (OpenSpec.ofChange fnExactPercentAtSpec)

/-- ITS FALSE NEIGHBOUR: 'it returns false'. Refute it at one input. -/
def fnExactPercentAtWrong : ChangeSpec := { name := "fnExactPercentAt", fn := fun _ => fun
  | [d1, d2] => { results := [.lit (.bool false)], args := [d1, d2] }
  | _ => none }
def FnExactPercentAtWrongFalsely : Prop := fnExactPercentAtRow.holds Try.pinned (OpenSpec.ofChange fnExactPercentAtWrong)

/-- 'laws.FnExactDeathAt': WHATEVER THE INPUT: true; the input reads as it did. -/
def fnExactDeathAtSpec : ChangeSpec := { name := "fnExactDeathAt", fn := fun _ => fun
  | [d1, d2] => { results := [.lit (.bool true)], args := [d1, d2] }
  | _ => none }
def fnExactDeathAtRow : OpenClaim := { program := "ytmbmpogdakoloaa", sum := "cbdfbbb18e9613652cfa26e0b078481f3bc3fd5bb7b932f211c1ac8638180d18", func := "loop.example/g00980/laws.FnExactDeathAt", spec := "fnExactDeathAt", unfollowed := true, recurses := true, apart := false }
def FnExactDeathAtSaid : Prop := fnExactDeathAtRow.holds Try.pinned (OpenSpec.ofChange fnExactDeathAtSpec)

/-- ITS FALSE NEIGHBOUR: 'it returns false'. Refute it at one input. -/
def fnExactDeathAtWrong : ChangeSpec := { name := "fnExactDeathAt", fn := fun _ => fun
  | [d1, d2] => { results := [.lit (.bool false)], args := [d1, d2] }
  | _ => none }
def FnExactDeathAtWrongFalsely : Prop := fnExactDeathAtRow.holds Try.pinned (OpenSpec.ofChange fnExactDeathAtWrong)

/-- 'laws.FnServed': WHATEVER THE INPUT: true; the input reads as it did. -/
def fnServedSpec : ChangeSpec := { name := "fnServed", fn := fun _ => fun
  | [d] => { results := [.lit (.bool true)], args := [d] }
  | _ => none }
def fnServedRow : OpenClaim := { program := "ytmbmpogdakoloaa", sum := "cbdfbbb18e9613652cfa26e0b078481f3bc3fd5bb7b932f211c1ac8638180d18", func := "loop.example/g00980/laws.FnServed", spec := "fnServed", unfollowed := true, recurses := true, apart := false }
def FnServedSaid : Prop := fnServedRow.holds Try.pinned (OpenSpec.ofChange fnServedSpec)

/-- ITS FALSE NEIGHBOUR: 'it returns false'. Refute it at one input. -/
def fnServedWrong : ChangeSpec := { name := "fnServed", fn := fun _ => fun
  | [d] => { results := [.lit (.bool false)], args := [d] }
  | _ => none }
def FnServedWrongFalsely : Prop := fnServedRow.holds Try.pinned (OpenSpec.ofChange fnServedWrong)

/-- 'laws.FnExactServiceIn': WHATEVER THE INPUT: true; the input reads as it did. -/
def fnExactServiceInSpec : ChangeSpec := { name := "fnExactServiceIn", fn := fun _ => fun
  | [d1, d2, d3] => { results := [.lit (.bool true)], args := [d1, d2, d3] }
  | _ => none }
def fnExactServiceInRow : OpenClaim := { program := "ytmbmpogdakoloaa", sum := "cbdfbbb18e9613652cfa26e0b078481f3bc3fd5bb7b932f211c1ac8638180d18", func := "loop.example/g00980/laws.FnExactServiceIn", spec := "fnExactServiceIn", unfollowed := true, recurses := true, apart := false }
def FnExactServiceInSaid : Prop := fnExactServiceInRow.holds Try.pinned (OpenSpec.ofChange fnExactServiceInSpec)

/-- ITS FALSE NEIGHBOUR: 'it returns false'. Refute it at one input. -/
def fnExactServiceInWrong : ChangeSpec := { name := "fnExactServiceIn", fn := fun _ => fun
  | [d1, d2, d3] => { results := [.lit (.bool false)], args := [d1, d2, d3] }
  | _ => none }
def FnExactServiceInWrongFalsely : Prop := fnExactServiceInRow.holds Try.pinned (OpenSpec.ofChange fnExactServiceInWrong)

/-- 'laws.FnExactBreaksOf': WHATEVER THE INPUT: true; the input reads as it did. -/
def fnExactBreaksOfSpec : ChangeSpec := { name := "fnExactBreaksOf", fn := fun _ => fun
  | [d] => { results := [.lit (.bool true)], args := [d] }
  | _ => none }
def fnExactBreaksOfRow : OpenClaim := { program := "ytmbmpogdakoloaa", sum := "cbdfbbb18e9613652cfa26e0b078481f3bc3fd5bb7b932f211c1ac8638180d18", func := "loop.example/g00980/laws.FnExactBreaksOf", spec := "fnExactBreaksOf", apart := false }
def FnExactBreaksOfSaid : Prop := fnExactBreaksOfRow.holds Try.pinned (OpenSpec.ofChange fnExactBreaksOfSpec)

/-- ITS FALSE NEIGHBOUR: 'it returns false'. Refute it at one input. -/
def fnExactBreaksOfWrong : ChangeSpec := { name := "fnExactBreaksOf", fn := fun _ => fun
  | [d] => { results := [.lit (.bool false)], args := [d] }
  | _ => none }
def FnExactBreaksOfWrongFalsely : Prop := fnExactBreaksOfRow.holds Try.pinned (OpenSpec.ofChange fnExactBreaksOfWrong)

/-- 'laws.FnInserted': WHATEVER THE INPUT: true; the input reads as it did. -/
def fnInsertedSpec : ChangeSpec := { name := "fnInserted", fn := fun _ => fun
  | [d] => { results := [.lit (.bool true)], args := [d] }
  | _ => none }
def fnInsertedRow : OpenClaim := { program := "ytmbmpogdakoloaa", sum := "cbdfbbb18e9613652cfa26e0b078481f3bc3fd5bb7b932f211c1ac8638180d18", func := "loop.example/g00980/laws.FnInserted", spec := "fnInserted", inPlace := ["slices.overlaps[loop.example/g00980/impl.Spell]"], unfollowed := true, recurses := true, apart := false }
def FnInsertedSaid : Prop := fnInsertedRow.holds Try.pinned (OpenSpec.ofChange fnInsertedSpec)

/-- ITS FALSE NEIGHBOUR: 'it returns false'. Refute it at one input. -/
def fnInsertedWrong : ChangeSpec := { name := "fnInserted", fn := fun _ => fun
  | [d] => { results := [.lit (.bool false)], args := [d] }
  | _ => none }
def FnInsertedWrongFalsely : Prop := fnInsertedRow.holds Try.pinned (OpenSpec.ofChange fnInsertedWrong)

/-- 'laws.FnExactAddSpell': WHATEVER THE INPUT: true; the input reads as it did. -/
def fnExactAddSpellSpec : ChangeSpec := { name := "fnExactAddSpell", fn := fun _ => fun
  | [d1, d2] => { results := [.lit (.bool true)], args := [d1, d2] }
  | _ => none }
def fnExactAddSpellRow : OpenClaim := { program := "ytmbmpogdakoloaa", sum := "cbdfbbb18e9613652cfa26e0b078481f3bc3fd5bb7b932f211c1ac8638180d18", func := "loop.example/g00980/laws.FnExactAddSpell", spec := "fnExactAddSpell", inPlace := ["slices.overlaps[loop.example/g00980/impl.Spell]"], unfollowed := true, recurses := true, apart := false }
def FnExactAddSpellSaid : Prop := fnExactAddSpellRow.holds Try.pinned (OpenSpec.ofChange fnExactAddSpellSpec)

/-- ITS FALSE NEIGHBOUR: 'it returns false'. Refute it at one input. -/
def fnExactAddSpellWrong : ChangeSpec := { name := "fnExactAddSpell", fn := fun _ => fun
  | [d1, d2] => { results := [.lit (.bool false)], args := [d1, d2] }
  | _ => none }
def FnExactAddSpellWrongFalsely : Prop := fnExactAddSpellRow.holds Try.pinned (OpenSpec.ofChange fnExactAddSpellWrong)

/- THE SECOND FORM. 'bulk': how many values and letters a reading holds, each counted each time it is reached (what is shared counts as often as it is met; a slice's spare places count too). A statement '..UptoSaid' is the law's where the arguments, and the package variables that the reading takes, are together of bulk at most 1048576: NARROWER than '..Said'. Prove '..Said' where nothing that the law and all that it calls make is longer than what came in: it says more and counts as full. Else prove '..UptoSaid'. A law counts once. -/
mutual
def uptoBulk {H : Type} : DataW H → Nat
  | .lit (.string bytes) => bytes.length + 1
  | .lit _ => 1
  | .nil => 1
  | .ptr d => uptoBulk d + 1
  | .slice elems spare => uptoBulkAll elems + uptoBulkAll spare + 1
  | .agg parts => uptoBulkAll parts + 1
  | .iface _ d => uptoBulk d + 1
  | .map entries => uptoBulkEntries entries + 1
  | .held _ => 1
def uptoBulkAll {H : Type} : List (DataW H) → Nat
  | [] => 0
  | d :: r => uptoBulk d + uptoBulkAll r
def uptoBulkEntries {H : Type} : List (Lit × DataW H) → Nat
  | [] => 0
  | x :: r => uptoBulkEntry x + uptoBulkEntries r
def uptoBulkEntry {H : Type} : Lit × DataW H → Nat
  | (.string bytes, d) => bytes.length + uptoBulk d + 1
  | (_, d) => uptoBulk d + 1
 end
def uptoSmall : (H : Type) → List (DataW H) → Bool := fun _ ds => decide (uptoBulkAll ds ≤ 1048576)
def OpenSpec.upto (s : _root_.Go.ChangeSpec) : _root_.Go.OpenSpec := { _root_.Go.OpenSpec.ofChange s with cond := some uptoSmall }

/-- 'laws.FnBreaks', WHERE WHAT IT READS IS OF BULK AT MOST 1048576: true; the input reads as it did. -/
def fnBreaksUptoRow : OpenClaim := { program := "ytmbmpogdakoloaa", sum := "cbdfbbb18e9613652cfa26e0b078481f3bc3fd5bb7b932f211c1ac8638180d18", func := "loop.example/g00980/laws.FnBreaks", spec := "fnBreaks", apart := false, narrowed := true }
def FnBreaksUptoSaid : Prop := fnBreaksUptoRow.holds Try.pinned (OpenSpec.upto fnBreaksSpec)

/-- 'laws.FnExactSpellsOk', WHERE WHAT IT READS IS OF BULK AT MOST 1048576: true; the input reads as it did. -/
def fnExactSpellsOkUptoRow : OpenClaim := { program := "ytmbmpogdakoloaa", sum := "cbdfbbb18e9613652cfa26e0b078481f3bc3fd5bb7b932f211c1ac8638180d18", func := "loop.example/g00980/laws.FnExactSpellsOk", spec := "fnExactSpellsOk", apart := false, narrowed := true }
def FnExactSpellsOkUptoSaid : Prop := fnExactSpellsOkUptoRow.holds Try.pinned (OpenSpec.upto fnExactSpellsOkSpec)

/-- 'laws.FnExactTableOk', WHERE WHAT IT READS IS OF BULK AT MOST 1048576: true; the input reads as it did. -/
def fnExactTableOkUptoRow : OpenClaim := { program := "ytmbmpogdakoloaa", sum := "cbdfbbb18e9613652cfa26e0b078481f3bc3fd5bb7b932f211c1ac8638180d18", func := "loop.example/g00980/laws.FnExactTableOk", spec := "fnExactTableOk", unfollowed := true, recurses := true, apart := false, narrowed := true }
def FnExactTableOkUptoSaid : Prop := fnExactTableOkUptoRow.holds Try.pinned (OpenSpec.upto fnExactTableOkSpec)

/-- 'laws.FnExactPercentAt', WHERE WHAT IT READS IS OF BULK AT MOST 1048576: true; the input reads as it did. -/
def fnExactPercentAtUptoRow : OpenClaim := { program := "ytmbmpogdakoloaa", sum := "cbdfbbb18e9613652cfa26e0b078481f3bc3fd5bb7b932f211c1ac8638180d18", func := "loop.example/g00980/laws.FnExactPercentAt", spec := "fnExactPercentAt", apart := false, narrowed := true }
def FnExactPercentAtUptoSaid : Prop := fnExactPercentAtUptoRow.holds Try.pinned (OpenSpec.upto fnExactPercentAtSpec)

/-- 'laws.FnExactDeathAt', WHERE WHAT IT READS IS OF BULK AT MOST 1048576: true; the input reads as it did. -/
def fnExactDeathAtUptoRow : OpenClaim := { program := "ytmbmpogdakoloaa", sum := "cbdfbbb18e9613652cfa26e0b078481f3bc3fd5bb7b932f211c1ac8638180d18", func := "loop.example/g00980/laws.FnExactDeathAt", spec := "fnExactDeathAt", unfollowed := true, recurses := true, apart := false, narrowed := true }
def FnExactDeathAtUptoSaid : Prop := fnExactDeathAtUptoRow.holds Try.pinned (OpenSpec.upto fnExactDeathAtSpec)

/-- 'laws.FnServed', WHERE WHAT IT READS IS OF BULK AT MOST 1048576: true; the input reads as it did. -/
def fnServedUptoRow : OpenClaim := { program := "ytmbmpogdakoloaa", sum := "cbdfbbb18e9613652cfa26e0b078481f3bc3fd5bb7b932f211c1ac8638180d18", func := "loop.example/g00980/laws.FnServed", spec := "fnServed", unfollowed := true, recurses := true, apart := false, narrowed := true }
def FnServedUptoSaid : Prop := fnServedUptoRow.holds Try.pinned (OpenSpec.upto fnServedSpec)

/-- 'laws.FnExactServiceIn', WHERE WHAT IT READS IS OF BULK AT MOST 1048576: true; the input reads as it did. -/
def fnExactServiceInUptoRow : OpenClaim := { program := "ytmbmpogdakoloaa", sum := "cbdfbbb18e9613652cfa26e0b078481f3bc3fd5bb7b932f211c1ac8638180d18", func := "loop.example/g00980/laws.FnExactServiceIn", spec := "fnExactServiceIn", unfollowed := true, recurses := true, apart := false, narrowed := true }
def FnExactServiceInUptoSaid : Prop := fnExactServiceInUptoRow.holds Try.pinned (OpenSpec.upto fnExactServiceInSpec)

/-- 'laws.FnExactBreaksOf', WHERE WHAT IT READS IS OF BULK AT MOST 1048576: true; the input reads as it did. -/
def fnExactBreaksOfUptoRow : OpenClaim := { program := "ytmbmpogdakoloaa", sum := "cbdfbbb18e9613652cfa26e0b078481f3bc3fd5bb7b932f211c1ac8638180d18", func := "loop.example/g00980/laws.FnExactBreaksOf", spec := "fnExactBreaksOf", apart := false, narrowed := true }
def FnExactBreaksOfUptoSaid : Prop := fnExactBreaksOfUptoRow.holds Try.pinned (OpenSpec.upto fnExactBreaksOfSpec)

/-- 'laws.FnInserted', WHERE WHAT IT READS IS OF BULK AT MOST 1048576: true; the input reads as it did. -/
def fnInsertedUptoRow : OpenClaim := { program := "ytmbmpogdakoloaa", sum := "cbdfbbb18e9613652cfa26e0b078481f3bc3fd5bb7b932f211c1ac8638180d18", func := "loop.example/g00980/laws.FnInserted", spec := "fnInserted", inPlace := ["slices.overlaps[loop.example/g00980/impl.Spell]"], unfollowed := true, recurses := true, apart := false, narrowed := true }
def FnInsertedUptoSaid : Prop := fnInsertedUptoRow.holds Try.pinned (OpenSpec.upto fnInsertedSpec)

/-- 'laws.FnExactAddSpell', WHERE WHAT IT READS IS OF BULK AT MOST 1048576: true; the input reads as it did. -/
def fnExactAddSpellUptoRow : OpenClaim := { program := "ytmbmpogdakoloaa", sum := "cbdfbbb18e9613652cfa26e0b078481f3bc3fd5bb7b932f211c1ac8638180d18", func := "loop.example/g00980/laws.FnExactAddSpell", spec := "fnExactAddSpell", inPlace := ["slices.overlaps[loop.example/g00980/impl.Spell]"], unfollowed := true, recurses := true, apart := false, narrowed := true }
def FnExactAddSpellUptoSaid : Prop := fnExactAddSpellUptoRow.holds Try.pinned (OpenSpec.upto fnExactAddSpellSpec)

end Rows
end Go.Proofs.Ytmbmpogdakoloaa
