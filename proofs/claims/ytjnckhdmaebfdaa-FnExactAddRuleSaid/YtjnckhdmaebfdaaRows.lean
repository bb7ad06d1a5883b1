/-
  No cell of these rows narrows 'for every input' (looked for: loops, veiled, ifaces, maps, wideKeys, modest, calm, conditions, laid).
  DERIVED. THE GIVEN ROWS OF THIS SEAT. 12 by the template 'for every input the law returns true; each argument reads behind the call as it read before'; 0 by the template 'total and deterministic' (their statements: YtjnckhdmaebfdaaTotals.lean).
  GIVEN WITH THE SEED: the statements are not yours to turn. If you find one false, say at which input.
  Laid BY PROGRAM, IN A SANDBOX (cutbox-rows.mjs): the forced cells as the released guide's own fill.sh prints them over the translation 0f417e39172ec793… (all of the seat's roots in one cut). By AI agents, Wed Nov 11 2026. No macro, syntax, notation, axiom, sorry.
-/
import Derived.Test.YtjnckhdmaebfdaaChecked
import GoSem.Claim
import GoSem.ClaimJoined
import GoSem.ClaimMapViews
import Derived.JoinedTies
import Derived.KernelRfl
namespace Go.Proofs.Ytjnckhdmaebfdaa
/- THE CELL 'sum', in the pinned program and in every row, IS THE sha256 OF THE DUMP (.gsa) THAT YtjnckhdmaebfdaaProg.lean LOADS. Nothing in Lean hashes anything: it is a label: what it is worth is what the hold of that sum in a sandbox is worth. -/
noncomputable def Try.pinned : Pinned := { name := "ytjnckhdmaebfdaa", sum := "0f417e39172ec7932fcb17cbaf6c831792f4d95bdac3d25c4a333cb57c695d8a", checked := Try.checked }
namespace Rows
def none {H : Type} : Left H := { results := [], args := [] }

/-- 'laws.FnExactRuleOk': WHATEVER THE INPUT: true; the input reads as it did. -/
def fnExactRuleOkSpec : ChangeSpec := { name := "fnExactRuleOk", fn := fun _ => fun
  | [d] => { results := [.lit (.bool true)], args := [d] }
  | _ => none }
def fnExactRuleOkRow : OpenClaim := { program := "ytjnckhdmaebfdaa", sum := "0f417e39172ec7932fcb17cbaf6c831792f4d95bdac3d25c4a333cb57c695d8a", func := "loop.example/g00980/laws.FnExactRuleOk", spec := "fnExactRuleOk", apart := false }
def FnExactRuleOkSaid : Prop := fnExactRuleOkRow.holds Try.pinned (OpenSpec.ofChange fnExactRuleOkSpec)

/-- ITS FALSE NEIGHBOUR: 'it returns false'. Refute it at one input. -/
def fnExactRuleOkWrong : ChangeSpec := { name := "fnExactRuleOk", fn := fun _ => fun
  | [d] => { results := [.lit (.bool false)], args := [d] }
  | _ => none }
def FnExactRuleOkWrongFalsely : Prop := fnExactRuleOkRow.holds Try.pinned (OpenSpec.ofChange fnExactRuleOkWrong)

/-- 'laws.FnRulesFor': WHATEVER THE INPUT: true; the input reads as it did. -/
def fnRulesForSpec : ChangeSpec := { name := "fnRulesFor", fn := fun _ => fun
  | [d] => { results := [.lit (.bool true)], args := [d] }
  | _ => none }
def fnRulesForRow : OpenClaim := { program := "ytjnckhdmaebfdaa", sum := "0f417e39172ec7932fcb17cbaf6c831792f4d95bdac3d25c4a333cb57c695d8a", func := "loop.example/g00980/laws.FnRulesFor", spec := "fnRulesFor", apart := false }
def FnRulesForSaid : Prop := fnRulesForRow.holds Try.pinned (OpenSpec.ofChange fnRulesForSpec)

/-- ITS FALSE NEIGHBOUR: 'it returns false'. Refute it at one input. -/
def fnRulesForWrong : ChangeSpec := { name := "fnRulesFor", fn := fun _ => fun
  | [d] => { results := [.lit (.bool false)], args := [d] }
  | _ => none }
def FnRulesForWrongFalsely : Prop := fnRulesForRow.holds Try.pinned (OpenSpec.ofChange fnRulesForWrong)

/-- 'laws.FnProtected': WHATEVER THE INPUT: true; the input reads as it did. -/
def fnProtectedSpec : ChangeSpec := { name := "fnProtected", fn := fun _ => fun
  | [d] => { results := [.lit (.bool true)], args := [d] }
  | _ => none }
def fnProtectedRow : OpenClaim := { program := "ytjnckhdmaebfdaa", sum := "0f417e39172ec7932fcb17cbaf6c831792f4d95bdac3d25c4a333cb57c695d8a", func := "loop.example/g00980/laws.FnProtected", spec := "fnProtected", apart := false }
def FnProtectedSaid : Prop := fnProtectedRow.holds Try.pinned (OpenSpec.ofChange fnProtectedSpec)

/-- ITS FALSE NEIGHBOUR: 'it returns false'. Refute it at one input. -/
def fnProtectedWrong : ChangeSpec := { name := "fnProtected", fn := fun _ => fun
  | [d] => { results := [.lit (.bool false)], args := [d] }
  | _ => none }
def FnProtectedWrongFalsely : Prop := fnProtectedRow.holds Try.pinned (OpenSpec.ofChange fnProtectedWrong)

/-- 'laws.FnExactBookOk': WHATEVER THE INPUT: true; the input reads as it did. -/
def fnExactBookOkSpec : ChangeSpec := { name := "fnExactBookOk", fn := fun _ => fun
  | [d] => { results := [.lit (.bool true)], args := [d] }
  | _ => none }
def fnExactBookOkRow : OpenClaim := { program := "ytjnckhdmaebfdaa", sum := "0f417e39172ec7932fcb17cbaf6c831792f4d95bdac3d25c4a333cb57c695d8a", func := "loop.example/g00980/laws.FnExactBookOk", spec := "fnExactBookOk", apart := false }
def FnExactBookOkSaid : Prop := fnExactBookOkRow.holds Try.pinned (OpenSpec.ofChange fnExactBookOkSpec)

/-- ITS FALSE NEIGHBOUR: 'it returns false'. Refute it at one input. -/
def fnExactBookOkWrong : ChangeSpec := { name := "fnExactBookOk", fn := fun _ => fun
  | [d] => { results := [.lit (.bool false)], args := [d] }
  | _ => none }
def FnExactBookOkWrongFalsely : Prop := fnExactBookOkRow.holds Try.pinned (OpenSpec.ofChange fnExactBookOkWrong)

/-- 'laws.FnGaps': WHATEVER THE INPUT: true; the input reads as it did. -/
def fnGapsSpec : ChangeSpec := { name := "fnGaps", fn := fun _ => fun
  | [d] => { results := [.lit (.bool true)], args := [d] }
  | _ => none }
def fnGapsRow : OpenClaim := { program := "ytjnckhdmaebfdaa", sum := "0f417e39172ec7932fcb17cbaf6c831792f4d95bdac3d25c4a333cb57c695d8a", func := "loop.example/g00980/laws.FnGaps", spec := "fnGaps", apart := false }
def FnGapsSaid : Prop := fnGapsRow.holds Try.pinned (OpenSpec.ofChange fnGapsSpec)

/-- ITS FALSE NEIGHBOUR: 'it returns false'. Refute it at one input. -/
def fnGapsWrong : ChangeSpec := { name := "fnGaps", fn := fun _ => fun
  | [d] => { results := [.lit (.bool false)], args := [d] }
  | _ => none }
def FnGapsWrongFalsely : Prop := fnGapsRow.holds Try.pinned (OpenSpec.ofChange fnGapsWrong)

/-- 'laws.FnExactRuleFor': WHATEVER THE INPUT: true; the input reads as it did. -/
def fnExactRuleForSpec : ChangeSpec := { name := "fnExactRuleFor", fn := fun _ => fun
  | [d1, d2, d3, d4] => { results := [.lit (.bool true)], args := [d1, d2, d3, d4] }
  | _ => none }
def fnExactRuleForRow : OpenClaim := { program := "ytjnckhdmaebfdaa", sum := "0f417e39172ec7932fcb17cbaf6c831792f4d95bdac3d25c4a333cb57c695d8a", func := "loop.example/g00980/laws.FnExactRuleFor", spec := "fnExactRuleFor", apart := false }
def FnExactRuleForSaid : Prop := fnExactRuleForRow.holds Try.pinned (OpenSpec.ofChange fnExactRuleForSpec)

/-- ITS FALSE NEIGHBOUR: 'it returns false'. Refute it at one input. -/
def fnExactRuleForWrong : ChangeSpec := { name := "fnExactRuleFor", fn := fun _ => fun
  | [d1, d2, d3, d4] => { results := [.lit (.bool false)], args := [d1, d2, d3, d4] }
  | _ => none }
def FnExactRuleForWrongFalsely : Prop := fnExactRuleForRow.holds Try.pinned (OpenSpec.ofChange fnExactRuleForWrong)

/-- 'laws.FnExactIsProtected': WHATEVER THE INPUT: true; the input reads as it did. -/
def fnExactIsProtectedSpec : ChangeSpec := { name := "fnExactIsProtected", fn := fun _ => fun
  | [d1, d2, d3, d4] => { results := [.lit (.bool true)], args := [d1, d2, d3, d4] }
  | _ => none }
def fnExactIsProtectedRow : OpenClaim := { program := "ytjnckhdmaebfdaa", sum := "0f417e39172ec7932fcb17cbaf6c831792f4d95bdac3d25c4a333cb57c695d8a", func := "loop.example/g00980/laws.FnExactIsProtected", spec := "fnExactIsProtected", apart := false }
def FnExactIsProtectedSaid : Prop := fnExactIsProtectedRow.holds Try.pinned (OpenSpec.ofChange fnExactIsProtectedSpec)

/-- ITS FALSE NEIGHBOUR: 'it returns false'. Refute it at one input. -/
def fnExactIsProtectedWrong : ChangeSpec := { name := "fnExactIsProtected", fn := fun _ => fun
  | [d1, d2, d3, d4] => { results := [.lit (.bool false)], args := [d1, d2, d3, d4] }
  | _ => none }
def FnExactIsProtectedWrongFalsely : Prop := fnExactIsProtectedRow.holds Try.pinned (OpenSpec.ofChange fnExactIsProtectedWrong)

/-- 'laws.FnExactGapsIn': WHATEVER THE INPUT: true; the input reads as it did. -/
def fnExactGapsInSpec : ChangeSpec := { name := "fnExactGapsIn", fn := fun _ => fun
  | [d1, d2, d3, d4, d5] => { results := [.lit (.bool true)], args := [d1, d2, d3, d4, d5] }
  | _ => none }
def fnExactGapsInRow : OpenClaim := { program := "ytjnckhdmaebfdaa", sum := "0f417e39172ec7932fcb17cbaf6c831792f4d95bdac3d25c4a333cb57c695d8a", func := "loop.example/g00980/laws.FnExactGapsIn", spec := "fnExactGapsIn", apart := false }
def FnExactGapsInSaid : Prop := fnExactGapsInRow.holds Try.pinned (OpenSpec.ofChange fnExactGapsInSpec)

/-- ITS FALSE NEIGHBOUR: 'it returns false'. Refute it at one input. -/
def fnExactGapsInWrong : ChangeSpec := { name := "fnExactGapsIn", fn := fun _ => fun
  | [d1, d2, d3, d4, d5] => { results := [.lit (.bool false)], args := [d1, d2, d3, d4, d5] }
  | _ => none }
def FnExactGapsInWrongFalsely : Prop := fnExactGapsInRow.holds Try.pinned (OpenSpec.ofChange fnExactGapsInWrong)

/-- 'laws.FnExactAddRule': WHATEVER THE INPUT: true; the input reads as it did. -/
def fnExactAddRuleSpec : ChangeSpec := { name := "fnExactAddRule", fn := fun _ => fun
  | [d1, d2] => { results := [.lit (.bool true)], args := [d1, d2] }
  | _ => none }
def fnExactAddRuleRow : OpenClaim := { program := "ytjnckhdmaebfdaa", sum := "0f417e39172ec7932fcb17cbaf6c831792f4d95bdac3d25c4a333cb57c695d8a", func := "loop.example/g00980/laws.FnExactAddRule", spec := "fnExactAddRule", apart := false }
def FnExactAddRuleSaid : Prop := fnExactAddRuleRow.holds Try.pinned (OpenSpec.ofChange fnExactAddRuleSpec)

/-- ITS FALSE NEIGHBOUR: 'it returns false'. Refute it at one input. -/
def fnExactAddRuleWrong : ChangeSpec := { name := "fnExactAddRule", fn := fun _ => fun
  | [d1, d2] => { results := [.lit (.bool false)], args := [d1, d2] }
  | _ => none }
def FnExactAddRuleWrongFalsely : Prop := fnExactAddRuleRow.holds Try.pinned (OpenSpec.ofChange fnExactAddRuleWrong)

/-- 'laws.FnNoRules': WHATEVER THE INPUT: true; the input reads as it did. -/
def fnNoRulesSpec : ChangeSpec := { name := "fnNoRules", fn := fun _ => fun
  | [d] => { results := [.lit (.bool true)], args := [d] }
  | _ => none }
def fnNoRulesRow : OpenClaim := { program := "ytjnckhdmaebfdaa", sum := "0f417e39172ec7932fcb17cbaf6c831792f4d95bdac3d25c4a333cb57c695d8a", func := "loop.example/g00980/laws.FnNoRules", spec := "fnNoRules", unfollowed := true, recurses := true, apart := false }
def FnNoRulesSaid : Prop := fnNoRulesRow.holds Try.pinned (OpenSpec.ofChange fnNoRulesSpec)

/-- ITS FALSE NEIGHBOUR: 'it returns false'. Refute it at one input. -/
def fnNoRulesWrong : ChangeSpec := { name := "fnNoRules", fn := fun _ => fun
  | [d] => { results := [.lit (.bool false)], args := [d] }
  | _ => none }
def FnNoRulesWrongFalsely : Prop := fnNoRulesRow.holds Try.pinned (OpenSpec.ofChange fnNoRulesWrong)

/-- 'laws.FnFigures': WHATEVER THE INPUT: true; the input reads as it did. -/
def fnFiguresSpec : ChangeSpec := { name := "fnFigures", fn := fun _ => fun
  | [d] => { results := [.lit (.bool true)], args := [d] }
  | _ => none }
def fnFiguresRow : OpenClaim := { program := "ytjnckhdmaebfdaa", sum := "0f417e39172ec7932fcb17cbaf6c831792f4d95bdac3d25c4a333cb57c695d8a", func := "loop.example/g00980/laws.FnFigures", spec := "fnFigures", unfollowed := true, recurses := true, apart := false }
def FnFiguresSaid : Prop := fnFiguresRow.holds Try.pinned (OpenSpec.ofChange fnFiguresSpec)

/-- ITS FALSE NEIGHBOUR: 'it returns false'. Refute it at one input. -/
def fnFiguresWrong : ChangeSpec := { name := "fnFigures", fn := fun _ => fun
  | [d] => { results := [.lit (.bool false)], args := [d] }
  | _ => none }
def FnFiguresWrongFalsely : Prop := fnFiguresRow.holds Try.pinned (OpenSpec.ofChange fnFiguresWrong)

/-- 'laws.FnExactFigure': WHATEVER THE INPUT: true; the input reads as it did. -/
def fnExactFigureSpec : ChangeSpec := { name := "fnExactFigure", fn := fun _ => fun
  | [d1, d2, d3, d4, d5] => { results := [.lit (.bool true)], args := [d1, d2, d3, d4, d5] }
  | _ => none }
def fnExactFigureRow : OpenClaim := { program := "ytjnckhdmaebfdaa", sum := "0f417e39172ec7932fcb17cbaf6c831792f4d95bdac3d25c4a333cb57c695d8a", func := "loop.example/g00980/laws.FnExactFigure", spec := "fnExactFigure", unfollowed := true, recurses := true, apart := false }
def FnExactFigureSaid : Prop := fnExactFigureRow.holds Try.pinned (OpenSpec.ofChange fnExactFigureSpec)

/-- ITS FALSE NEIGHBOUR: 'it returns false'. Refute it at one input. -/
def fnExactFigureWrong : ChangeSpec := { name := "fnExactFigure", fn := fun _ => fun
  | [d1, d2, d3, d4, d5] => { results := [.lit (.bool false)], args := [d1, d2, d3, d4, d5] }
  | _ => none }
def FnExactFigureWrongFalsely : Prop := fnExactFigureRow.holds Try.pinned (OpenSpec.ofChange fnExactFigureWrong)

/- THE SECOND FORM. 'bulk': how many values and letters a reading holds, each counted each time it is reached (what is shared counts as often as it is met; a slice's spare places count too). A statement '..UptoSaid' is the law's where the arguments, and the package variables that the reading takes, are together of bulk at most 1048576: NARROWER than '..Said'. Prove '..Said' where nothing that the law and all that it calls make is longer than what came in: it says more and counts as full. Else prove '..UptoSaid'. A law counts once. -/
mutual
def uptoBulk {H : Type} : DataW H → Nat
  | .lit (.string bytes) => bytes.length + 1
  | .lit _ => 1
  | .nil => 1
  | .ptr d => uptoBulk d + 1
  | .slice elems spare => uptoBulkAll elems + uptoBulkAll spare + 1
  | .agg parts => uptoBulkAll parts + 1
  | .iface _ d => uptoBulk d + 1
  | .map entries => uptoBulkEntries entries + 1
  | .held _ => 1
def uptoBulkAll {H : Type} : List (DataW H) → Nat
  | [] => 0
  | d :: r => uptoBulk d + uptoBulkAll r
def uptoBulkEntries {H : Type} : List (Lit × DataW H) → Nat
  | [] => 0
  | x :: r => uptoBulkEntry x + uptoBulkEntries r
def uptoBulkEntry {H : Type} : Lit × DataW H → Nat
  | (.string bytes, d) => bytes.length + uptoBulk d + 1
  | (_, d) => uptoBulk d + 1
 end
def uptoSmall : (H : Type) → List (DataW H) → Bool := fun _ ds => decide (uptoBulkAll ds ≤ 1048576)
def OpenSpec.upto (s : _root_.Go.ChangeSpec) : _root_.Go.OpenSpec := { _root_.Go.OpenSpec.ofChange s with cond := some uptoSmall }

/-- 'laws.FnExactRuleOk', WHERE WHAT IT READS IS OF BULK AT MOST 1048576: true; the input reads as it did. -/
def fnExactRuleOkUptoRow : OpenClaim := { program := "ytjnckhdmaebfdaa", sum := "0f417e39172ec7932fcb17cbaf6c831792f4d95bdac3d25c4a333cb57c695d8a", func := "loop.example/g00980/laws.FnExactRuleOk", spec := "fnExactRuleOk", apart := false, narrowed := true }
def FnExactRuleOkUptoSaid : Prop := fnExactRuleOkUptoRow.holds Try.pinned (OpenSpec.upto fnExactRuleOkSpec)

/-- 'laws.FnRulesFor', WHERE WHAT IT READS IS OF BULK AT MOST 1048576: true; the input reads as it did. -/
def fnRulesForUptoRow : OpenClaim := { program := "ytjnckhdmaebfdaa", sum := "0f417e39172ec7932fcb17cbaf6c831792f4d95bdac3d25c4a333cb57c695d8a", func := "loop.example/g00980/laws.FnRulesFor", spec := "fnRulesFor", apart := false, narrowed := true }
def FnRulesForUptoSaid : Prop := fnRulesForUptoRow.holds Try.pinned (OpenSpec.upto fnRulesForSpec)

/-- 'laws.FnProtected', WHERE WHAT IT READS IS OF BULK AT MOST 1048576: true; the input reads as it did. -/
def fnProtectedUptoRow : OpenClaim := { program := "ytjnckhdmaebfdaa", sum := "0f417e39172ec7932fcb17cbaf6c831792f4d95bdac3d25c4a333cb57c695d8a", func := "loop.example/g00980/laws.FnProtected", spec := "fnProtected", apart := false, narrowed := true }
def FnProtectedUptoSaid : Prop := fnProtectedUptoRow.holds Try.pinned (OpenSpec.upto fnProtectedSpec)

/-- 'laws.FnExactBookOk', WHERE WHAT IT READS IS OF BULK AT MOST 1048576: true; the input reads as it did. -/
def fnExactBookOkUptoRow : OpenClaim := { program := "ytjnckhdmaebfdaa", sum := "0f417e39172ec7932fcb17cbaf6c831792f4d95bdac3d25c4a333cb57c695d8a", func := "loop.example/g00980/laws.FnExactBookOk", spec := "fnExactBookOk", apart := false, narrowed := true }
def FnExactBookOkUptoSaid : Prop := fnExactBookOkUptoRow.holds Try.pinned (OpenSpec.upto fnExactBookOkSpec)

/-- 'laws.FnGaps', WHERE WHAT IT READS IS OF BULK AT MOST 1048576: true; the input reads as it did. -/
def fnGapsUptoRow : OpenClaim := { program := "ytjnckhdmaebfdaa", sum := "0f417e39172ec7932fcb17cbaf6c831792f4d95bdac3d25c4a333cb57c695d8a", func := "loop.example/g00980/laws.FnGaps", spec := "fnGaps", apart := false, narrowed := true }
def FnGapsUptoSaid : Prop := fnGapsUptoRow.holds Try.pinned (OpenSpec.upto fnGapsSpec)

/-- 'laws.FnExactRuleFor', WHERE WHAT IT READS IS OF BULK AT MOST 1048576: true; the input reads as it did. -/
def fnExactRuleForUptoRow : OpenClaim := { program := "ytjnckhdmaebfdaa", sum := "0f417e39172ec7932fcb17cbaf6c831792f4d95bdac3d25c4a333cb57c695d8a", func := "loop.example/g00980/laws.FnExactRuleFor", spec := "fnExactRuleFor", apart := false, narrowed := true }
def FnExactRuleForUptoSaid : Prop := fnExactRuleForUptoRow.holds Try.pinned (OpenSpec.upto fnExactRuleForSpec)

/-- 'laws.FnExactIsProtected', WHERE WHAT IT READS IS OF BULK AT MOST 1048576: true; the input reads as it did. -/
def fnExactIsProtectedUptoRow : OpenClaim := { program := "ytjnckhdmaebfdaa", sum := "0f417e39172ec7932fcb17cbaf6c831792f4d95bdac3d25c4a333cb57c695d8a", func := "loop.example/g00980/laws.FnExactIsProtected", spec := "fnExactIsProtected", apart := false, narrowed := true }
def FnExactIsProtectedUptoSaid : Prop := fnExactIsProtectedUptoRow.holds Try.pinned (OpenSpec.upto fnExactIsProtectedSpec)

/-- 'laws.FnExactGapsIn', WHERE WHAT IT READS IS OF BULK AT MOST 1048576: true; the input reads as it did. -/
def fnExactGapsInUptoRow : OpenClaim := { program := "ytjnckhdmaebfdaa", sum := "0f417e39172ec7932fcb17cbaf6c831792f4d95bdac3d25c4a333cb57c695d8a", func := "loop.example/g00980/laws.FnExactGapsIn", spec := "fnExactGapsIn", apart := false, narrowed := true }
def FnExactGapsInUptoSaid : Prop := fnExactGapsInUptoRow.holds Try.pinned (OpenSpec.upto fnExactGapsInSpec)

/-- 'laws.FnExactAddRule', WHERE WHAT IT READS IS OF BULK AT MOST 1048576: true; the input reads as it did. -/
def fnExactAddRuleUptoRow : OpenClaim := { program := "ytjnckhdmaebfdaa", sum := "0f417e39172ec7932fcb17cbaf6c831792f4d95bdac3d25c4a333cb57c695d8a", func := "loop.example/g00980/laws.FnExactAddRule", spec := "fnExactAddRule", apart := false, narrowed := true }
def FnExactAddRuleUptoSaid : Prop := fnExactAddRuleUptoRow.holds Try.pinned (OpenSpec.upto fnExactAddRuleSpec)

/-- 'laws.FnNoRules', WHERE WHAT IT READS IS OF BULK AT MOST 1048576: true; the input reads as it did. -/
def fnNoRulesUptoRow : OpenClaim := { program := "ytjnckhdmaebfdaa", sum := "0f417e39172ec7932fcb17cbaf6c831792f4d95bdac3d25c4a333cb57c695d8a", func := "loop.example/g00980/laws.FnNoRules", spec := "fnNoRules", unfollowed := true, recurses := true, apart := false, narrowed := true }
def FnNoRulesUptoSaid : Prop := fnNoRulesUptoRow.holds Try.pinned (OpenSpec.upto fnNoRulesSpec)

/-- 'laws.FnFigures', WHERE WHAT IT READS IS OF BULK AT MOST 1048576: true; the input reads as it did. -/
def fnFiguresUptoRow : OpenClaim := { program := "ytjnckhdmaebfdaa", sum := "0f417e39172ec7932fcb17cbaf6c831792f4d95bdac3d25c4a333cb57c695d8a", func := "loop.example/g00980/laws.FnFigures", spec := "fnFigures", unfollowed := true, recurses := true, apart := false, narrowed := true }
def FnFiguresUptoSaid : Prop := fnFiguresUptoRow.holds Try.pinned (OpenSpec.upto fnFiguresSpec)

/-- 'laws.FnExactFigure', WHERE WHAT IT READS IS OF BULK AT MOST 1048576: true; the input reads as it did. -/
def fnExactFigureUptoRow : OpenClaim := { program := "ytjnckhdmaebfdaa", sum := "0f417e39172ec7932fcb17cbaf6c831792f4d95bdac3d25c4a333cb57c695d8a", func := "loop.example/g00980/laws.FnExactFigure", spec := "fnExactFigure", unfollowed := true, recurses := true, apart := false, narrowed := true }
def FnExactFigureUptoSaid : Prop := fnExactFigureUptoRow.holds Try.pinned (OpenSpec.upto fnExactFigureSpec)

end Rows
end Go.Proofs.Ytjnckhdmaebfdaa
