/- Contracts of the small functions over months. No conditions. -/
import Derived.Test.YtanpmbiblibgfaaDoorNum
namespace Go.Proofs.YtanpmbiblibgfaaDoor
open Go.RowKit

theorem quietN {P : Program} {f : FuncId} {args : Array Value} {w : World} {n : Nat} {v : Value}
    (h : Calls P f args (w.drewN n) fun e w' => e = .returned v ∧ w.drewN n = w') : Calls P f args (w.drewN n) fun e w'' => e = .returned v ∧ ∃ m, w'' = w.drewN m :=
  h.mono fun _ _ ⟨he, hw⟩ => ⟨he, n, hw.symm⟩

/-- A span of months: 0 ≤ a < b ≤ 3600. -/
def spanB (a b : Int) : Bool := decide (0 ≤ a) && decide (a < b) && decide (b ≤ 3600)
theorem spanB_iff {a b : Int} : spanB a b = true ↔ 0 ≤ a ∧ a < b ∧ b ≤ 3600 := by simp [spanB, and_assoc]
end Go.Proofs.YtanpmbiblibgfaaDoor
