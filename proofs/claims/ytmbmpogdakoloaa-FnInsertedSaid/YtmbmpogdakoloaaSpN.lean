/- Contracts of the small functions over months. No conditions. -/
import Derived.Test.YtmbmpogdakoloaaNum
namespace Go.Proofs.Ytmbmpogdakoloaa
open Go.RowKit

theorem quietN {P : Program} {f : FuncId} {args : Array Value} {w : World} {n : Nat} {v : Value}
    (h : Calls P f args (w.drewN n) fun e w' => e = .returned v ∧ w.drewN n = w') : Calls P f args (w.drewN n) fun e w'' => e = .returned v ∧ ∃ m, w'' = w.drewN m :=
  h.mono fun _ _ ⟨he, hw⟩ => ⟨he, n, hw.symm⟩

/-- A span of months: 0 ≤ a < b ≤ 3600. -/
def spanB (a b : Int) : Bool := decide (0 ≤ a) && decide (a < b) && decide (b ≤ 3600)
theorem spanB_iff {a b : Int} : spanB a b = true ↔ 0 ≤ a ∧ a < b ∧ b ≤ 3600 := by simp [spanB, and_assoc]
set_option maxHeartbeats 400000 in
theorem isSpan_any (a b : Int) (w : World) :
    Calls Try.prog 45 #[.int .i64 a, .int .i64 b] w fun e w' => e = .returned (.bool (spanB a b)) ∧ w = w' := by
  obtain ⟨v, hv⟩ : ∃ v, v = spanB a b := ⟨_, rfl⟩
  rw [← hv]
  have HV := Lib.hid hv
  clear hv
  go_enter Try.func45, Try.ntmps45
  go_wp2
  all_goals
    go_ret
    exact ⟨ret_bool (by rw [HV.out]; clear HV; simp [spanB]; omega), rfl⟩
end Go.Proofs.Ytmbmpogdakoloaa
