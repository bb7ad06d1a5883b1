/- The given statements of Eval and of EvalAll. No conditions. -/
import Derived.Test.YtjnckhdmaebfdaaEvalO
import Derived.Deep.Cut
namespace Go.Proofs.Ytjnckhdmaebfdaa
open Go.RowKit

set_option linter.unusedVariables false
set_option maxHeartbeats 400000 in
theorem szFracsFrom (w : World) (A : Option Addr) (n c : Nat) (z : Int) (hn : n ≤ 9223372036854775807) (hz : 0 ≤ z ∧ z ≤ 1048576) :
    Calls Try.prog 46 #[.slice A n c, .int .i64 z] w fun e w' => e = .returned (.int .i64 (if z < (n : Int) then -1 else z - n)) ∧ w = w' := by
  by_cases h : z < (n : Int)
  · rw [if_pos h]
    have h1 : IntKind.i64.wrap (z - (n : Int)) = z - n := IntWalk.i64_in _ ⟨by omega, by omega⟩
    have h2 : z - (n : Int) < 0 := by omega
    go_enter Try.func46, Try.ntmps46
    go_wp2
    go_ret
    exact ⟨rfl, rfl⟩
  · rw [if_neg h]
    have h1 : IntKind.i64.wrap (z - (n : Int)) = z - n := IntWalk.i64_in _ ⟨by omega, by omega⟩
    have h2 : ¬ z - (n : Int) < 0 := by omega
    go_enter Try.func46, Try.ntmps46
    go_wp2
    go_ret
    exact ⟨rfl, rfl⟩


end Go.Proofs.Ytjnckhdmaebfdaa
