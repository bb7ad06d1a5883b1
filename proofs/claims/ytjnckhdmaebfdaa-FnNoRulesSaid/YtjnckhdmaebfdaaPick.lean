/- Draws: one of some numbers, a coin. Conditions: the cursor is whole. -/
import Derived.Test.YtjnckhdmaebfdaaPlaces
namespace Go.Proofs.Ytjnckhdmaebfdaa
open Go.RowKit
/-- One of m numbers. -/
def isOne (m : Nat) (z : Nat → Int) (x : Int) : Prop := ∃ i, i < m ∧ x = z i

set_option maxHeartbeats 400000 in
theorem sOnce (w : World) (B g : Nat) (A : Option Addr) (n c : Nat) (m : Int) (hm : m ≤ 2147483647) (hc : Cur w B g A n c) :
    Calls Try.prog 103 #[.pointer (some ⟨g, 0, none⟩), .int .i64 m] w fun e w' => ∃ b : Bool, e = .returned (.bool b) ∧ Cur w' B g A n c ∧ w.grownBy w' (some g) := by
  go_enter Try.func103, Try.ntmps103
  go_wp2_with fail
  refine (sBelow w B g A n c m hm hc).mono ?_
  rintro e w1 ⟨x, rfl, -, hc1, hg1⟩
  go_wp2_with fail
  go_ret
  exact ⟨_, rfl, hc1, hg1⟩
end Go.Proofs.Ytjnckhdmaebfdaa
