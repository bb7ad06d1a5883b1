/- Draws: one of some numbers, a coin. Conditions: the cursor is whole. -/
import Derived.Test.YtmbmpogdakoloaaPlaces
namespace Go.Proofs.Ytmbmpogdakoloaa
open Go.RowKit
/-- One of m numbers. -/
def isOne (m : Nat) (z : Nat → Int) (x : Int) : Prop := ∃ i, i < m ∧ x = z i
set_option maxHeartbeats 400000 in
theorem sPickInt (w : World) (B g : Nat) (A : Option Addr) (n c : Nat) (k m cc : Nat) (z : Nat → Int) (hc : Cur w B g A n c) (hk : ¬ k = g) (hm : 0 < m) (hm' : m ≤ 2147483647) (hz : ∀ i, i < m → w.cell? ⟨k, i, none⟩ = some (.int .i64 (z i))) :
    Calls Try.prog 61 #[.pointer (some ⟨g, 0, none⟩), .slice (some ⟨k, 0, none⟩) m cc] w (Drawn w B g A n c (isOne m z)) := by
  go_enter Try.func61, Try.ntmps61
  go_wp2_with fail
  refine (sBelow w B g A n c m (by omega) hc).mono ?_
  rintro e w1 ⟨x, rfl, ⟨hx0, hx1, -⟩, hc1, hg1⟩
  have hx2 := hx1 (by omega)
  clear hx1
  obtain ⟨i, rfl⟩ := Int.eq_ofNat_of_zero_le hx0
  have hcell : w1.cell? ⟨k, i, none⟩ = some (.int .i64 (z i)) := hg1.cell (hz i (by omega)) (by intro e; injection e with e; exact hk e)
  go_wp2_with fail
  go_ret
  exact ⟨_, rfl, ⟨i, by omega, rfl⟩, hc1, hg1⟩

set_option maxHeartbeats 400000 in
theorem sOnce (w : World) (B g : Nat) (A : Option Addr) (n c : Nat) (m : Int) (hm : m ≤ 2147483647) (hc : Cur w B g A n c) :
    Calls Try.prog 62 #[.pointer (some ⟨g, 0, none⟩), .int .i64 m] w fun e w' => ∃ b : Bool, e = .returned (.bool b) ∧ Cur w' B g A n c ∧ w.grownBy w' (some g) := by
  go_enter Try.func62, Try.ntmps62
  go_wp2_with fail
  refine (sBelow w B g A n c m hm hc).mono ?_
  rintro e w1 ⟨x, rfl, -, hc1, hg1⟩
  go_wp2_with fail
  go_ret
  exact ⟨_, rfl, hc1, hg1⟩
end Go.Proofs.Ytmbmpogdakoloaa
