/- Sums, products and comparison of fractions, of the program. No conditions. -/
import Derived.Test.YtanpmbiblibgfaaDoorFrac
namespace Go.Proofs.YtanpmbiblibgfaaDoor
open Go.RowKit

theorem mul_abs {a c A B : Int} (h1 : -A ≤ a) (h2 : a ≤ A) (h3 : -B ≤ c) (h4 : c ≤ B) : -(A * B) ≤ a * c ∧ a * c ≤ A * B := by
  have e1 : a.natAbs ≤ A.natAbs := by omega
  have e2 : c.natAbs ≤ B.natAbs := by omega
  have e3 := Nat.mul_le_mul e1 e2
  rw [← Int.natAbs_mul, ← Int.natAbs_mul] at e3
  have e4 : 0 ≤ A * B := Int.mul_nonneg (by omega) (by omega)
  omega
theorem mul_pos1 {a c A B : Int} (h1 : 1 ≤ a) (h2 : a ≤ A) (h3 : 1 ≤ c) (h4 : c ≤ B) : 1 ≤ a * c ∧ a * c ≤ A * B := by
  have := mul_bd (a := a) (b := c) (by omega) h2 (by omega) h4
  have := Int.mul_pos (show 0 < a by omega) (show 0 < c by omega)
  omega
theorem smallL_iff {n d : Int} : smallL (n, d) = true ↔ (1 ≤ d ∧ d ≤ 1000000) ∧ (-1000000 ≤ n ∧ n ≤ 1000000) ∧ Int.gcd n d = 1 := by
  simp only [smallL, Bool.and_eq_true, fracOkL_iff, inB_iff]
  constructor
  · rintro ⟨⟨h1, h2, h3⟩, h4⟩; exact ⟨h1, h4, h3⟩
  · rintro ⟨h1, h4, h3⟩; exact ⟨⟨h1, by omega, h3⟩, h4⟩
theorem two_cells {w : World} {b : Nat} {u v x y : Value} (h0 : w.cell? ⟨b, 0, none⟩ = some u) (h1 : w.cell? ⟨b, 1, none⟩ = some v) :
    ((w.setCell ⟨b, 0, none⟩ x).setCell ⟨b, 1, none⟩ y).cell? ⟨b, 0, none⟩ = some x ∧ ((w.setCell ⟨b, 0, none⟩ x).setCell ⟨b, 1, none⟩ y).cell? ⟨b, 1, none⟩ = some y := by
  constructor <;> simp [go_sem, h0, h1]

end Go.Proofs.YtanpmbiblibgfaaDoor
