/- More plain arithmetic of reduced fractions. No program in sight. -/
import Derived.Test.YtanpmbiblibgfaaGreatDoorRoundL
namespace Go.Proofs.YtanpmbiblibgfaaGreatDoor

theorem ediv_le_of {n g B : Int} (h1 : -B ≤ n) (h2 : n ≤ B) (hg : 0 < g) : -B ≤ n / g ∧ n / g ≤ B := by
  refine ⟨?_, ?_⟩
  · refine (Int.le_ediv_iff_mul_le hg).2 ?_
    have h3 : -B * g ≤ -B * 1 := Int.mul_le_mul_of_nonpos_left (by omega) (by omega)
    omega
  · rcases Int.lt_or_le n 0 with hn | hn
    · have := Int.ediv_neg_of_neg_of_pos hn hg
      omega
    · exact Int.le_trans (Int.ediv_le_self _ hn) h2
theorem redP_some {n d : Int} (h1 : 1 ≤ d) (h2 : d ≤ 1000000) (h3 : -1000000000000 ≤ n) (h4 : n ≤ 1000000000000) : redP n d = some (n / (Int.gcd n d : Int), d / (Int.gcd n d : Int)) := by
  have hg : (0 : Int) < Int.gcd n d := by
    have := Int.gcd_pos_of_ne_zero_right n (show d ≠ 0 by omega)
    omega
  rw [redP, if_pos]
  rw [fracOkL_iff]
  have k1 := ediv_le_of (B := 1000000000000) h3 h4 hg
  have k2 := ediv_le_of (B := 1000000) (n := d) (by omega) h2 hg
  have k3 : 1 ≤ d / (Int.gcd n d : Int) := by
    refine (Int.le_ediv_iff_mul_le hg).2 ?_
    have := Int.le_of_dvd (by omega) (Int.gcd_dvd_right n d)
    omega
  exact ⟨⟨k3, k2.2⟩, k1, Int.gcd_ediv_gcd_ediv_gcd_of_ne_zero_right (by omega)⟩
/-- Two quotients of one value are rounded down alike. -/
theorem floor_same {n d x y : Int} (hd : 0 < d) (hy : 0 < y) (h : n * y = x * d) : n / d = x / y := by
  rw [← Int.mul_ediv_mul_of_pos n d hy, ← Int.mul_ediv_mul_of_pos x y hd, Int.mul_comm y n, h, Int.mul_comm y d, Int.mul_comm x d]
/-- A fraction of two numbers of the program's range: its parts. -/
theorem redL_parts {n d : Int} (h1 : 1 ≤ d) (h2 : d ≤ 1000000) (h3 : -1000000000000 ≤ n) (h4 : n ≤ 1000000000000) :
    ∃ x y : Int, redL n d = some (x, y) ∧ fracOkL (x, y) = true ∧ n * y = x * d ∧ 1 ≤ y ∧ y ≤ d ∧ x.natAbs ≤ n.natAbs := by
  have e := redP_some h1 h2 h3 h4
  have hok := redP_ok e
  have hg : (0 : Int) < Int.gcd n d := by
    have := Int.gcd_pos_of_ne_zero_right n (show d ≠ 0 by omega)
    omega
  refine ⟨_, _, by rw [redL_pos (by omega)]; exact e, hok.1, hok.2, (fracOkL_iff.1 hok.1).1.1, (ediv_le_of (B := d) (n := d) (by omega) (by omega) hg).2, ?_⟩
  have := ediv_le_of (B := n.natAbs) (n := n) (by omega) (by omega) hg
  omega
/-- The floor of a fraction that stands for n over d. -/
theorem floor_red {n d x y : Int} (hd : 0 < d) (h : redL n d = some (x, y)) : x / y = n / d := by
  have hok := redL_ok h
  exact (floor_same hd (by have := (fracOkL_iff.1 hok.1).1.1; omega) hok.2).symm
end Go.Proofs.YtanpmbiblibgfaaGreatDoor
