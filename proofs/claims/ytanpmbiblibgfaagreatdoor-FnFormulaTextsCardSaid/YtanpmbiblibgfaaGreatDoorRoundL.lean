/- Plain arithmetic of rounding. No program in sight. -/
import Derived.Test.YtanpmbiblibgfaaGreatDoorGa
namespace Go.Proofs.YtanpmbiblibgfaaGreatDoor

theorem floor_tdiv (n d : Int) (hd : 0 < d) : n / d = n.tdiv d - (if n.tmod d < 0 then 1 else 0) := by
  have e := Int.mul_tdiv_add_tmod n d
  have h1 := Int.tmod_lt_of_pos n hd
  have h2 : -d < n.tmod d := by
    have := Int.tmod_lt_of_pos (-n) hd
    rw [Int.neg_tmod] at this
    omega
  by_cases hn : n.tmod d < 0
  · rw [if_pos hn]
    refine ((Int.ediv_emod_unique (r := n.tmod d + d) hd).2 ⟨?_, by omega, by omega⟩).1
    rw [Int.mul_sub]
    omega
  · rw [if_neg hn]
    rw [Int.sub_zero]
    exact ((Int.ediv_emod_unique (r := n.tmod d) (q := n.tdiv d) hd).2 ⟨by omega, by omega, h1⟩).1
theorem tmod2 (n : Int) : (n.tmod 2 != 0) = (n % 2 != 0) := by
  have h := floor_tdiv n 2 (by omega)
  have e := Int.mul_tdiv_add_tmod n 2
  have t := Int.tmod_two_eq n
  rw [Bool.eq_iff_iff]
  simp only [bne_iff_ne, ne_eq]
  split at h <;> omega
theorem tdiv_abs (n d : Int) : -(n.natAbs : Int) ≤ n.tdiv d ∧ n.tdiv d ≤ n.natAbs := by
  have h1 : n.natAbs.div d.natAbs ≤ n.natAbs := Nat.div_le_self n.natAbs d.natAbs
  have h2 := Int.natAbs_tdiv n d
  omega
/-- What is left over when a fraction is rounded down. -/
theorem rest_bd (n d : Int) (hd : 0 < d) : 0 ≤ n - n / d * d ∧ n - n / d * d < d := by
  have h1 := Int.emod_nonneg n (show d ≠ 0 by omega)
  have h2 := Int.emod_lt_of_pos n hd
  have h3 := Int.emod_def n d
  have h4 := Int.mul_comm d (n / d)
  omega
/-- Whether a mode rounds up. -/
def upB (mode low rest d : Int) : Bool :=
  if mode = 2 then decide (0 < rest) else if mode = 3 then decide (d ≤ 2 * rest) else if mode = 4 then (decide (d < 2 * rest) || (2 * rest == d && low % 2 != 0)) else false
def roundL (n d mode : Int) : Option Int :=
  if (fracOkL (n, d) && inB mode 1 4) = true then some (if upB mode (n / d) (n - n / d * d) d = true then n / d + 1 else n / d) else none
def zN (r : Option Int) : Int := r.getD 0
def zB (r : Option Int) : Bool := r.isSome
theorem zN_none : zN none = 0 := rfl
theorem zB_none : zB none = false := rfl
theorem zN_some (x : Int) : zN (some x) = x := rfl
theorem zB_some (x : Int) : zB (some x) = true := rfl
def floorL (n d : Int) : Int := if fracOkL (n, d) = true then n / d else 0
end Go.Proofs.YtanpmbiblibgfaaGreatDoor
