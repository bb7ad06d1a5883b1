/- Plain law: pensions accrue in proportion to service up to the cap. No program in sight. -/
import Derived.Test.YtjiinkbjmamdmaaFracM
import Derived.Test.YtjiinkbjmamdmaaSAcc
namespace Go.Proofs.Ytjiinkbjmamdmaa

/-- Two pairs of one value have one reduced form. -/
theorem redP_same {n d m e : Int} (hd : 1 ≤ d) (hd' : d ≤ 1000000) (he : 1 ≤ e) (he' : e ≤ 1000000) (hn : -1000000000000 ≤ n) (hn' : n ≤ 1000000000000) (hm : -1000000000000 ≤ m) (hm' : m ≤ 1000000000000) (h : n * e = m * d) : redL n d = redL m e := by
  obtain ⟨x, y, e1, k1, k2, k3, k4, k5⟩ := redL_parts hd hd' hn hn'
  obtain ⟨u, v, e2, q1, q2, q3, q4, q5⟩ := redL_parts he he' hm hm'
  rw [e1, e2]
  congr 1
  refine frac_eq k1 q1 ?_
  show x * v = u * y
  have h1 : (x * v) * (d * e) = (u * y) * (d * e) := by
    rw [show (x * v) * (d * e) = (x * d) * (v * e) by simp only [Int.mul_comm, Int.mul_left_comm], ← k2,
      show (u * y) * (d * e) = (u * e) * (y * d) by simp only [Int.mul_comm, Int.mul_left_comm], ← q2,
      show n * y * (v * e) = (n * e) * (v * y) by simp only [Int.mul_comm, Int.mul_left_comm],
      show m * v * (y * d) = (m * d) * (v * y) by simp only [Int.mul_comm, Int.mul_left_comm], h]
  have hde : d * e ≠ 0 := Int.mul_ne_zero (by omega) (by omega)
  exact Int.eq_of_mul_eq_mul_right hde h1
theorem fracNew_in {n d : Int} (h1 : 0 ≤ n) (h2 : n ≤ 1000000) (h3 : 1 ≤ d) (h4 : d ≤ 1000000) : fracNewL n d = redL n d := by
  have t : ((d != 0 && inB n (-1000000000000) 1000000000000) && inB d (-1000000000000) 1000000000000) = true := by
    rw [inB_t (by omega) (by omega), inB_t (by omega) (by omega)]
    simp
    omega
  rw [fracNewL, if_pos t]
theorem redL_years {y : Int} (h1 : 0 ≤ y) (h2 : y ≤ 60) : redL (y * 1200) 1200 = some (y, 1) := by
  have ok : fracOkL (y, 1) = true := by
    rw [fracOkL_iff]
    exact ⟨by omega, by first | omega | (dsimp only; omega), by simp⟩
  have e := redP_self ok
  rw [redP_same (e := 1) (m := y) (by omega) (by omega) (by omega) (by omega) (by omega) (by omega) (by omega) (by omega) (by omega), redL_pos (by omega)]
  exact e
/-- One year's pension, reduced. -/
theorem accr_year {r j : Int} (h1 : 1 ≤ r) (h2 : r ≤ 200) (h3 : 0 ≤ j) (h4 : j < 200) :
    ∃ x y : Int, mulL (1000 + j * 100, 1) (oN (fracNewL r 10000), oD (fracNewL r 10000)) = some (x, y) ∧ fracOkL (x, y) = true ∧ 0 ≤ x ∧ x ≤ 50000 ∧ 1 ≤ y ∧ y ≤ 100 := by
  obtain ⟨a, b, e1, k1, k2, k3, k4, k5⟩ := redL_parts (n := r) (d := 10000) (by omega) (by omega) (by omega) (by omega)
  have ha : 0 ≤ a := by
    have : 0 ≤ a * 10000 := by rw [← k2]; exact Int.mul_nonneg (by omega) (by omega)
    omega
  have s1 : smallL (1000 + j * 100, 1) = true := by
    rw [smallL_iff]
    exact ⟨by omega, by first | omega | (dsimp only; omega), by simp⟩
  have s2 : smallL (a, b) = true := by
    rw [smallL, k1, inB_t (by omega) (by omega)]
    rfl
  have hm := mul_bd (show 0 ≤ 1000 + j * 100 by omega) (show 1000 + j * 100 ≤ 30000 by omega) ha (show a ≤ 200 by omega)
  have hj := mul_bd (show 0 ≤ 10 + j by omega) (show 10 + j ≤ 209 by omega) (show 0 ≤ r by omega) h2
  have hv : (1000 + j * 100) * a * 100 = (10 + j) * r * b := by
    rw [Int.mul_assoc (10 + j), k2, show (1000 + j * 100 : Int) = (10 + j) * 100 by omega, Int.mul_assoc, Int.mul_assoc, show (100 : Int) * (a * 100) = a * 10000 by omega]
  obtain ⟨x, y, e2, q1, q2, q3, q4, q5⟩ := redL_parts (n := (10 + j) * r) (d := 100) (by omega) (by omega) (by omega) (by omega)
  refine ⟨x, y, ?_, q1, ?_, by omega, q3, q4⟩
  · rw [fracNew_in (by omega) (by omega) (by omega) (by omega), e1, oN_some, oD_some, mulL, s1, s2]
    show redL ((1000 + j * 100) * a) (1 * b) = _
    rw [Int.one_mul, ← e2]
    exact redP_same (by omega) (by omega) (by omega) (by omega) (by omega) (by omega) (by omega) (by omega) hv
  · have : 0 ≤ x * 100 := by rw [← q2]; exact Int.mul_nonneg hj.1 (by omega)
    omega
theorem accr_in {k r c s j : Int} (hk : k = 1 ∨ k = 2) (h1 : 1 ≤ r) (h2 : r ≤ 200) (h3 : 10 ≤ c) (h4 : c ≤ 39) (h5 : 0 ≤ s) (h6 : s ≤ 72000) (h7 : 0 ≤ j) (h8 : j < 200) :
    accL k r c s (1000 + j * 100) 1 = accYes r c s (1000 + j * 100) 1 := by
  have ok : fracOkL (1000 + j * 100, 1) = true := by
    rw [fracOkL_iff]
    exact ⟨by omega, by first | omega | (dsimp only; omega), by simp⟩
  have hd : designOkL k r c = true := by
    rcases hk with rfl | rfl
    · simp [designOkL, inB]; omega
    · simp [designOkL, inB]; omega
  rw [accL, if_pos]
  rw [accInL, hd, ok, inB_t h5 h6]
  simp
  omega
theorem accr_yes {r c s q x y n : Int} (hx : mulL (n, 1) (oN (fracNewL r 10000), oD (fracNewL r 10000)) = some (x, y)) (hq : min s (1200 * c) = q * 1200) (h0 : 0 ≤ q) (h1 : q ≤ 60) (hok : fracOkL (x, y) = true) (h2 : 0 ≤ x) (h3 : x ≤ 50000) :
    accYes r c s n 1 = redL (x * q) y := by
  have s1 : smallL (x, y) = true := by
    rw [smallL, hok, inB_t (by omega) (by omega)]
    rfl
  have s2 : smallL (q, 1) = true := by
    rw [smallL_iff]
    exact ⟨by omega, by first | omega | (dsimp only; omega), by simp⟩
  rw [accYes, hx, oB_some, oN_some, oD_some, if_pos rfl, hq, fracNew_in (by omega) (by omega) (by omega) (by omega), redL_years h0 h1, oN_some, oD_some, mulL, s1, s2]
  show redL (x * q) (y * 1) = _
  rw [Int.mul_one]
/-- What the law says of the four pensions. -/
theorem accruals_law {k r c j t : Int} (hk : k = 1 ∨ k = 2) (h1 : 1 ≤ r) (h2 : r ≤ 200) (h3 : 10 ≤ c) (h4 : c ≤ 39) (h7 : 0 ≤ j) (h8 : j < 200) (h9 : 0 ≤ t) (h10 : t < 1000) :
    ∃ x y u v p q : Int, accL k r c 1200 (1000 + j * 100) 1 = some (x, y) ∧ accL k r c 2400 (1000 + j * 100) 1 = some (u, v) ∧ addL (x, y) (x, y) = some (u, v) ∧
      accL k r c (c * 1200 + t) (1000 + j * 100) 1 = some (p, q) ∧ accL k r c (c * 1200) (1000 + j * 100) 1 = some (p, q) := by
  obtain ⟨x, y, e1, k1, k2, k3, k4, k5⟩ := accr_year h1 h2 h7 h8
  have hc := mul_bd k2 k3 (show 0 ≤ c by omega) h4
  obtain ⟨u, v, e2, q1, q2, q3, q4, q5⟩ := redL_parts (n := x * 2) (d := y) k4 (by omega) (by omega) (by omega)
  obtain ⟨p, q, e3, _⟩ := redL_parts (n := x * c) (d := y) k4 (by omega) (by omega) (by omega)
  refine ⟨x, y, u, v, p, q, ?_, ?_, ?_, ?_, ?_⟩
  · rw [accr_in hk h1 h2 h3 h4 (by omega) (by omega) h7 h8, accr_yes e1 (q := 1) (by omega) (by omega) (by omega) k1 k2 k3, Int.mul_one, redL_pos (by omega)]
    exact redP_self k1
  · rw [accr_in hk h1 h2 h3 h4 (by omega) (by omega) h7 h8, accr_yes e1 (q := 2) (by omega) (by omega) (by omega) k1 k2 k3, e2]
  · rw [addL, k1]
    show redL (x * y + x * y) (y * y) = _
    have hy : 0 < y := by omega
    rw [← e2, redL_pos (Int.mul_pos hy hy), redL_pos hy, show x * y + x * y = y * (x * 2) by rw [Int.mul_comm y, Int.mul_assoc, Int.mul_comm 2 y, ← Int.mul_assoc]; omega, redP_mul hy hy]
  · rw [accr_in hk h1 h2 h3 h4 (by omega) (by omega) h7 h8, accr_yes e1 (q := c) (by omega) (by omega) (by omega) k1 k2 k3, e3]
  · rw [accr_in hk h1 h2 h3 h4 (by omega) (by omega) h7 h8, accr_yes e1 (q := c) (by omega) (by omega) (by omega) k1 k2 k3, e3]
end Go.Proofs.Ytjiinkbjmamdmaa
