/- Plain arithmetic of reduced fractions: pairs of integers, kept in lowest terms. No program in sight. -/
import Derived.Test.YtanpmbiblibgfaaDoorNum
namespace Go.Proofs.YtanpmbiblibgfaaDoor

theorem gcd_tmod (a b : Int) : Int.gcd b (a.tmod b) = Int.gcd a b := by
  have h1 : Int.gcd b (a.tmod b) = Nat.gcd b.natAbs (a.natAbs % b.natAbs) := by rw [Int.gcd, Int.natAbs_tmod]
  have h2 : Int.gcd a b = Nat.gcd b.natAbs a.natAbs := by rw [Int.gcd, Nat.gcd_comm]
  rw [h1, h2, Nat.gcd_rec b.natAbs a.natAbs, Nat.gcd_comm]
theorem tmod_lt (a b : Int) (h : b ≠ 0) : (a.tmod b).natAbs < b.natAbs := by
  rw [Int.natAbs_tmod]
  exact Nat.mod_lt _ (by omega)
theorem gcd_abs (a b : Int) : Int.gcd (a.natAbs : Int) b = Int.gcd a b := by simp [Int.gcd]

abbrev Fr := Int × Int

def fracOkL (a : Fr) : Bool := inB a.2 1 1000000 && inB a.1 (-1000000000000) 1000000000000 && (Int.gcd a.1 a.2 == 1)

theorem fracOkL_iff {a : Fr} : fracOkL a = true ↔ (1 ≤ a.2 ∧ a.2 ≤ 1000000) ∧ (-1000000000000 ≤ a.1 ∧ a.1 ≤ 1000000000000) ∧ Int.gcd a.1 a.2 = 1 := by
  simp only [fracOkL, Bool.and_eq_true, inB_iff, beq_iff_eq, and_assoc]

/-- In lowest terms, for a positive denominator. -/
def redP (n d : Int) : Option Fr := if fracOkL (n / (Int.gcd n d : Int), d / (Int.gcd n d : Int)) = true then some (n / (Int.gcd n d : Int), d / (Int.gcd n d : Int)) else none
def redL (n d : Int) : Option Fr := if d < 0 then redP (-n) (-d) else redP n d

theorem redL_pos {n d : Int} (h : 0 < d) : redL n d = redP n d := by rw [redL, if_neg (by omega)]

theorem redP_mul {k n d : Int} (hk : 0 < k) (hd : 0 < d) : redP (k * n) (k * d) = redP n d := by
  have hg : (0 : Int) < Int.gcd n d := by
    have := Int.gcd_pos_of_ne_zero_right n (show d ≠ 0 by omega)
    omega
  have e : (Int.gcd (k * n) (k * d) : Int) = k * Int.gcd n d := by
    rw [Int.gcd_mul_left, Int.natCast_mul, show ((k.natAbs : Nat) : Int) = k from by omega]
  simp only [redP, e, Int.mul_ediv_mul_of_pos _ _ hk]

/-- The parts of a fraction that may lack: zero where it lacks. -/
def oN (r : Option Fr) : Int := (r.getD (0, 0)).1
def oD (r : Option Fr) : Int := (r.getD (0, 0)).2
def oB (r : Option Fr) : Bool := r.isSome
/-- The two results of a function that returns a fraction and whether there is one. -/
abbrev vOpt (r : Option Fr) : Value := .tuple #[.agg #[.int .i64 (oN r), .int .i64 (oD r)], .bool (oB r)]

def fracNewL (n d : Int) : Option Fr := if ((d != 0 && inB n (-1000000000000) 1000000000000) && inB d (-1000000000000) 1000000000000) = true then redL n d else none
def addL (a b : Fr) : Option Fr := if (fracOkL a && fracOkL b) = true then redL (a.1 * b.2 + b.1 * a.2) (a.2 * b.2) else none
def subL (a b : Fr) : Option Fr := if (fracOkL a && fracOkL b) = true then redL (a.1 * b.2 - b.1 * a.2) (a.2 * b.2) else none
def smallL (a : Fr) : Bool := fracOkL a && inB a.1 (-1000000) 1000000
def mulL (a b : Fr) : Option Fr := if (smallL a && smallL b) = true then redL (a.1 * b.1) (a.2 * b.2) else none
def divL (a b : Fr) : Option Fr := if ((smallL a && smallL b) && b.1 != 0) = true then redL (a.1 * b.2) (a.2 * b.1) else none
def cmpL (a b : Fr) : Int := if (fracOkL a && fracOkL b) = true then (if a.1 * b.2 < b.1 * a.2 then -1 else if b.1 * a.2 < a.1 * b.2 then 1 else 0) else 2

theorem redP_ok {n d : Int} {a : Fr} (h : redP n d = some a) : fracOkL a = true ∧ n * a.2 = a.1 * d := by
  unfold redP at h
  split at h
  · rename_i hf
    have h' := Option.some.inj h
    subst h'
    refine ⟨hf, ?_⟩
    have e1 := Int.ediv_mul_cancel (Int.gcd_dvd_left n d)
    have e2 := Int.ediv_mul_cancel (Int.gcd_dvd_right n d)
    show n * (d / (Int.gcd n d : Int)) = n / (Int.gcd n d : Int) * d
    generalize (Int.gcd n d : Int) = g at *
    generalize n / g = x at *
    generalize d / g = y at *
    subst e1 e2
    simp only [Int.mul_assoc, Int.mul_comm g y]
  · cases h
theorem redL_ok {n d : Int} {a : Fr} (h : redL n d = some a) : fracOkL a = true ∧ n * a.2 = a.1 * d := by
  unfold redL at h
  split at h
  · have := redP_ok h
    refine ⟨this.1, ?_⟩
    have h2 := this.2
    rw [Int.neg_mul, Int.mul_neg] at h2
    omega
  · exact redP_ok h
theorem dvd_of_mul {k m n : Int} (hc : Int.gcd m k = 1) (h : k ∣ m * n) : k ∣ n := by
  have h1 := Int.natAbs_dvd_natAbs.2 h
  rw [Int.natAbs_mul] at h1
  have h2 : Nat.Coprime k.natAbs m.natAbs := by rw [Nat.Coprime, Nat.gcd_comm]; exact hc
  exact Int.natAbs_dvd_natAbs.1 (h2.dvd_of_dvd_mul_left h1)
/-- Two valid fractions of one value are one. -/
theorem frac_eq {a b : Fr} (ha : fracOkL a = true) (hb : fracOkL b = true) (h : a.1 * b.2 = b.1 * a.2) : a = b := by
  obtain ⟨h1, h2, h3⟩ := fracOkL_iff.1 ha
  obtain ⟨g1, g2, g3⟩ := fracOkL_iff.1 hb
  have d1 : a.2 ∣ b.2 := by
    have : a.2 ∣ a.1 * b.2 := ⟨b.1, by rw [h, Int.mul_comm]⟩
    exact dvd_of_mul h3 this
  have d2 : b.2 ∣ a.2 := by
    have : b.2 ∣ b.1 * a.2 := ⟨a.1, by rw [← h, Int.mul_comm]⟩
    exact dvd_of_mul g3 this
  have e2 : a.2 = b.2 := Int.dvd_antisymm (by omega) (by omega) d1 d2
  have e1 : a.1 = b.1 := Int.eq_of_mul_eq_mul_right (show b.2 ≠ 0 by omega) (by rw [h, e2])
  exact Prod.ext e1 e2
/-- A valid fraction is in lowest terms. -/
theorem redP_self {a : Fr} (ha : fracOkL a = true) : redP a.1 a.2 = some a := by
  have h3 := (fracOkL_iff.1 ha).2.2
  unfold redP
  rw [h3]
  simp only [Int.ofNat_one, Int.ediv_one]
  rw [if_pos ha]
end Go.Proofs.YtanpmbiblibgfaaDoor
