/- Contracts of the small functions over integers: each returns what a plain function gives, and leaves the world alone. No conditions. -/
import Derived.Test.YtanpmbiblibgfaaGreatDoorRows
import Derived.WalkKit
import Derived.WalkSpells
import Derived.WalkLawsBesides
import Derived.Deep.QuietTactic
import Derived.BigQuiet
import Derived.Lib.Hide
import Derived.RegionTactic
import Derived.ChangeAlike
import Derived.Deep.RegionHeld3
namespace Go.Proofs.YtanpmbiblibgfaaGreatDoor
open Go.RowKit

/-- n lies between lo and hi. -/
def inB (n lo hi : Int) : Bool := decide (lo ≤ n) && decide (n ≤ hi)
theorem inB_t {n lo hi : Int} (h1 : lo ≤ n) (h2 : n ≤ hi) : inB n lo hi = true := by simp [inB, h1, h2]
theorem inB_f1 {n lo hi : Int} (h1 : n < lo) : inB n lo hi = false := by simp [inB]; omega
theorem inB_f2 {n lo hi : Int} (h1 : hi < n) : inB n lo hi = false := by simp [inB]; omega
theorem inB_iff {n lo hi : Int} : inB n lo hi = true ↔ lo ≤ n ∧ n ≤ hi := by simp [inB]
theorem inB_no {n lo hi : Int} : inB n lo hi = false ↔ ¬ (lo ≤ n ∧ n ≤ hi) := by rw [← inB_iff]; simp
theorem mul_bd {a b A B : Int} (h0 : 0 ≤ a) (h1 : a ≤ A) (h2 : 0 ≤ b) (h3 : b ≤ B) : 0 ≤ a * b ∧ a * b ≤ A * B :=
  ⟨Int.mul_nonneg h0 h2, Int.mul_le_mul h1 h3 h2 (by omega)⟩

/-- What a call that only makes new memory leaves of the cells that were there, as rules. -/
theorem keepc {B : Nat} {W w' : World} (hb : Below B W w') : (∀ b o, b < B → w'.cell? ⟨b, o, none⟩ = W.cell? ⟨b, o, none⟩) ∧ (∀ b o, b < B → w'.frozen? ⟨b, o, none⟩ = W.frozen? ⟨b, o, none⟩) :=
  ⟨fun b o h => hb.cell (p := ⟨b, o, none⟩) h, fun b o h => hb.frozen (p := ⟨b, o, none⟩) h⟩

theorem keepz {B : Nat} {W w' : World} (hb : Below B W w') : ∀ b, b < W.heap.size → b < w'.heap.size := fun _ h => Nat.lt_of_lt_of_le h hb.size
theorem below_drewN {B : Nat} {a w : World} (h : Below B a w) (n : Nat) : Below B a (w.drewN n) := ⟨h.os, h.tape, h.output, h.size, h.block⟩
theorem ret_bool {a b : Bool} (h : a = b) : Ending.returned (.bool a) = .returned (.bool b) := by rw [h]
theorem ret_int {k : IntKind} {a b : Int} (h : a = b) : Ending.returned (.int k a) = .returned (.int k b) := by rw [h]

set_option maxHeartbeats 400000 in
theorem within_any (n lo hi : Int) (w : World) :
    Calls Tryz.prog 30 #[.int .i64 n, .int .i64 lo, .int .i64 hi] w fun e w' => e = .returned (.bool (inB n lo hi)) ∧ w = w' := by
  by_cases h1 : lo ≤ n
  · by_cases h2 : n ≤ hi
    · rw [inB_t h1 h2]
      go_enter Tryz.func30, Tryz.ntmps30
      go_wp2
      go_ret
      exact ⟨rfl, rfl⟩
    · rw [inB_f2 (by omega)]
      go_enter Tryz.func30, Tryz.ntmps30
      go_wp2
      go_ret
      exact ⟨rfl, rfl⟩
  · rw [inB_f1 (by omega)]
    go_enter Tryz.func30, Tryz.ntmps30
    go_wp2
    go_ret
    exact ⟨rfl, rfl⟩

set_option maxHeartbeats 400000 in
theorem l01In_any (n lo hi : Int) (w : World) :
    Calls Tryz.prog 40 #[.int .i64 n, .int .i64 lo, .int .i64 hi] w fun e w' => e = .returned (.bool (inB n lo hi)) ∧ w = w' := by
  by_cases h1 : lo ≤ n
  · by_cases h2 : n ≤ hi
    · rw [inB_t h1 h2]
      go_enter Tryz.func40, Tryz.ntmps40
      go_wp2
      go_ret
      exact ⟨rfl, rfl⟩
    · rw [inB_f2 (by omega)]
      go_enter Tryz.func40, Tryz.ntmps40
      go_wp2
      go_ret
      exact ⟨rfl, rfl⟩
  · rw [inB_f1 (by omega)]
    go_enter Tryz.func40, Tryz.ntmps40
    go_wp2
    go_ret
    exact ⟨rfl, rfl⟩
end Go.Proofs.YtanpmbiblibgfaaGreatDoor
/- Plain arithmetic of reduced fractions: pairs of integers, kept in lowest terms. No program in sight. -/
namespace Go.Proofs.YtanpmbiblibgfaaGreatDoor

theorem gcd_tmod (a b : Int) : Int.gcd b (a.tmod b) = Int.gcd a b := by
  have h1 : Int.gcd b (a.tmod b) = Nat.gcd b.natAbs (a.natAbs % b.natAbs) := by rw [Int.gcd, Int.natAbs_tmod]
  have h2 : Int.gcd a b = Nat.gcd b.natAbs a.natAbs := by rw [Int.gcd, Nat.gcd_comm]
  rw [h1, h2, Nat.gcd_rec b.natAbs a.natAbs, Nat.gcd_comm]
theorem tmod_lt (a b : Int) (h : b ≠ 0) : (a.tmod b).natAbs < b.natAbs := by
  rw [Int.natAbs_tmod]
  exact Nat.mod_lt _ (by omega)
theorem gcd_abs (a b : Int) : Int.gcd (a.natAbs : Int) b = Int.gcd a b := by simp [Int.gcd]

abbrev Fr := Int × Int

def fracOkL (a : Fr) : Bool := inB a.2 1 1000000 && inB a.1 (-1000000000000) 1000000000000 && (Int.gcd a.1 a.2 == 1)

theorem fracOkL_iff {a : Fr} : fracOkL a = true ↔ (1 ≤ a.2 ∧ a.2 ≤ 1000000) ∧ (-1000000000000 ≤ a.1 ∧ a.1 ≤ 1000000000000) ∧ Int.gcd a.1 a.2 = 1 := by
  simp only [fracOkL, Bool.and_eq_true, inB_iff, beq_iff_eq, and_assoc]

/-- In lowest terms, for a positive denominator. -/
def redP (n d : Int) : Option Fr := if fracOkL (n / (Int.gcd n d : Int), d / (Int.gcd n d : Int)) = true then some (n / (Int.gcd n d : Int), d / (Int.gcd n d : Int)) else none
def redL (n d : Int) : Option Fr := if d < 0 then redP (-n) (-d) else redP n d

theorem redL_pos {n d : Int} (h : 0 < d) : redL n d = redP n d := by rw [redL, if_neg (by omega)]

theorem redP_mul {k n d : Int} (hk : 0 < k) (hd : 0 < d) : redP (k * n) (k * d) = redP n d := by
  have hg : (0 : Int) < Int.gcd n d := by
    have := Int.gcd_pos_of_ne_zero_right n (show d ≠ 0 by omega)
    omega
  have e : (Int.gcd (k * n) (k * d) : Int) = k * Int.gcd n d := by
    rw [Int.gcd_mul_left, Int.natCast_mul, show ((k.natAbs : Nat) : Int) = k from by omega]
  simp only [redP, e, Int.mul_ediv_mul_of_pos _ _ hk]

/-- The parts of a fraction that may lack: zero where it lacks. -/
def oN (r : Option Fr) : Int := (r.getD (0, 0)).1
def oD (r : Option Fr) : Int := (r.getD (0, 0)).2
def oB (r : Option Fr) : Bool := r.isSome
/-- The two results of a function that returns a fraction and whether there is one. -/
abbrev vOpt (r : Option Fr) : Value := .tuple #[.agg #[.int .i64 (oN r), .int .i64 (oD r)], .bool (oB r)]

def fracNewL (n d : Int) : Option Fr := if ((d != 0 && inB n (-1000000000000) 1000000000000) && inB d (-1000000000000) 1000000000000) = true then redL n d else none
def addL (a b : Fr) : Option Fr := if (fracOkL a && fracOkL b) = true then redL (a.1 * b.2 + b.1 * a.2) (a.2 * b.2) else none
def subL (a b : Fr) : Option Fr := if (fracOkL a && fracOkL b) = true then redL (a.1 * b.2 - b.1 * a.2) (a.2 * b.2) else none
def smallL (a : Fr) : Bool := fracOkL a && inB a.1 (-1000000) 1000000
def mulL (a b : Fr) : Option Fr := if (smallL a && smallL b) = true then redL (a.1 * b.1) (a.2 * b.2) else none
def divL (a b : Fr) : Option Fr := if ((smallL a && smallL b) && b.1 != 0) = true then redL (a.1 * b.2) (a.2 * b.1) else none
def cmpL (a b : Fr) : Int := if (fracOkL a && fracOkL b) = true then (if a.1 * b.2 < b.1 * a.2 then -1 else if b.1 * a.2 < a.1 * b.2 then 1 else 0) else 2

theorem redP_ok {n d : Int} {a : Fr} (h : redP n d = some a) : fracOkL a = true ∧ n * a.2 = a.1 * d := by
  unfold redP at h
  split at h
  · rename_i hf
    have h' := Option.some.inj h
    subst h'
    refine ⟨hf, ?_⟩
    have e1 := Int.ediv_mul_cancel (Int.gcd_dvd_left n d)
    have e2 := Int.ediv_mul_cancel (Int.gcd_dvd_right n d)
    show n * (d / (Int.gcd n d : Int)) = n / (Int.gcd n d : Int) * d
    generalize (Int.gcd n d : Int) = g at *
    generalize n / g = x at *
    generalize d / g = y at *
    subst e1 e2
    simp only [Int.mul_assoc, Int.mul_comm g y]
  · cases h
theorem redL_ok {n d : Int} {a : Fr} (h : redL n d = some a) : fracOkL a = true ∧ n * a.2 = a.1 * d := by
  unfold redL at h
  split at h
  · have := redP_ok h
    refine ⟨this.1, ?_⟩
    have h2 := this.2
    rw [Int.neg_mul, Int.mul_neg] at h2
    omega
  · exact redP_ok h
theorem dvd_of_mul {k m n : Int} (hc : Int.gcd m k = 1) (h : k ∣ m * n) : k ∣ n := by
  have h1 := Int.natAbs_dvd_natAbs.2 h
  rw [Int.natAbs_mul] at h1
  have h2 : Nat.Coprime k.natAbs m.natAbs := by rw [Nat.Coprime, Nat.gcd_comm]; exact hc
  exact Int.natAbs_dvd_natAbs.1 (h2.dvd_of_dvd_mul_left h1)
/-- Two valid fractions of one value are one. -/
theorem frac_eq {a b : Fr} (ha : fracOkL a = true) (hb : fracOkL b = true) (h : a.1 * b.2 = b.1 * a.2) : a = b := by
  obtain ⟨h1, h2, h3⟩ := fracOkL_iff.1 ha
  obtain ⟨g1, g2, g3⟩ := fracOkL_iff.1 hb
  have d1 : a.2 ∣ b.2 := by
    have : a.2 ∣ a.1 * b.2 := ⟨b.1, by rw [h, Int.mul_comm]⟩
    exact dvd_of_mul h3 this
  have d2 : b.2 ∣ a.2 := by
    have : b.2 ∣ b.1 * a.2 := ⟨a.1, by rw [← h, Int.mul_comm]⟩
    exact dvd_of_mul g3 this
  have e2 : a.2 = b.2 := Int.dvd_antisymm (by omega) (by omega) d1 d2
  have e1 : a.1 = b.1 := Int.eq_of_mul_eq_mul_right (show b.2 ≠ 0 by omega) (by rw [h, e2])
  exact Prod.ext e1 e2
/-- A valid fraction is in lowest terms. -/
theorem redP_self {a : Fr} (ha : fracOkL a = true) : redP a.1 a.2 = some a := by
  have h3 := (fracOkL_iff.1 ha).2.2
  unfold redP
  rw [h3]
  simp only [Int.ofNat_one, Int.ediv_one]
  rw [if_pos ha]
end Go.Proofs.YtanpmbiblibgfaaGreatDoor
/- The functions on fractions of the program. Conditions: bounds on the numbers that are handed in. -/
namespace Go.Proofs.YtanpmbiblibgfaaGreatDoor
open Go.RowKit

/-- A number well inside the range of int. -/
def Fit (n : Int) : Prop := -4000000000000000000 ≤ n ∧ n ≤ 4000000000000000000

set_option maxHeartbeats 400000 in
theorem iGcd (a b : Int) (w : World) (ha : Fit a) (hb : Fit b) :
    Calls Tryz.prog 62 #[.int .i64 a, .int .i64 b] w fun e w' => e = .returned (.int .i64 (Int.gcd a b)) ∧ ∃ m, w.drewN m = w' := by
  go_enter Tryz.func62, Tryz.ntmps62
  go_wp2
  go_loopw [0, 1] (fun x y wr => ∃ (p q : Int) (m : Nat), x = .int .i64 p ∧ y = .int .i64 q ∧ Hid (Fit p) ∧ Hid (Fit q) ∧ Hid (Int.gcd p q = Int.gcd a b) ∧ wr = w.drewN m) (fun _ y _ => (intOf y).natAbs)
  case atStart => exact ⟨a, b, 0, rfl, rfl, ha, hb, rfl, rfl⟩
  case round =>
    obtain ⟨p, q, m, rfl, rfl, hp, hq, hg, rfl⟩ := hrel
    by_cases h0 : q = 0
    · subst h0
      have h1 := hp.out.1
      have h2 := hp.out.2
      have HG : Int.gcd a b = p.natAbs := by rw [← hg.out, Int.gcd_zero_right]
      have HG' := Lib.hid HG
      clear HG
      go_wp2
      all_goals
        go_ret
        exact ⟨ret_int (by rw [HG'.out]; omega), m, rfl⟩
    · have h1 : (q != 0) = true := by simpa using h0
      have h2 := tmod_lt p q h0
      have h3 := hq.out.1
      have h4 := hq.out.2
      go_wp2
      go_quiet (fail)
      go_wp2
      go_roundw
      case rel => exact ⟨q, p.tmod q, _, rfl, rfl, hq, ⟨by omega, by omega⟩, (gcd_tmod p q).trans hg.out, World.drewN_drewN _ _ _⟩
      case measure => simp only [intOf]; exact h2

set_option maxHeartbeats 400000 in
theorem iFracOk (n d : Int) (w : World) :
    Calls Tryz.prog 44 #[.agg #[.int .i64 n, .int .i64 d]] w fun e w' => e = .returned (.bool (fracOkL (n, d))) ∧ Below w.heap.size w w' := by
  obtain ⟨v, hv⟩ : ∃ v, v = fracOkL (n, d) := ⟨_, rfl⟩
  rw [← hv]
  have HV := Lib.hid hv
  clear hv
  cases h1 : inB d 1 1000000
  · go_enter Tryz.func44, Tryz.ntmps44
    go_wp2_with (go_at_call 30; refine (within_any _ _ _ _).mono ?_; rintro e w' ⟨rfl, rfl⟩)
    go_ret
    exact ⟨ret_bool (by rw [HV.out]; simp [fracOkL, h1]), (Below.refl _ _).alloc (Nat.le_refl _) _⟩
  · cases h2 : inB n (-1000000000000) 1000000000000
    · go_enter Tryz.func44, Tryz.ntmps44
      go_wp2_with (go_at_call 30; refine (within_any _ _ _ _).mono ?_; rintro e w' ⟨rfl, rfl⟩)
      go_ret
      exact ⟨ret_bool (by rw [HV.out]; simp [fracOkL, h1, h2]), (Below.refl _ _).alloc (Nat.le_refl _) _⟩
    · have g1 := inB_iff.1 h1
      have g2 := inB_iff.1 h2
      go_enter Tryz.func44, Tryz.ntmps44
      go_wp2_with (first
        | (go_at_call 30; refine (within_any _ _ _ _).mono ?_; rintro e w' ⟨rfl, rfl⟩)
        | (go_at_call 62; refine (iGcd _ _ _ ⟨by omega, by omega⟩ ⟨by omega, by omega⟩).mono ?_; rintro e w' ⟨rfl, m, rfl⟩))
      go_ret
      refine ⟨ret_bool ?_, below_drewN ((Below.refl _ _).alloc (Nat.le_refl _) _) _⟩
      rw [HV.out]
      simp only [fracOkL, h1, h2, Bool.true_and]
      rw [Bool.eq_iff_iff]
      simp only [beq_iff_eq]
      omega

/-- The gcd with a positive number is positive and divides. -/
theorem gcd_facts (n d : Int) (hd : 0 < d) : (0 : Int) < Int.gcd n d ∧ n.tdiv (Int.gcd n d) = n / (Int.gcd n d : Int) ∧ d.tdiv (Int.gcd n d) = d / (Int.gcd n d : Int) := by
  have h1 := Int.gcd_pos_of_ne_zero_right n (show d ≠ 0 by omega)
  exact ⟨by omega, Int.tdiv_eq_ediv_of_dvd (Int.gcd_dvd_left n d), Int.tdiv_eq_ediv_of_dvd (Int.gcd_dvd_right n d)⟩
theorem ediv_fit {n g : Int} (h : Fit n) (hg : 0 < g) : Fit (n / g) := by
  obtain ⟨h1, h2⟩ := h
  refine ⟨?_, ?_⟩
  · exact (Int.le_ediv_iff_mul_le hg).2 (by have : -4000000000000000000 * g ≤ -4000000000000000000 * 1 := Int.mul_le_mul_of_nonpos_left (by omega) (by omega); omega)
  · rcases Int.lt_or_le n 0 with hn | hn
    · have := Int.ediv_neg_of_neg_of_pos hn hg
      omega
    · exact Int.le_trans (Int.ediv_le_self _ hn) h2
theorem oN_none : oN none = 0 := rfl
theorem oD_none : oD none = 0 := rfl
theorem oB_none : oB none = false := rfl
theorem oN_some (x y : Int) : oN (some (x, y)) = x := rfl
theorem oD_some (x y : Int) : oD (some (x, y)) = y := rfl
theorem oB_some (a : Fr) : oB (some a) = true := rfl

end Go.Proofs.YtanpmbiblibgfaaGreatDoor
/- Sums, products and comparison of fractions, of the program. No conditions. -/
namespace Go.Proofs.YtanpmbiblibgfaaGreatDoor
open Go.RowKit

theorem mul_abs {a c A B : Int} (h1 : -A ≤ a) (h2 : a ≤ A) (h3 : -B ≤ c) (h4 : c ≤ B) : -(A * B) ≤ a * c ∧ a * c ≤ A * B := by
  have e1 : a.natAbs ≤ A.natAbs := by omega
  have e2 : c.natAbs ≤ B.natAbs := by omega
  have e3 := Nat.mul_le_mul e1 e2
  rw [← Int.natAbs_mul, ← Int.natAbs_mul] at e3
  have e4 : 0 ≤ A * B := Int.mul_nonneg (by omega) (by omega)
  omega
theorem mul_pos1 {a c A B : Int} (h1 : 1 ≤ a) (h2 : a ≤ A) (h3 : 1 ≤ c) (h4 : c ≤ B) : 1 ≤ a * c ∧ a * c ≤ A * B := by
  have := mul_bd (a := a) (b := c) (by omega) h2 (by omega) h4
  have := Int.mul_pos (show 0 < a by omega) (show 0 < c by omega)
  omega
theorem smallL_iff {n d : Int} : smallL (n, d) = true ↔ (1 ≤ d ∧ d ≤ 1000000) ∧ (-1000000 ≤ n ∧ n ≤ 1000000) ∧ Int.gcd n d = 1 := by
  simp only [smallL, Bool.and_eq_true, fracOkL_iff, inB_iff]
  constructor
  · rintro ⟨⟨h1, h2, h3⟩, h4⟩; exact ⟨h1, h4, h3⟩
  · rintro ⟨h1, h4, h3⟩; exact ⟨⟨h1, by omega, h3⟩, h4⟩
theorem two_cells {w : World} {b : Nat} {u v x y : Value} (h0 : w.cell? ⟨b, 0, none⟩ = some u) (h1 : w.cell? ⟨b, 1, none⟩ = some v) :
    ((w.setCell ⟨b, 0, none⟩ x).setCell ⟨b, 1, none⟩ y).cell? ⟨b, 0, none⟩ = some x ∧ ((w.setCell ⟨b, 0, none⟩ x).setCell ⟨b, 1, none⟩ y).cell? ⟨b, 1, none⟩ = some y := by
  constructor <;> simp [go_sem, h0, h1]

end Go.Proofs.YtanpmbiblibgfaaGreatDoor
/- A fraction copied, and compared with itself. No conditions. -/
namespace Go.Proofs.YtanpmbiblibgfaaGreatDoor
open Go.RowKit

end Go.Proofs.YtanpmbiblibgfaaGreatDoor
/- Fractions made of two numbers, of the program; the price of units. No conditions. -/
namespace Go.Proofs.YtanpmbiblibgfaaGreatDoor
open Go.RowKit


def unitsL (n d : Int) : Option Fr := if (inB n 0 1000000000 && inB d 1 100000) = true then redL n d else none
end Go.Proofs.YtanpmbiblibgfaaGreatDoor
/- Sums, differences and quotients of fractions, of the program. No conditions. -/
namespace Go.Proofs.YtanpmbiblibgfaaGreatDoor
open Go.RowKit



end Go.Proofs.YtanpmbiblibgfaaGreatDoor
