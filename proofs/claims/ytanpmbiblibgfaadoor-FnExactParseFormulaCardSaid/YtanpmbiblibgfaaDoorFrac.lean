/- The functions on fractions of the program. Conditions: bounds on the numbers that are handed in. -/
import Derived.Test.YtanpmbiblibgfaaDoorFracL
import Derived.RegionTactic
import Derived.ChangeAlike
namespace Go.Proofs.YtanpmbiblibgfaaDoor
open Go.RowKit

/-- A number well inside the range of int. -/
def Fit (n : Int) : Prop := -4000000000000000000 ≤ n ∧ n ≤ 4000000000000000000

set_option maxHeartbeats 400000 in
theorem iGcd (a b : Int) (w : World) (ha : Fit a) (hb : Fit b) :
    Calls Tryd.prog 59 #[.int .i64 a, .int .i64 b] w fun e w' => e = .returned (.int .i64 (Int.gcd a b)) ∧ ∃ m, w.drewN m = w' := by
  go_enter Tryd.func59, Tryd.ntmps59
  go_wp2
  go_loopw [0, 1] (fun x y wr => ∃ (p q : Int) (m : Nat), x = .int .i64 p ∧ y = .int .i64 q ∧ Hid (Fit p) ∧ Hid (Fit q) ∧ Hid (Int.gcd p q = Int.gcd a b) ∧ wr = w.drewN m) (fun _ y _ => (intOf y).natAbs)
  case atStart => exact ⟨a, b, 0, rfl, rfl, ha, hb, rfl, rfl⟩
  case round =>
    obtain ⟨p, q, m, rfl, rfl, hp, hq, hg, rfl⟩ := hrel
    by_cases h0 : q = 0
    · subst h0
      have h1 := hp.out.1
      have h2 := hp.out.2
      have HG : Int.gcd a b = p.natAbs := by rw [← hg.out, Int.gcd_zero_right]
      have HG' := Lib.hid HG
      clear HG
      go_wp2
      all_goals
        go_ret
        exact ⟨ret_int (by rw [HG'.out]; omega), m, rfl⟩
    · have h1 : (q != 0) = true := by simpa using h0
      have h2 := tmod_lt p q h0
      have h3 := hq.out.1
      have h4 := hq.out.2
      go_wp2
      go_quiet (fail)
      go_wp2
      go_roundw
      case rel => exact ⟨q, p.tmod q, _, rfl, rfl, hq, ⟨by omega, by omega⟩, (gcd_tmod p q).trans hg.out, World.drewN_drewN _ _ _⟩
      case measure => simp only [intOf]; exact h2

set_option maxHeartbeats 400000 in
theorem iFracOk (n d : Int) (w : World) :
    Calls Tryd.prog 48 #[.agg #[.int .i64 n, .int .i64 d]] w fun e w' => e = .returned (.bool (fracOkL (n, d))) ∧ Below w.heap.size w w' := by
  obtain ⟨v, hv⟩ : ∃ v, v = fracOkL (n, d) := ⟨_, rfl⟩
  rw [← hv]
  have HV := Lib.hid hv
  clear hv
  cases h1 : inB d 1 1000000
  · go_enter Tryd.func48, Tryd.ntmps48
    go_wp2_with (go_at_call 19; refine (within_any _ _ _ _).mono ?_; rintro e w' ⟨rfl, rfl⟩)
    go_ret
    exact ⟨ret_bool (by rw [HV.out]; simp [fracOkL, h1]), (Below.refl _ _).alloc (Nat.le_refl _) _⟩
  · cases h2 : inB n (-1000000000000) 1000000000000
    · go_enter Tryd.func48, Tryd.ntmps48
      go_wp2_with (go_at_call 19; refine (within_any _ _ _ _).mono ?_; rintro e w' ⟨rfl, rfl⟩)
      go_ret
      exact ⟨ret_bool (by rw [HV.out]; simp [fracOkL, h1, h2]), (Below.refl _ _).alloc (Nat.le_refl _) _⟩
    · have g1 := inB_iff.1 h1
      have g2 := inB_iff.1 h2
      go_enter Tryd.func48, Tryd.ntmps48
      go_wp2_with (first
        | (go_at_call 19; refine (within_any _ _ _ _).mono ?_; rintro e w' ⟨rfl, rfl⟩)
        | (go_at_call 59; refine (iGcd _ _ _ ⟨by omega, by omega⟩ ⟨by omega, by omega⟩).mono ?_; rintro e w' ⟨rfl, m, rfl⟩))
      go_ret
      refine ⟨ret_bool ?_, below_drewN ((Below.refl _ _).alloc (Nat.le_refl _) _) _⟩
      rw [HV.out]
      simp only [fracOkL, h1, h2, Bool.true_and]
      rw [Bool.eq_iff_iff]
      simp only [beq_iff_eq]
      omega

/-- The gcd with a positive number is positive and divides. -/
theorem gcd_facts (n d : Int) (hd : 0 < d) : (0 : Int) < Int.gcd n d ∧ n.tdiv (Int.gcd n d) = n / (Int.gcd n d : Int) ∧ d.tdiv (Int.gcd n d) = d / (Int.gcd n d : Int) := by
  have h1 := Int.gcd_pos_of_ne_zero_right n (show d ≠ 0 by omega)
  exact ⟨by omega, Int.tdiv_eq_ediv_of_dvd (Int.gcd_dvd_left n d), Int.tdiv_eq_ediv_of_dvd (Int.gcd_dvd_right n d)⟩
theorem ediv_fit {n g : Int} (h : Fit n) (hg : 0 < g) : Fit (n / g) := by
  obtain ⟨h1, h2⟩ := h
  refine ⟨?_, ?_⟩
  · exact (Int.le_ediv_iff_mul_le hg).2 (by have : -4000000000000000000 * g ≤ -4000000000000000000 * 1 := Int.mul_le_mul_of_nonpos_left (by omega) (by omega); omega)
  · rcases Int.lt_or_le n 0 with hn | hn
    · have := Int.ediv_neg_of_neg_of_pos hn hg
      omega
    · exact Int.le_trans (Int.ediv_le_self _ hn) h2
theorem oN_none : oN none = 0 := rfl
theorem oD_none : oD none = 0 := rfl
theorem oB_none : oB none = false := rfl
theorem oN_some (x y : Int) : oN (some (x, y)) = x := rfl
theorem oD_some (x y : Int) : oD (some (x, y)) = y := rfl
theorem oB_some (a : Fr) : oB (some a) = true := rfl

end Go.Proofs.YtanpmbiblibgfaaDoor
