/- The functions on fractions of the program. Conditions: bounds on the numbers that are handed in. -/
import Derived.Test.YtjnckhdmaebfdaaFracL
import Derived.RegionTactic
import Derived.ChangeAlike
namespace Go.Proofs.Ytjnckhdmaebfdaa
open Go.RowKit

/-- A number well inside the range of int. -/
def Fit (n : Int) : Prop := -4000000000000000000 ≤ n ∧ n ≤ 4000000000000000000

set_option maxHeartbeats 400000 in
theorem iGcd (a b : Int) (w : World) (ha : Fit a) (hb : Fit b) :
    Calls Try.prog 107 #[.int .i64 a, .int .i64 b] w fun e w' => e = .returned (.int .i64 (Int.gcd a b)) ∧ ∃ m, w.drewN m = w' := by
  go_enter Try.func107, Try.ntmps107
  go_wp2
  go_loopw [0, 1] (fun x y wr => ∃ (p q : Int) (m : Nat), x = .int .i64 p ∧ y = .int .i64 q ∧ Hid (Fit p) ∧ Hid (Fit q) ∧ Hid (Int.gcd p q = Int.gcd a b) ∧ wr = w.drewN m) (fun _ y _ => (intOf y).natAbs)
  case atStart => exact ⟨a, b, 0, rfl, rfl, ha, hb, rfl, rfl⟩
  case round =>
    obtain ⟨p, q, m, rfl, rfl, hp, hq, hg, rfl⟩ := hrel
    by_cases h0 : q = 0
    · subst h0
      have h1 := hp.out.1
      have h2 := hp.out.2
      have HG : Int.gcd a b = p.natAbs := by rw [← hg.out, Int.gcd_zero_right]
      have HG' := Lib.hid HG
      clear HG
      go_wp2
      all_goals
        go_ret
        exact ⟨ret_int (by rw [HG'.out]; omega), m, rfl⟩
    · have h1 : (q != 0) = true := by simpa using h0
      have h2 := tmod_lt p q h0
      have h3 := hq.out.1
      have h4 := hq.out.2
      go_wp2
      go_quiet (fail)
      go_wp2
      go_roundw
      case rel => exact ⟨q, p.tmod q, _, rfl, rfl, hq, ⟨by omega, by omega⟩, (gcd_tmod p q).trans hg.out, World.drewN_drewN _ _ _⟩
      case measure => simp only [intOf]; exact h2

set_option maxHeartbeats 400000 in
theorem iFracOk (n d : Int) (w : World) :
    Calls Try.prog 93 #[.agg #[.int .i64 n, .int .i64 d]] w fun e w' => e = .returned (.bool (fracOkL (n, d))) ∧ Below w.heap.size w w' := by
  obtain ⟨v, hv⟩ : ∃ v, v = fracOkL (n, d) := ⟨_, rfl⟩
  rw [← hv]
  have HV := Lib.hid hv
  clear hv
  cases h1 : inB d 1 1000000
  · go_enter Try.func93, Try.ntmps93
    go_wp2_with (go_at_call 54; refine (within_any _ _ _ _).mono ?_; rintro e w' ⟨rfl, rfl⟩)
    go_ret
    exact ⟨ret_bool (by rw [HV.out]; simp [fracOkL, h1]), (Below.refl _ _).alloc (Nat.le_refl _) _⟩
  · cases h2 : inB n (-1000000000000) 1000000000000
    · go_enter Try.func93, Try.ntmps93
      go_wp2_with (go_at_call 54; refine (within_any _ _ _ _).mono ?_; rintro e w' ⟨rfl, rfl⟩)
      go_ret
      exact ⟨ret_bool (by rw [HV.out]; simp [fracOkL, h1, h2]), (Below.refl _ _).alloc (Nat.le_refl _) _⟩
    · have g1 := inB_iff.1 h1
      have g2 := inB_iff.1 h2
      go_enter Try.func93, Try.ntmps93
      go_wp2_with (first
        | (go_at_call 54; refine (within_any _ _ _ _).mono ?_; rintro e w' ⟨rfl, rfl⟩)
        | (go_at_call 107; refine (iGcd _ _ _ ⟨by omega, by omega⟩ ⟨by omega, by omega⟩).mono ?_; rintro e w' ⟨rfl, m, rfl⟩))
      go_ret
      refine ⟨ret_bool ?_, below_drewN ((Below.refl _ _).alloc (Nat.le_refl _) _) _⟩
      rw [HV.out]
      simp only [fracOkL, h1, h2, Bool.true_and]
      rw [Bool.eq_iff_iff]
      simp only [beq_iff_eq]
      omega

/-- The gcd with a positive number is positive and divides. -/
theorem gcd_facts (n d : Int) (hd : 0 < d) : (0 : Int) < Int.gcd n d ∧ n.tdiv (Int.gcd n d) = n / (Int.gcd n d : Int) ∧ d.tdiv (Int.gcd n d) = d / (Int.gcd n d : Int) := by
  have h1 := Int.gcd_pos_of_ne_zero_right n (show d ≠ 0 by omega)
  exact ⟨by omega, Int.tdiv_eq_ediv_of_dvd (Int.gcd_dvd_left n d), Int.tdiv_eq_ediv_of_dvd (Int.gcd_dvd_right n d)⟩
theorem ediv_fit {n g : Int} (h : Fit n) (hg : 0 < g) : Fit (n / g) := by
  obtain ⟨h1, h2⟩ := h
  refine ⟨?_, ?_⟩
  · exact (Int.le_ediv_iff_mul_le hg).2 (by have : -4000000000000000000 * g ≤ -4000000000000000000 * 1 := Int.mul_le_mul_of_nonpos_left (by omega) (by omega); omega)
  · rcases Int.lt_or_le n 0 with hn | hn
    · have := Int.ediv_neg_of_neg_of_pos hn hg
      omega
    · exact Int.le_trans (Int.ediv_le_self _ hn) h2
theorem oN_none : oN none = 0 := rfl
theorem oD_none : oD none = 0 := rfl
theorem oB_none : oB none = false := rfl
theorem oN_some (x y : Int) : oN (some (x, y)) = x := rfl
theorem oD_some (x y : Int) : oD (some (x, y)) = y := rfl
theorem oB_some (a : Fr) : oB (some a) = true := rfl

set_option maxHeartbeats 800000 in
theorem iReducedP (n d : Int) (w : World) (hn : Fit n) (hd : Fit d) (hp : 0 < d) :
    Calls Try.prog 123 #[.int .i64 n, .int .i64 d] w fun e w' => e = .returned (vOpt (redP n d)) ∧ Below w.heap.size w w' := by
  obtain ⟨g0, g1, g2⟩ := gcd_facts n d hp
  obtain ⟨v, hv⟩ : ∃ v, v = redP n d := ⟨_, rfl⟩
  rw [← hv]
  have hv' : v = if fracOkL (n / (Int.gcd n d : Int), d / (Int.gcd n d : Int)) = true then some (n / (Int.gcd n d : Int), d / (Int.gcd n d : Int)) else none := hv
  clear hv
  obtain ⟨g, hg⟩ : ∃ g : Int, g = Int.gcd n d := ⟨_, rfl⟩
  rw [← hg] at hv' g0 g1 g2
  obtain ⟨x, hx⟩ : ∃ x : Int, x = n / g := ⟨_, rfl⟩
  obtain ⟨y, hy⟩ : ∃ y : Int, y = d / g := ⟨_, rfl⟩
  rw [← hx] at hv' g1
  rw [← hy] at hv' g2
  have fx : Fit x := hx ▸ ediv_fit hn g0
  have fy : Fit y := hy ▸ ediv_fit hd g0
  obtain ⟨fx1, fx2⟩ := fx
  obtain ⟨fy1, fy2⟩ := fy
  have HG := Lib.hid hg
  have HV := Lib.hid hv'
  clear hg hx hy hv'
  have wx : wrap64 (n.tdiv g) = x := by rw [g1]; exact IntWalk.wrap64_in _ ⟨by omega, by omega⟩
  have wy : wrap64 (d.tdiv g) = y := by rw [g2]; exact IntWalk.wrap64_in _ ⟨by omega, by omega⟩
  have g3 : (g == 0) = false := by simp; omega
  clear g1 g2
  go_enter Try.func123, Try.ntmps123
  go_wp2_with fail
  refine (iGcd _ _ _ hn hd).mono ?_
  rintro e w' ⟨rfl, m, rfl⟩
  rw [← HG.out]
  go_wp2_with fail
  go_region
  go_wp2_with fail
  refine (iFracOk x y _).mono ?_
  rintro e w1 ⟨rfl, hb1⟩
  obtain ⟨hc1, hf1⟩ := keepc hb1
  have hz1 : w.heap.size + 1 < w1.heap.size := by have := hb1.size; simp at this; omega
  have c0 : w1.cell? ⟨w.heap.size, 0, none⟩ = some (.int .i64 0) := by rw [hc1 _ _ (by simp; omega)]; simp [go_sem]
  have c1 : w1.cell? ⟨w.heap.size, 1, none⟩ = some (.int .i64 0) := by rw [hc1 _ _ (by simp; omega)]; simp [go_sem]
  have hB : Below w.heap.size w w1 := (below_drewN ((Below.refl _ _).alloc (Nat.le_refl _) _) _ |>.alloc (by simp) _).trans (hb1.mono (by simp; omega))
  cases hf : fracOkL (x, y)
  · have e0 : v = none := by rw [HV.out, hf]; rfl
    have E0 := Lib.hid e0
    clear e0
    go_wp2_with fail
    refine bodyPost_ret (v := vOpt v) ?_ rfl ⟨rfl, ?_⟩
    · rw [E0.out]
      simp [results, Try.results123, go_sem, oN_none, oD_none, oB_none, c0, c1]
    · exact (hB.setCell (by simp) _).setCell (by simp) _
  · have e0 : v = some (x, y) := by rw [HV.out, hf]; rfl
    have E0 := Lib.hid e0
    clear e0
    go_wp2_with fail
    refine bodyPost_ret (v := vOpt v) ?_ rfl ⟨rfl, ?_⟩
    · rw [E0.out]
      simp [results, Try.results123, go_sem, oN_some, oD_some, oB_some, c0, c1]
    · exact (hB.setCell (by simp) _).setCell (by simp) _

set_option maxHeartbeats 800000 in
theorem iReducedM (n d : Int) (w : World) (hn : Fit n) (hd : Fit d) (hp : 0 < d) :
    Calls Try.prog 123 #[.int .i64 (-n), .int .i64 (-d)] w fun e w' => e = .returned (vOpt (redP n d)) ∧ Below w.heap.size w w' := by
  have e1 : decide (-d < 0) = true := by simp; omega
  obtain ⟨f1, f2⟩ := id hn
  obtain ⟨f3, f4⟩ := id hd
  obtain ⟨g0, g1, g2⟩ := gcd_facts n d hp
  obtain ⟨v, hv⟩ : ∃ v, v = redP n d := ⟨_, rfl⟩
  rw [← hv]
  have hv' : v = if fracOkL (n / (Int.gcd n d : Int), d / (Int.gcd n d : Int)) = true then some (n / (Int.gcd n d : Int), d / (Int.gcd n d : Int)) else none := hv
  clear hv
  obtain ⟨g, hg⟩ : ∃ g : Int, g = Int.gcd n d := ⟨_, rfl⟩
  rw [← hg] at hv' g0 g1 g2
  obtain ⟨x, hx⟩ : ∃ x : Int, x = n / g := ⟨_, rfl⟩
  obtain ⟨y, hy⟩ : ∃ y : Int, y = d / g := ⟨_, rfl⟩
  rw [← hx] at hv' g1
  rw [← hy] at hv' g2
  have fx : Fit x := hx ▸ ediv_fit hn g0
  have fy : Fit y := hy ▸ ediv_fit hd g0
  obtain ⟨fx1, fx2⟩ := fx
  obtain ⟨fy1, fy2⟩ := fy
  have HG := Lib.hid hg
  have HV := Lib.hid hv'
  clear hg hx hy hv'
  have wx : n.tdiv g = x := g1
  have wy : d / g = y := by rw [← g2]; exact (Int.tdiv_eq_ediv_of_nonneg (by omega)).symm
  have g3 : (g == 0) = false := by simp; omega
  clear g1 g2
  go_enter Try.func123, Try.ntmps123
  go_wp2_with fail
  refine (iGcd _ _ _ hn hd).mono ?_
  rintro e w' ⟨rfl, m, rfl⟩
  rw [← HG.out]
  go_wp2_with fail
  go_region
  go_wp2_with fail
  refine (iFracOk x y _).mono ?_
  rintro e w1 ⟨rfl, hb1⟩
  obtain ⟨hc1, hf1⟩ := keepc hb1
  have hz1 : w.heap.size + 1 < w1.heap.size := by have := hb1.size; simp at this; omega
  have c0 : w1.cell? ⟨w.heap.size, 0, none⟩ = some (.int .i64 0) := by rw [hc1 _ _ (by simp; omega)]; simp [go_sem]
  have c1 : w1.cell? ⟨w.heap.size, 1, none⟩ = some (.int .i64 0) := by rw [hc1 _ _ (by simp; omega)]; simp [go_sem]
  have hB : Below w.heap.size w w1 := (below_drewN ((Below.refl _ _).alloc (Nat.le_refl _) _) _ |>.alloc (by simp) _).trans (hb1.mono (by simp; omega))
  cases hf : fracOkL (x, y)
  · have e0 : v = none := by rw [HV.out, hf]; rfl
    have E0 := Lib.hid e0
    clear e0
    go_wp2_with fail
    refine bodyPost_ret (v := vOpt v) ?_ rfl ⟨rfl, ?_⟩
    · rw [E0.out]
      simp [results, Try.results123, go_sem, oN_none, oD_none, oB_none, c0, c1]
    · exact (hB.setCell (by simp) _).setCell (by simp) _
  · have e0 : v = some (x, y) := by rw [HV.out, hf]; rfl
    have E0 := Lib.hid e0
    clear e0
    go_wp2_with fail
    refine bodyPost_ret (v := vOpt v) ?_ rfl ⟨rfl, ?_⟩
    · rw [E0.out]
      simp [results, Try.results123, go_sem, oN_some, oD_some, oB_some, c0, c1]
    · exact (hB.setCell (by simp) _).setCell (by simp) _

theorem iReduced (n d : Int) (w : World) (hn : Fit n) (hd : Fit d) (hp : d ≠ 0) :
    Calls Try.prog 123 #[.int .i64 n, .int .i64 d] w fun e w' => e = .returned (vOpt (redL n d)) ∧ Below w.heap.size w w' := by
  rcases Int.lt_or_le d 0 with h | h
  · have hh := iReducedM (-n) (-d) w ⟨by have := hn.2; omega, by have := hn.1; omega⟩ ⟨by have := hd.2; omega, by have := hd.1; omega⟩ (by omega)
    rw [Int.neg_neg, Int.neg_neg] at hh
    rw [redL, if_pos h]
    exact hh
  · rw [redL, if_neg (by omega)]
    exact iReducedP n d w hn hd (by omega)
end Go.Proofs.Ytjnckhdmaebfdaa
