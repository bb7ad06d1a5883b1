/- The functions on fractions of the reference. Conditions: bounds on the numbers that are handed in. -/
import Derived.Test.YtanpmbiblibgfaaGreatDoorGa
namespace Go.Proofs.YtanpmbiblibgfaaGreatDoor
open Go.RowKit

theorem quietL {P : Program} {f : FuncId} {args : Array Value} {w : World} {n : Nat} {v : Value}
    (h : Calls P f args (w.drewN n) fun e w' => e = .returned v ∧ w.drewN n = w') : Calls P f args (w.drewN n) fun e w'' => e = .returned v ∧ ∃ m, w'' = w.drewN m :=
  h.mono fun _ _ ⟨he, hw⟩ => ⟨he, n, hw.symm⟩

set_option maxHeartbeats 400000 in
theorem sAbs (a : Int) (w : World) (ha : Fit a) :
    Calls Tryz.prog 59 #[.int .i64 a] w fun e w' => e = .returned (.int .i64 (a.natAbs : Int)) ∧ w = w' := by
  obtain ⟨h1, h2⟩ := ha
  by_cases h : a < 0
  · rw [show (a.natAbs : Int) = -a from by omega]
    go_enter Tryz.func59, Tryz.ntmps59
    go_wp2
    go_ret
    exact ⟨rfl, rfl⟩
  · rw [show (a.natAbs : Int) = a from by omega]
    go_enter Tryz.func59, Tryz.ntmps59
    go_wp2
    go_ret
    exact ⟨rfl, rfl⟩

set_option maxHeartbeats 400000 in
theorem sGcd (a b : Int) (w : World) (ha : 0 ≤ a) (hb : 0 ≤ b) (ha' : a ≤ 4000000000000000000) (hb' : b ≤ 4000000000000000000) :
    Calls Tryz.prog 58 #[.int .i64 a, .int .i64 b] w fun e w' => e = .returned (.int .i64 (Int.gcd a b)) ∧ w = w' := by
  go_enter Tryz.func58, Tryz.ntmps58
  go_wp2
  go_loop [0, 1] (fun x y => ∃ (p q : Int), x = .int .i64 p ∧ y = .int .i64 q ∧ 0 ≤ p ∧ 0 ≤ q ∧ p ≤ 4000000000000000000 ∧ q ≤ 4000000000000000000 ∧ Hid (Int.gcd p q = Int.gcd a b)) (fun _ y => (intOf y).natAbs)
  case atStart => exact ⟨a, b, rfl, rfl, ha, hb, ha', hb', rfl⟩
  case round =>
    obtain ⟨p, q, rfl, rfl, p0, q0, p1, q1, hg⟩ := hrel
    by_cases h0 : q = 0
    · subst h0
      have HG : Int.gcd a b = p.natAbs := by rw [← hg.out, Int.gcd_zero_right]
      have HG' := Lib.hid HG
      clear HG
      go_wp2
      go_ret
      exact ⟨ret_int (by rw [HG'.out]; omega), rfl⟩
    · have h1 : (q != 0) = true := by simpa using h0
      have h3 := Int.emod_nonneg p h0
      have h2 := Int.emod_lt_of_pos p (show 0 < q by omega)
      have h4 : Hid (Int.gcd q (p % q) = Int.gcd p q) := by
        have := gcd_tmod p q
        rw [Int.tmod_eq_emod_of_nonneg p0] at this
        exact this
      go_wp2
      go_round
      case rel => exact ⟨q, p % q, rfl, rfl, q0, h3, q1, by omega, h4.out.trans hg.out⟩
      case measure => simp only [intOf]; omega

set_option maxHeartbeats 800000 in
theorem sFracOk (n d : Int) (w : World) :
    Calls Tryz.prog 52 #[.agg #[.int .i64 n, .int .i64 d]] w fun e w' => e = .returned (.bool (fracOkL (n, d))) ∧ Below w.heap.size w w' := by
  obtain ⟨v, hv⟩ : ∃ v, v = fracOkL (n, d) := ⟨_, rfl⟩
  rw [← hv]
  have HV := Lib.hid hv
  clear hv
  cases h1 : inB d 1 1000000
  · have E0 := Lib.hid (show v = false by rw [HV.out]; simp [fracOkL, h1])
    clear HV
    go_enter Tryz.func52, Tryz.ntmps52
    go_wp2_with fail
    go_quiet ((first | (go_at_call 40; exact quietL (l01In_any _ _ _ _)) | (go_at_call 59; exact quietL (sAbs _ _ ⟨by omega, by omega⟩)) | (go_at_call 58; exact quietL (sGcd _ _ _ (by omega) (by omega) (by omega) (by omega)))))
    go_wp2_with fail
    go_ret
    exact ⟨ret_bool E0.out.symm, (by (repeat (first | (with_reducible exact Below.refl _ _) | (with_reducible assumption) | (with_reducible refine Below.drew ?_) | (with_reducible refine below_drewN ?_ _) | ((with_reducible refine Below.setCell ?_ ?_ _); rotate_left; focus (first | (simp; done) | omega | (simp; omega))) | ((with_reducible refine Below.alloc ?_ ?_ _); rotate_left; focus (first | exact Nat.le_refl _ | omega | (simp; done) | (simp; omega))))))⟩
  · cases h2 : inB n (-1000000000000) 1000000000000
    · have E0 := Lib.hid (show v = false by rw [HV.out]; simp [fracOkL, h1, h2])
      clear HV
      go_enter Tryz.func52, Tryz.ntmps52
      go_wp2_with fail
      go_quiet ((first | (go_at_call 40; exact quietL (l01In_any _ _ _ _)) | (go_at_call 59; exact quietL (sAbs _ _ ⟨by omega, by omega⟩)) | (go_at_call 58; exact quietL (sGcd _ _ _ (by omega) (by omega) (by omega) (by omega)))))
      go_wp2_with fail
      go_ret
      exact ⟨ret_bool E0.out.symm, (by (repeat (first | (with_reducible exact Below.refl _ _) | (with_reducible assumption) | (with_reducible refine Below.drew ?_) | (with_reducible refine below_drewN ?_ _) | ((with_reducible refine Below.setCell ?_ ?_ _); rotate_left; focus (first | (simp; done) | omega | (simp; omega))) | ((with_reducible refine Below.alloc ?_ ?_ _); rotate_left; focus (first | exact Nat.le_refl _ | omega | (simp; done) | (simp; omega))))))⟩
    · have g1 := inB_iff.1 h1
      have g2 := inB_iff.1 h2
      obtain ⟨g3, g4⟩ := g1
      obtain ⟨g5, g6⟩ := g2
      have E0 := Lib.hid (show v = ((Int.gcd n d : Int) == 1) by
        rw [HV.out]; simp only [fracOkL, h1, h2, Bool.true_and]; rw [Bool.eq_iff_iff]; simp only [beq_iff_eq]; omega)
      rw [← gcd_abs] at E0
      clear HV
      go_enter Tryz.func52, Tryz.ntmps52
      go_wp2_with fail
      go_quiet ((first | (go_at_call 40; exact quietL (l01In_any _ _ _ _)) | (go_at_call 59; exact quietL (sAbs _ _ ⟨by omega, by omega⟩)) | (go_at_call 58; exact quietL (sGcd _ _ _ (by omega) (by omega) (by omega) (by omega)))))
      go_wp2_with fail
      go_ret
      exact ⟨ret_bool E0.out.symm, (by (repeat (first | (with_reducible exact Below.refl _ _) | (with_reducible assumption) | (with_reducible refine Below.drew ?_) | (with_reducible refine below_drewN ?_ _) | ((with_reducible refine Below.setCell ?_ ?_ _); rotate_left; focus (first | (simp; done) | omega | (simp; omega))) | ((with_reducible refine Below.alloc ?_ ?_ _); rotate_left; focus (first | exact Nat.le_refl _ | omega | (simp; done) | (simp; omega))))))⟩
end Go.Proofs.YtanpmbiblibgfaaGreatDoor
