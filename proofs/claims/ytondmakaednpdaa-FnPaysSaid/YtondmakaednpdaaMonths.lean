/- MonthsIn of the program and of the reference. No conditions. -/
import Derived.Test.YtondmakaednpdaaAllIn
import Derived.Test.YtondmakaednpdaaSpN
namespace Go.Proofs.Ytondmakaednpdaa
open Go.RowKit

def endB (m : Int) : Bool := inB m 0 3600
def monthsL (a b c d : Int) : Int := if endB a && (endB b && (endB c && endB d)) then max 0 (min b d - max a c) else 0
theorem monthsL_bd (a b c d : Int) : 0 ≤ monthsL a b c d ∧ monthsL a b c d ≤ 3600 := by
  rw [monthsL]
  split
  · rename_i h
    simp only [Bool.and_eq_true, endB, inB_iff] at h
    omega
  · omega
theorem monthsL_symm (a b c d : Int) : monthsL a b c d = monthsL c d a b := by
  have h : (endB a && (endB b && (endB c && endB d))) = (endB c && (endB d && (endB a && endB b))) := by
    cases endB a <;> cases endB b <;> cases endB c <;> cases endB d <;> rfl
  rw [monthsL, monthsL, h]
  split <;> omega

set_option maxHeartbeats 400000 in
theorem isEnd_any (m : Int) (w : World) :
    Calls Try.prog 37 #[.int .i64 m] w fun e w' => e = .returned (.bool (endB m)) ∧ w = w' := by
  go_enter Try.func37, Try.ntmps37
  go_wp2_with fail
  refine (within_any _ _ _ _).mono ?_
  rintro e w' ⟨rfl, rfl⟩
  go_wp2_with fail
  go_ret
  exact ⟨rfl, rfl⟩

set_option maxHeartbeats 400000 in
theorem l04End_any (m : Int) (w : World) :
    Calls Try.prog 41 #[.int .i64 m] w fun e w' => e = .returned (.bool (endB m)) ∧ w = w' := by
  go_enter Try.func41, Try.ntmps41
  go_wp2_with fail
  refine (l01In_any _ _ _ _).mono ?_
  rintro e w' ⟨rfl, rfl⟩
  go_wp2_with fail
  go_ret
  exact ⟨rfl, rfl⟩

end Go.Proofs.Ytondmakaednpdaa
