/- DueFor of the program and of the reference: pay * rate / 1000 within the bounds, else 0. No conditions. -/
import Derived.Test.YtjiinkbjmamdmaaNum
namespace Go.Proofs.Ytjiinkbjmamdmaa
open Go.RowKit

def dueForL (p r : Int) : Int := if inB p 0 1000000000 = true ∧ inB r 0 1000 = true then p * r / 1000 else 0

set_option maxHeartbeats 400000 in
theorem iDueFor (p r : Int) (w : World) :
    Calls Try.prog 19 #[.int .i64 p, .int .i64 r] w fun e w' => e = .returned (.int .i64 (dueForL p r)) ∧ w = w' := by
  cases hp : inB p 0 1000000000
  · have e : dueForL p r = 0 := by simp [dueForL, hp]
    rw [e]; clear e
    go_enter Try.func19, Try.ntmps19
    go_wp2_with (go_at_call 50; refine (within_any _ _ _ _).mono ?_; rintro e w' ⟨rfl, rfl⟩)
    go_ret
    exact ⟨rfl, rfl⟩
  · cases hr : inB r 0 1000
    · have e : dueForL p r = 0 := by simp [dueForL, hr]
      rw [e]; clear e
      go_enter Try.func19, Try.ntmps19
      go_wp2_with (go_at_call 50; refine (within_any _ _ _ _).mono ?_; rintro e w' ⟨rfl, rfl⟩)
      go_ret
      exact ⟨rfl, rfl⟩
    · have e : dueForL p r = p * r / 1000 := by simp [dueForL, hp, hr]
      rw [e]; clear e
      have h1 := inB_iff.1 hp
      have h2 := inB_iff.1 hr
      have h3 := mul_bd h1.1 h1.2 h2.1 h2.2
      obtain ⟨h3, h4⟩ := h3
      go_enter Try.func19, Try.ntmps19
      go_wp2_with (go_at_call 50; refine (within_any _ _ _ _).mono ?_; rintro e w' ⟨rfl, rfl⟩)
      go_ret
      exact ⟨rfl, rfl⟩

set_option maxHeartbeats 400000 in
theorem sDueFor (p r : Int) (w : World) :
    Calls Try.prog 18 #[.int .i64 p, .int .i64 r] w fun e w' => e = .returned (.int .i64 (dueForL p r)) ∧ w = w' := by
  cases hp : inB p 0 1000000000
  · have e : dueForL p r = 0 := by simp [dueForL, hp]
    rw [e]; clear e
    go_enter Try.func18, Try.ntmps18
    go_wp2_with (go_at_call 49; refine (l01In_any _ _ _ _).mono ?_; rintro e w' ⟨rfl, rfl⟩)
    go_ret
    exact ⟨rfl, rfl⟩
  · cases hr : inB r 0 1000
    · have e : dueForL p r = 0 := by simp [dueForL, hr]
      rw [e]; clear e
      go_enter Try.func18, Try.ntmps18
      go_wp2_with (go_at_call 49; refine (l01In_any _ _ _ _).mono ?_; rintro e w' ⟨rfl, rfl⟩)
      go_ret
      exact ⟨rfl, rfl⟩
    · have e : dueForL p r = p * r / 1000 := by simp [dueForL, hp, hr]
      rw [e]; clear e
      have h1 := inB_iff.1 hp
      have h2 := inB_iff.1 hr
      have h3 := mul_bd h1.1 h1.2 h2.1 h2.2
      obtain ⟨h3, h4⟩ := h3
      go_enter Try.func18, Try.ntmps18
      go_wp2_with (go_at_call 49; refine (l01In_any _ _ _ _).mono ?_; rintro e w' ⟨rfl, rfl⟩)
      go_ret
      exact ⟨rfl, rfl⟩

set_option maxHeartbeats 400000 in
theorem walkDueFor (p r : Int) (w : World) :
    Calls Try.prog 3 #[.int .i64 p, .int .i64 r] w fun e w' => e = .returned (.bool true) ∧ Below w.heap.size w w' := by
  go_enter Try.func3, Try.ntmps3
  go_wp2_with (first | (go_at_call 18; refine (sDueFor _ _ _).mono ?_; rintro e w' ⟨rfl, rfl⟩) | (go_at_call 19; refine (iDueFor _ _ _).mono ?_; rintro e w' ⟨rfl, rfl⟩))
  go_ret
  exact ⟨rfl, Below.refl _ _⟩
end Go.Proofs.Ytjiinkbjmamdmaa
