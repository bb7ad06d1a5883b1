/- MonthsIn of the program and of the reference. No conditions. -/
import Derived.Test.YtmbmpogdakoloaaAllIn
import Derived.Test.YtmbmpogdakoloaaSpN
namespace Go.Proofs.Ytmbmpogdakoloaa
open Go.RowKit

def endB (m : Int) : Bool := inB m 0 3600
def monthsL (a b c d : Int) : Int := if endB a && (endB b && (endB c && endB d)) then max 0 (min b d - max a c) else 0
theorem monthsL_bd (a b c d : Int) : 0 ≤ monthsL a b c d ∧ monthsL a b c d ≤ 3600 := by
  rw [monthsL]
  split
  · rename_i h
    simp only [Bool.and_eq_true, endB, inB_iff] at h
    omega
  · omega
theorem monthsL_symm (a b c d : Int) : monthsL a b c d = monthsL c d a b := by
  have h : (endB a && (endB b && (endB c && endB d))) = (endB c && (endB d && (endB a && endB b))) := by
    cases endB a <;> cases endB b <;> cases endB c <;> cases endB d <;> rfl
  rw [monthsL, monthsL, h]
  split <;> omega

set_option maxHeartbeats 400000 in
theorem isEnd_any (m : Int) (w : World) :
    Calls Try.prog 53 #[.int .i64 m] w fun e w' => e = .returned (.bool (endB m)) ∧ w = w' := by
  go_enter Try.func53, Try.ntmps53
  go_wp2_with fail
  refine (within_any _ _ _ _).mono ?_
  rintro e w' ⟨rfl, rfl⟩
  go_wp2_with fail
  go_ret
  exact ⟨rfl, rfl⟩

set_option maxHeartbeats 400000 in
theorem l04End_any (m : Int) (w : World) :
    Calls Try.prog 66 #[.int .i64 m] w fun e w' => e = .returned (.bool (endB m)) ∧ w = w' := by
  go_enter Try.func66, Try.ntmps66
  go_wp2_with fail
  refine (l01In_any _ _ _ _).mono ?_
  rintro e w' ⟨rfl, rfl⟩
  go_wp2_with fail
  go_ret
  exact ⟨rfl, rfl⟩

def four (a b c d : Int) (i : Nat) : Int := [a, b, c, d].getD i 0
theorem allIn_four (a b c d : Int) : allIn (four a b c d) 0 3600 4 = (endB a && (endB b && (endB c && endB d))) := by
  simp [allIn, four, endB, Bool.and_assoc]
set_option maxHeartbeats 800000 in
theorem iMonthsIn (a b c d : Int) (w : World) :
    Calls Try.prog 54 #[.int .i64 a, .int .i64 b, .int .i64 c, .int .i64 d] w fun e w' => e = .returned (.int .i64 (monthsL a b c d)) ∧ Below w.heap.size w w' := by
  cases hok : (endB a && (endB b && (endB c && endB d)))
  · go_enter Try.func54, Try.ntmps54
    go_wp2_with fail
    refine (iAllWithin _ (some ⟨w.heap.size, 0, none⟩) 4 4 (four a b c d) ?c1 0 3600).mono ?_
    case c1 =>
      refine ⟨by omega, fun i hi => ⟨w.heap.size, 0, rfl, by simp, ?_⟩⟩
      match i, hi with
      | 0, _ => simp [go_sem, four]
      | 1, _ => simp [go_sem, four]
      | 2, _ => simp [go_sem, four]
      | 3, _ => simp [go_sem, four]
    rintro e w1 ⟨rfl, hb1⟩
    rw [allIn_four, hok]
    go_wp2_with fail
    go_ret
    exact ⟨ret_int (by rw [monthsL, hok]; rfl), (Below.alloc (Below.refl _ _) (Nat.le_refl _) _).trans (hb1.mono (by simp))⟩
  · have hq := hok
    simp only [Bool.and_eq_true, endB, inB_iff] at hq
    have h1 : IntKind.i64.wrap (min b d - max a c) = min b d - max a c := IntWalk.i64_in _ ⟨by omega, by omega⟩
    go_enter Try.func54, Try.ntmps54
    go_wp2_with fail
    refine (iAllWithin _ (some ⟨w.heap.size, 0, none⟩) 4 4 (four a b c d) ?c2 0 3600).mono ?_
    case c2 =>
      refine ⟨by omega, fun i hi => ⟨w.heap.size, 0, rfl, by simp, ?_⟩⟩
      match i, hi with
      | 0, _ => simp [go_sem, four]
      | 1, _ => simp [go_sem, four]
      | 2, _ => simp [go_sem, four]
      | 3, _ => simp [go_sem, four]
    rintro e w1 ⟨rfl, hb1⟩
    rw [allIn_four, hok]
    go_wp2_with fail
    all_goals
      go_ret
      exact ⟨ret_int (by rw [monthsL, hok, if_pos rfl]; clear h1 hb1; simp_all; omega), (Below.alloc (Below.refl _ _) (Nat.le_refl _) _).trans (hb1.mono (by simp))⟩
set_option maxHeartbeats 800000 in
theorem sMonthsIn (a b c d : Int) (w : World) :
    Calls Try.prog 55 #[.int .i64 a, .int .i64 b, .int .i64 c, .int .i64 d] w fun e w' => e = .returned (.int .i64 (monthsL a b c d)) ∧ w = w' := by
  cases ea : endB a
  · go_enter Try.func55, Try.ntmps55
    go_wp2_with (go_at_call 66; refine (l04End_any _ _).mono ?_; rintro e w' ⟨rfl, rfl⟩)
    go_ret
    exact ⟨ret_int (by simp [monthsL, ea]), rfl⟩
  · cases eb : endB b
    · go_enter Try.func55, Try.ntmps55
      go_wp2_with (go_at_call 66; refine (l04End_any _ _).mono ?_; rintro e w' ⟨rfl, rfl⟩)
      go_ret
      exact ⟨ret_int (by simp [monthsL, ea, eb]), rfl⟩
    · cases ec : endB c
      · go_enter Try.func55, Try.ntmps55
        go_wp2_with (go_at_call 66; refine (l04End_any _ _).mono ?_; rintro e w' ⟨rfl, rfl⟩)
        go_ret
        exact ⟨ret_int (by simp [monthsL, ea, eb, ec]), rfl⟩
      · cases ed : endB d
        · go_enter Try.func55, Try.ntmps55
          go_wp2_with (go_at_call 66; refine (l04End_any _ _).mono ?_; rintro e w' ⟨rfl, rfl⟩)
          go_ret
          exact ⟨ret_int (by simp [monthsL, ea, eb, ec, ed]), rfl⟩
        · have hq : (0 ≤ a ∧ a ≤ 3600) ∧ (0 ≤ b ∧ b ≤ 3600) ∧ (0 ≤ c ∧ c ≤ 3600) ∧ (0 ≤ d ∧ d ≤ 3600) := ⟨inB_iff.1 ea, inB_iff.1 eb, inB_iff.1 ec, inB_iff.1 ed⟩
          have h1 : IntKind.i64.wrap (min b d - max a c) = min b d - max a c := IntWalk.i64_in _ ⟨by omega, by omega⟩
          go_enter Try.func55, Try.ntmps55
          go_wp2_with (go_at_call 66; refine (l04End_any _ _).mono ?_; rintro e w' ⟨rfl, rfl⟩)
          all_goals
            go_ret
            exact ⟨ret_int (by simp only [monthsL, ea, eb, ec, ed, Bool.and_self, if_pos]; clear h1; (try simp_all); omega), rfl⟩
end Go.Proofs.Ytmbmpogdakoloaa
