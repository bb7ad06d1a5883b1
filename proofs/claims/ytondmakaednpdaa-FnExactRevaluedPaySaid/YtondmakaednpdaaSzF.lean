/- Weights at any budget. No conditions. -/
import Derived.Test.YtondmakaednpdaaStW
import Derived.Test.YtondmakaednpdaaSeW
namespace Go.Proofs.Ytondmakaednpdaa
open Go.RowKit

set_option maxHeartbeats 400000 in
theorem szFactsFrom (w : World) (A : Option Addr) (n c : Nat) (z : Int) (hn : n ≤ 9223372036854775807) (hz : 0 ≤ z ∧ z ≤ 1048576) :
    Calls Try.prog 39 #[.slice A n c, .int .i64 z] w fun e w' => e = .returned (.int .i64 (if z < (n : Int) then -1 else z - n)) ∧ w = w' := by
  by_cases h : z < (n : Int)
  · rw [if_pos h]
    have h1 : IntKind.i64.wrap (z - (n : Int)) = z - n := IntWalk.i64_in _ ⟨by omega, by omega⟩
    have h2 : z - (n : Int) < 0 := by omega
    go_enter Try.func39, Try.ntmps39
    go_wp2
    go_ret
    exact ⟨rfl, rfl⟩
  · rw [if_neg h]
    have h1 : IntKind.i64.wrap (z - (n : Int)) = z - n := IntWalk.i64_in _ ⟨by omega, by omega⟩
    have h2 : ¬ z - (n : Int) < 0 := by omega
    go_enter Try.func39, Try.ntmps39
    go_wp2
    go_ret
    exact ⟨rfl, rfl⟩

set_option maxHeartbeats 400000 in
theorem szStoreFrom (w : World) (A : Option Addr) (n c : Nat) (z : Int) (hn : n ≤ 9223372036854775807) (hz : 0 ≤ z ∧ z ≤ 1048576) :
    Calls Try.prog 16 #[.agg #[.slice A n c], .int .i64 z] w fun e w' => e = .returned (.int .i64 (if z < (n : Int) then -1 else z - n)) ∧ Below w.heap.size w w' := by
  by_cases h : z < (n : Int)
  · have h2 := szFactsFrom (w.alloc (.cells #[.slice A n c] 39)) A n c z hn hz
    rw [if_pos h] at h2 ⊢
    go_enter Try.func16, Try.ntmps16
    go_wp2_with fail
    refine h2.mono ?_
    rintro e w' ⟨rfl, rfl⟩
    go_wp2_with fail
    go_ret
    exact ⟨rfl, (by (repeat (first | (with_reducible exact Below.refl _ _) | (with_reducible assumption) | (with_reducible refine Below.drew ?_) | (with_reducible refine below_drewN ?_ _) | ((with_reducible refine Below.setCell ?_ ?_ _); rotate_left; focus (first | (simp; done) | omega | (simp; omega))) | ((with_reducible refine Below.alloc ?_ ?_ _); rotate_left; focus (first | exact Nat.le_refl _ | omega | (simp; done) | (simp; omega))))))⟩
  · have h2 := szFactsFrom (w.alloc (.cells #[.slice A n c] 39)) A n c z hn hz
    rw [if_neg h] at h2 ⊢
    have h3 : ¬ z - (n : Int) < 0 := by omega
    go_enter Try.func16, Try.ntmps16
    go_wp2_with fail
    refine h2.mono ?_
    rintro e w' ⟨rfl, rfl⟩
    go_wp2_with fail
    go_ret
    exact ⟨rfl, (by (repeat (first | (with_reducible exact Below.refl _ _) | (with_reducible assumption) | (with_reducible refine Below.drew ?_) | (with_reducible refine below_drewN ?_ _) | ((with_reducible refine Below.setCell ?_ ?_ _); rotate_left; focus (first | (simp; done) | omega | (simp; omega))) | ((with_reducible refine Below.alloc ?_ ?_ _); rotate_left; focus (first | exact Nat.le_refl _ | omega | (simp; done) | (simp; omega))))))⟩

set_option maxHeartbeats 400000 in
theorem szPointsFrom (w : World) (A : Option Addr) (n c : Nat) (z : Int) (hn : n ≤ 9223372036854775807) (hz : 0 ≤ z ∧ z ≤ 1048576) :
    Calls Try.prog 54 #[.slice A n c, .int .i64 z] w fun e w' => e = .returned (.int .i64 (if z < (n : Int) then -1 else z - n)) ∧ w = w' := by
  by_cases h : z < (n : Int)
  · rw [if_pos h]
    have h1 : IntKind.i64.wrap (z - (n : Int)) = z - n := IntWalk.i64_in _ ⟨by omega, by omega⟩
    have h2 : z - (n : Int) < 0 := by omega
    go_enter Try.func54, Try.ntmps54
    go_wp2
    go_ret
    exact ⟨rfl, rfl⟩
  · rw [if_neg h]
    have h1 : IntKind.i64.wrap (z - (n : Int)) = z - n := IntWalk.i64_in _ ⟨by omega, by omega⟩
    have h2 : ¬ z - (n : Int) < 0 := by omega
    go_enter Try.func54, Try.ntmps54
    go_wp2
    go_ret
    exact ⟨rfl, rfl⟩

set_option maxHeartbeats 400000 in
theorem szSeriesFrom (w : World) (A : Option Addr) (n c : Nat) (z : Int) (hn : n ≤ 9223372036854775807) (hz : 0 ≤ z ∧ z ≤ 1048576) :
    Calls Try.prog 27 #[.agg #[.slice A n c], .int .i64 z] w fun e w' => e = .returned (.int .i64 (if z < (n : Int) then -1 else z - n)) ∧ Below w.heap.size w w' := by
  by_cases h : z < (n : Int)
  · have h2 := szPointsFrom (w.alloc (.cells #[.slice A n c] 59)) A n c z hn hz
    rw [if_pos h] at h2 ⊢
    go_enter Try.func27, Try.ntmps27
    go_wp2_with fail
    refine h2.mono ?_
    rintro e w' ⟨rfl, rfl⟩
    go_wp2_with fail
    go_ret
    exact ⟨rfl, (by (repeat (first | (with_reducible exact Below.refl _ _) | (with_reducible assumption) | (with_reducible refine Below.drew ?_) | (with_reducible refine below_drewN ?_ _) | ((with_reducible refine Below.setCell ?_ ?_ _); rotate_left; focus (first | (simp; done) | omega | (simp; omega))) | ((with_reducible refine Below.alloc ?_ ?_ _); rotate_left; focus (first | exact Nat.le_refl _ | omega | (simp; done) | (simp; omega))))))⟩
  · have h2 := szPointsFrom (w.alloc (.cells #[.slice A n c] 59)) A n c z hn hz
    rw [if_neg h] at h2 ⊢
    have h3 : ¬ z - (n : Int) < 0 := by omega
    go_enter Try.func27, Try.ntmps27
    go_wp2_with fail
    refine h2.mono ?_
    rintro e w' ⟨rfl, rfl⟩
    go_wp2_with fail
    go_ret
    exact ⟨rfl, (by (repeat (first | (with_reducible exact Below.refl _ _) | (with_reducible assumption) | (with_reducible refine Below.drew ?_) | (with_reducible refine below_drewN ?_ _) | ((with_reducible refine Below.setCell ?_ ?_ _); rotate_left; focus (first | (simp; done) | omega | (simp; omega))) | ((with_reducible refine Below.alloc ?_ ?_ _); rotate_left; focus (first | exact Nat.le_refl _ | omega | (simp; done) | (simp; omega))))))⟩
end Go.Proofs.Ytondmakaednpdaa
