/- NodeOk of the program and of the reference. No conditions. -/
import Derived.Test.YtanpmbiblibgfaaGreatDoorNo
import Derived.Test.YtanpmbiblibgfaaGreatDoorSFrac
namespace Go.Proofs.YtanpmbiblibgfaaGreatDoor
open Go.RowKit

def atB (x m : Int) : Bool := decide (0 ≤ x) && decide (x < m)
/-- A node that stands behind m others. -/
def nodeB (s : No) (m : Int) : Bool :=
  if s.k = 1 then (s.a == 0 && (s.b == 0 && s.c == 0)) && fracOkL (s.p, s.q)
  else if s.k = 2 then inB s.a 0 7 && ((s.b == 0 && s.c == 0) && (s.p == 0 && s.q == 0))
  else if 3 ≤ s.k ∧ s.k ≤ 8 then (atB s.a m && atB s.b m) && (s.c == 0 && (s.p == 0 && s.q == 0))
  else if s.k = 9 then (atB s.a m && atB s.b m) && (atB s.c m && (s.p == 0 && s.q == 0))
  else false

theorem sTwo (k : Int) (w : World) :
    Calls Tryz.prog 69 #[.int .i64 k] w fun e w' => e = .returned (.bool (inB k 3 8)) ∧ w = w' := by
  go_enter Tryz.func69, Tryz.ntmps69
  go_wp2_with fail
  refine (l01In_any _ _ _ _).mono ?_
  rintro e w' ⟨rfl, rfl⟩
  go_wp2_with fail
  go_ret
  exact ⟨rfl, rfl⟩
theorem sAt (x m : Int) (w : World) :
    Calls Tryz.prog 70 #[.int .i64 x, .int .i64 m] w fun e w' => e = .returned (.bool (atB x m)) ∧ w = w' := by
  obtain ⟨v, hv⟩ : ∃ v, v = atB x m := ⟨_, rfl⟩
  rw [← hv]
  have HV := Lib.hid hv
  clear hv
  go_enter Tryz.func70, Tryz.ntmps70
  go_wp2
  all_goals
    go_ret
    exact ⟨ret_bool (by rw [HV.out]; clear HV; simp [atB]; omega), rfl⟩

set_option maxRecDepth 8000 in
set_option maxHeartbeats 3200000 in
theorem iNodeOk1 (k x y z p q m : Int) (hk : k = 1) (hm0 : 0 ≤ m) (hm1 : m ≤ 4611686018427387904) (w : World) :
    Calls Tryz.prog 29 #[.agg #[.int .i64 k, .int .i64 x, .int .i64 y, .int .i64 z, .int .i64 p, .int .i64 q], .int .i64 m] w fun e w' => e = .returned (.bool (nodeB ⟨k, x, y, z, p, q⟩ m)) ∧ Below w.heap.size w w' := by
  obtain ⟨v, hv⟩ : ∃ v, v = nodeB ⟨k, x, y, z, p, q⟩ m := ⟨_, rfl⟩
  rw [← hv]
  subst hk
  replace hv : v = ((x == 0 && (y == 0 && z == 0)) && fracOkL (p, q)) := hv
  have HV := Lib.hid hv
  clear hv
  obtain ⟨t, ht⟩ : ∃ t, t = m - 1 := ⟨_, rfl⟩
  have hmw : IntKind.i64.wrap (m - 1) = t := by rw [ht]; exact IntWalk.i64_in _ ⟨by omega, by omega⟩
  have HT := Lib.hid ht
  clear ht
  go_enter Tryz.func29, Tryz.ntmps29
  go_wp2_with (first | (go_at_call 44; refine (iFracOk _ _ _).mono ?_; rintro e w1 ⟨rfl, hb1⟩) | (go_at_call 30; refine (within_any _ _ _ _).mono ?_; rintro e w' ⟨rfl, rfl⟩))
  skip
  skip
  all_goals
    go_ret
    refine ⟨ret_bool ?_, (by first | ((repeat (first | (with_reducible exact Below.refl _ _) | (with_reducible assumption) | (with_reducible refine Below.drew ?_) | (with_reducible refine below_drewN ?_ _) | ((with_reducible refine Below.setCell ?_ ?_ _); rotate_left; focus (first | (simp; done) | omega | (simp; omega))) | ((with_reducible refine Below.alloc ?_ ?_ _); rotate_left; focus (first | exact Nat.le_refl _ | omega | (simp; done) | (simp; omega))))); done) | (refine Below.trans ?_ (hb1.mono (by simp <;> omega)); (repeat (first | (with_reducible exact Below.refl _ _) | (with_reducible assumption) | (with_reducible refine Below.drew ?_) | (with_reducible refine below_drewN ?_ _) | ((with_reducible refine Below.setCell ?_ ?_ _); rotate_left; focus (first | (simp; done) | omega | (simp; omega))) | ((with_reducible refine Below.alloc ?_ ?_ _); rotate_left; focus (first | exact Nat.le_refl _ | omega | (simp; done) | (simp; omega)))))))⟩
    have hq := HV.out
    have ht := HT.out
    clear HV HT hmw
    subst hq
    first | rfl | (simp_all)

set_option maxRecDepth 8000 in
set_option maxHeartbeats 3200000 in
theorem iNodeOk2 (k x y z p q m : Int) (hk : k = 2) (hm0 : 0 ≤ m) (hm1 : m ≤ 4611686018427387904) (w : World) :
    Calls Tryz.prog 29 #[.agg #[.int .i64 k, .int .i64 x, .int .i64 y, .int .i64 z, .int .i64 p, .int .i64 q], .int .i64 m] w fun e w' => e = .returned (.bool (nodeB ⟨k, x, y, z, p, q⟩ m)) ∧ Below w.heap.size w w' := by
  obtain ⟨v, hv⟩ : ∃ v, v = nodeB ⟨k, x, y, z, p, q⟩ m := ⟨_, rfl⟩
  rw [← hv]
  subst hk
  replace hv : v = (inB x 0 7 && ((y == 0 && z == 0) && (p == 0 && q == 0))) := hv
  have HV := Lib.hid hv
  clear hv
  obtain ⟨t, ht⟩ : ∃ t, t = m - 1 := ⟨_, rfl⟩
  have hmw : IntKind.i64.wrap (m - 1) = t := by rw [ht]; exact IntWalk.i64_in _ ⟨by omega, by omega⟩
  have HT := Lib.hid ht
  clear ht
  go_enter Tryz.func29, Tryz.ntmps29
  go_wp2_with (first | (go_at_call 44; refine (iFracOk _ _ _).mono ?_; rintro e w1 ⟨rfl, hb1⟩) | (go_at_call 30; refine (within_any _ _ _ _).mono ?_; rintro e w' ⟨rfl, rfl⟩))
  skip
  skip
  all_goals
    go_ret
    refine ⟨ret_bool ?_, (by first | ((repeat (first | (with_reducible exact Below.refl _ _) | (with_reducible assumption) | (with_reducible refine Below.drew ?_) | (with_reducible refine below_drewN ?_ _) | ((with_reducible refine Below.setCell ?_ ?_ _); rotate_left; focus (first | (simp; done) | omega | (simp; omega))) | ((with_reducible refine Below.alloc ?_ ?_ _); rotate_left; focus (first | exact Nat.le_refl _ | omega | (simp; done) | (simp; omega))))); done) | (refine Below.trans ?_ (hb1.mono (by simp <;> omega)); (repeat (first | (with_reducible exact Below.refl _ _) | (with_reducible assumption) | (with_reducible refine Below.drew ?_) | (with_reducible refine below_drewN ?_ _) | ((with_reducible refine Below.setCell ?_ ?_ _); rotate_left; focus (first | (simp; done) | omega | (simp; omega))) | ((with_reducible refine Below.alloc ?_ ?_ _); rotate_left; focus (first | exact Nat.le_refl _ | omega | (simp; done) | (simp; omega)))))))⟩
    have hq := HV.out
    have ht := HT.out
    clear HV HT hmw
    subst hq
    first | rfl | (simp_all [inB] <;> omega)

set_option maxRecDepth 8000 in
set_option maxHeartbeats 3200000 in
theorem iNodeOk3 (k x y z p q m : Int) (h1 : 3 ≤ k) (h2 : k ≤ 8) (hm0 : 0 ≤ m) (hm1 : m ≤ 4611686018427387904) (w : World) :
    Calls Tryz.prog 29 #[.agg #[.int .i64 k, .int .i64 x, .int .i64 y, .int .i64 z, .int .i64 p, .int .i64 q], .int .i64 m] w fun e w' => e = .returned (.bool (nodeB ⟨k, x, y, z, p, q⟩ m)) ∧ Below w.heap.size w w' := by
  obtain ⟨v, hv⟩ : ∃ v, v = nodeB ⟨k, x, y, z, p, q⟩ m := ⟨_, rfl⟩
  rw [← hv]
  replace hv : v = ((atB x m && atB y m) && (z == 0 && (p == 0 && q == 0))) := by rw [hv, nodeB, if_neg (show ¬ k = 1 by omega), if_neg (show ¬ k = 2 by omega), if_pos ⟨h1, h2⟩]
  have e1 : (k == 1) = false := by simp; omega
  have e2 : (k == 2) = false := by simp; omega
  have e9 : (k == 9) = false := by simp; omega
  have eb : inB k 3 8 = true := inB_t h1 h2
  have eb2 : inB k 3 9 = true := inB_t h1 (by omega)
  have HV := Lib.hid hv
  clear hv
  obtain ⟨t, ht⟩ : ∃ t, t = m - 1 := ⟨_, rfl⟩
  have hmw : IntKind.i64.wrap (m - 1) = t := by rw [ht]; exact IntWalk.i64_in _ ⟨by omega, by omega⟩
  have HT := Lib.hid ht
  clear ht
  go_enter Tryz.func29, Tryz.ntmps29
  go_wp2_with (first | (go_at_call 44; refine (iFracOk _ _ _).mono ?_; rintro e w1 ⟨rfl, hb1⟩) | (go_at_call 30; refine (within_any _ _ _ _).mono ?_; rintro e w' ⟨rfl, rfl⟩))
  go_region
  all_goals go_wp2_with (first | (go_at_call 44; refine (iFracOk _ _ _).mono ?_; rintro e w1 ⟨rfl, hb1⟩) | (go_at_call 30; refine (within_any _ _ _ _).mono ?_; rintro e w' ⟨rfl, rfl⟩))
  all_goals
    go_ret
    refine ⟨ret_bool ?_, (by first | ((repeat (first | (with_reducible exact Below.refl _ _) | (with_reducible assumption) | (with_reducible refine Below.drew ?_) | (with_reducible refine below_drewN ?_ _) | ((with_reducible refine Below.setCell ?_ ?_ _); rotate_left; focus (first | (simp; done) | omega | (simp; omega))) | ((with_reducible refine Below.alloc ?_ ?_ _); rotate_left; focus (first | exact Nat.le_refl _ | omega | (simp; done) | (simp; omega))))); done) | (refine Below.trans ?_ (hb1.mono (by simp <;> omega)); (repeat (first | (with_reducible exact Below.refl _ _) | (with_reducible assumption) | (with_reducible refine Below.drew ?_) | (with_reducible refine below_drewN ?_ _) | ((with_reducible refine Below.setCell ?_ ?_ _); rotate_left; focus (first | (simp; done) | omega | (simp; omega))) | ((with_reducible refine Below.alloc ?_ ?_ _); rotate_left; focus (first | exact Nat.le_refl _ | omega | (simp; done) | (simp; omega)))))))⟩
    have hq := HV.out
    have ht := HT.out
    clear HV HT hmw
    subst hq
    first | rfl | (simp_all [inB, atB] <;> first | omega | (rw [Bool.eq_iff_iff]; simp; omega))

set_option maxRecDepth 8000 in
set_option maxHeartbeats 3200000 in
theorem iNodeOk9 (k x y z p q m : Int) (hk : k = 9) (hm0 : 0 ≤ m) (hm1 : m ≤ 4611686018427387904) (w : World) :
    Calls Tryz.prog 29 #[.agg #[.int .i64 k, .int .i64 x, .int .i64 y, .int .i64 z, .int .i64 p, .int .i64 q], .int .i64 m] w fun e w' => e = .returned (.bool (nodeB ⟨k, x, y, z, p, q⟩ m)) ∧ Below w.heap.size w w' := by
  obtain ⟨v, hv⟩ : ∃ v, v = nodeB ⟨k, x, y, z, p, q⟩ m := ⟨_, rfl⟩
  rw [← hv]
  subst hk
  replace hv : v = ((atB x m && atB y m) && (atB z m && (p == 0 && q == 0))) := hv
  have eb : inB (9 : Int) 3 8 = false := rfl
  have eb2 : inB (9 : Int) 3 9 = true := rfl
  have HV := Lib.hid hv
  clear hv
  obtain ⟨t, ht⟩ : ∃ t, t = m - 1 := ⟨_, rfl⟩
  have hmw : IntKind.i64.wrap (m - 1) = t := by rw [ht]; exact IntWalk.i64_in _ ⟨by omega, by omega⟩
  have HT := Lib.hid ht
  clear ht
  go_enter Tryz.func29, Tryz.ntmps29
  go_wp2_with (first | (go_at_call 44; refine (iFracOk _ _ _).mono ?_; rintro e w1 ⟨rfl, hb1⟩) | (go_at_call 30; refine (within_any _ _ _ _).mono ?_; rintro e w' ⟨rfl, rfl⟩))
  go_region
  all_goals go_wp2_with (first | (go_at_call 44; refine (iFracOk _ _ _).mono ?_; rintro e w1 ⟨rfl, hb1⟩) | (go_at_call 30; refine (within_any _ _ _ _).mono ?_; rintro e w' ⟨rfl, rfl⟩))
  all_goals
    go_ret
    refine ⟨ret_bool ?_, (by first | ((repeat (first | (with_reducible exact Below.refl _ _) | (with_reducible assumption) | (with_reducible refine Below.drew ?_) | (with_reducible refine below_drewN ?_ _) | ((with_reducible refine Below.setCell ?_ ?_ _); rotate_left; focus (first | (simp; done) | omega | (simp; omega))) | ((with_reducible refine Below.alloc ?_ ?_ _); rotate_left; focus (first | exact Nat.le_refl _ | omega | (simp; done) | (simp; omega))))); done) | (refine Below.trans ?_ (hb1.mono (by simp <;> omega)); (repeat (first | (with_reducible exact Below.refl _ _) | (with_reducible assumption) | (with_reducible refine Below.drew ?_) | (with_reducible refine below_drewN ?_ _) | ((with_reducible refine Below.setCell ?_ ?_ _); rotate_left; focus (first | (simp; done) | omega | (simp; omega))) | ((with_reducible refine Below.alloc ?_ ?_ _); rotate_left; focus (first | exact Nat.le_refl _ | omega | (simp; done) | (simp; omega)))))))⟩
    have hq := HV.out
    have ht := HT.out
    clear HV HT hmw
    subst hq
    first | rfl | (simp_all [inB, atB] <;> first | omega | (rw [Bool.eq_iff_iff]; simp; omega))

set_option maxRecDepth 8000 in
set_option maxHeartbeats 3200000 in
theorem iNodeOk0 (k x y z p q m : Int) (hk : k < 1 ∨ 9 < k) (hm0 : 0 ≤ m) (hm1 : m ≤ 4611686018427387904) (w : World) :
    Calls Tryz.prog 29 #[.agg #[.int .i64 k, .int .i64 x, .int .i64 y, .int .i64 z, .int .i64 p, .int .i64 q], .int .i64 m] w fun e w' => e = .returned (.bool (nodeB ⟨k, x, y, z, p, q⟩ m)) ∧ Below w.heap.size w w' := by
  obtain ⟨v, hv⟩ : ∃ v, v = nodeB ⟨k, x, y, z, p, q⟩ m := ⟨_, rfl⟩
  rw [← hv]
  replace hv : v = false := by rw [hv, nodeB, if_neg (show ¬ k = 1 by omega), if_neg (show ¬ k = 2 by omega), if_neg (show ¬ (3 ≤ k ∧ k ≤ 8) by omega), if_neg (show ¬ k = 9 by omega)]
  have e1 : (k == 1) = false := by simp; omega
  have e2 : (k == 2) = false := by simp; omega
  have e9 : (k == 9) = false := by simp; omega
  have eb : inB k 3 8 = false := inB_no.2 (by omega)
  have eb2 : inB k 3 9 = false := inB_no.2 (by omega)
  have HV := Lib.hid hv
  clear hv
  obtain ⟨t, ht⟩ : ∃ t, t = m - 1 := ⟨_, rfl⟩
  have hmw : IntKind.i64.wrap (m - 1) = t := by rw [ht]; exact IntWalk.i64_in _ ⟨by omega, by omega⟩
  have HT := Lib.hid ht
  clear ht
  go_enter Tryz.func29, Tryz.ntmps29
  go_wp2_with (first | (go_at_call 44; refine (iFracOk _ _ _).mono ?_; rintro e w1 ⟨rfl, hb1⟩) | (go_at_call 30; refine (within_any _ _ _ _).mono ?_; rintro e w' ⟨rfl, rfl⟩))
  skip
  skip
  all_goals
    go_ret
    refine ⟨ret_bool ?_, (by first | ((repeat (first | (with_reducible exact Below.refl _ _) | (with_reducible assumption) | (with_reducible refine Below.drew ?_) | (with_reducible refine below_drewN ?_ _) | ((with_reducible refine Below.setCell ?_ ?_ _); rotate_left; focus (first | (simp; done) | omega | (simp; omega))) | ((with_reducible refine Below.alloc ?_ ?_ _); rotate_left; focus (first | exact Nat.le_refl _ | omega | (simp; done) | (simp; omega))))); done) | (refine Below.trans ?_ (hb1.mono (by simp <;> omega)); (repeat (first | (with_reducible exact Below.refl _ _) | (with_reducible assumption) | (with_reducible refine Below.drew ?_) | (with_reducible refine below_drewN ?_ _) | ((with_reducible refine Below.setCell ?_ ?_ _); rotate_left; focus (first | (simp; done) | omega | (simp; omega))) | ((with_reducible refine Below.alloc ?_ ?_ _); rotate_left; focus (first | exact Nat.le_refl _ | omega | (simp; done) | (simp; omega)))))))⟩
    have hq := HV.out
    have ht := HT.out
    clear HV HT hmw
    subst hq
    first | rfl | (simp_all)

theorem iNodeOk (s : No) (m : Int) (hm0 : 0 ≤ m) (hm1 : m ≤ 4611686018427387904) (w : World) :
    Calls Tryz.prog 29 #[s.val, .int .i64 m] w fun e w' => e = .returned (.bool (nodeB s m)) ∧ Below w.heap.size w w' := by
  obtain ⟨k, x, y, z, p, q⟩ := s
  by_cases h1 : k = 1
  · exact iNodeOk1 k x y z p q m h1 hm0 hm1 w
  by_cases h2 : k = 2
  · exact iNodeOk2 k x y z p q m h2 hm0 hm1 w
  by_cases h3 : 3 ≤ k ∧ k ≤ 8
  · exact iNodeOk3 k x y z p q m h3.1 h3.2 hm0 hm1 w
  by_cases h9 : k = 9
  · exact iNodeOk9 k x y z p q m h9 hm0 hm1 w
  exact iNodeOk0 k x y z p q m (by omega) hm0 hm1 w

set_option maxRecDepth 8000 in
set_option maxHeartbeats 3200000 in
theorem sNodeOk1 (k x y z p q m : Int) (hk : k = 1) (hm0 : 0 ≤ m) (hm1 : m ≤ 4611686018427387904) (w : World) :
    Calls Tryz.prog 51 #[.agg #[.int .i64 k, .int .i64 x, .int .i64 y, .int .i64 z, .int .i64 p, .int .i64 q], .int .i64 m] w fun e w' => e = .returned (.bool (nodeB ⟨k, x, y, z, p, q⟩ m)) ∧ Below w.heap.size w w' := by
  obtain ⟨v, hv⟩ : ∃ v, v = nodeB ⟨k, x, y, z, p, q⟩ m := ⟨_, rfl⟩
  rw [← hv]
  subst hk
  replace hv : v = ((x == 0 && (y == 0 && z == 0)) && fracOkL (p, q)) := hv
  have HV := Lib.hid hv
  clear hv
  obtain ⟨t, ht⟩ : ∃ t, t = m - 1 := ⟨_, rfl⟩
  have hmw : IntKind.i64.wrap (m - 1) = t := by rw [ht]; exact IntWalk.i64_in _ ⟨by omega, by omega⟩
  have HT := Lib.hid ht
  clear ht
  go_enter Tryz.func51, Tryz.ntmps51
  go_wp2_with (first | (go_at_call 52; refine (sFracOk _ _ _).mono ?_; rintro e w1 ⟨rfl, hb1⟩) | (go_at_call 40; refine (l01In_any _ _ _ _).mono ?_; rintro e w' ⟨rfl, rfl⟩) | (go_at_call 69; refine (sTwo _ _).mono ?_; rintro e w' ⟨rfl, rfl⟩) | (go_at_call 70; refine (sAt _ _ _).mono ?_; rintro e w' ⟨rfl, rfl⟩))
  skip
  skip
  all_goals
    go_ret
    refine ⟨ret_bool ?_, (by first | ((repeat (first | (with_reducible exact Below.refl _ _) | (with_reducible assumption) | (with_reducible refine Below.drew ?_) | (with_reducible refine below_drewN ?_ _) | ((with_reducible refine Below.setCell ?_ ?_ _); rotate_left; focus (first | (simp; done) | omega | (simp; omega))) | ((with_reducible refine Below.alloc ?_ ?_ _); rotate_left; focus (first | exact Nat.le_refl _ | omega | (simp; done) | (simp; omega))))); done) | (refine Below.trans ?_ (hb1.mono (by simp <;> omega)); (repeat (first | (with_reducible exact Below.refl _ _) | (with_reducible assumption) | (with_reducible refine Below.drew ?_) | (with_reducible refine below_drewN ?_ _) | ((with_reducible refine Below.setCell ?_ ?_ _); rotate_left; focus (first | (simp; done) | omega | (simp; omega))) | ((with_reducible refine Below.alloc ?_ ?_ _); rotate_left; focus (first | exact Nat.le_refl _ | omega | (simp; done) | (simp; omega)))))))⟩
    have hq := HV.out
    have ht := HT.out
    clear HV HT hmw
    subst hq
    first | rfl | (simp_all)

set_option maxRecDepth 8000 in
set_option maxHeartbeats 3200000 in
theorem sNodeOk2 (k x y z p q m : Int) (hk : k = 2) (hm0 : 0 ≤ m) (hm1 : m ≤ 4611686018427387904) (w : World) :
    Calls Tryz.prog 51 #[.agg #[.int .i64 k, .int .i64 x, .int .i64 y, .int .i64 z, .int .i64 p, .int .i64 q], .int .i64 m] w fun e w' => e = .returned (.bool (nodeB ⟨k, x, y, z, p, q⟩ m)) ∧ Below w.heap.size w w' := by
  obtain ⟨v, hv⟩ : ∃ v, v = nodeB ⟨k, x, y, z, p, q⟩ m := ⟨_, rfl⟩
  rw [← hv]
  subst hk
  replace hv : v = (inB x 0 7 && ((y == 0 && z == 0) && (p == 0 && q == 0))) := hv
  have HV := Lib.hid hv
  clear hv
  obtain ⟨t, ht⟩ : ∃ t, t = m - 1 := ⟨_, rfl⟩
  have hmw : IntKind.i64.wrap (m - 1) = t := by rw [ht]; exact IntWalk.i64_in _ ⟨by omega, by omega⟩
  have HT := Lib.hid ht
  clear ht
  go_enter Tryz.func51, Tryz.ntmps51
  go_wp2_with (first | (go_at_call 52; refine (sFracOk _ _ _).mono ?_; rintro e w1 ⟨rfl, hb1⟩) | (go_at_call 40; refine (l01In_any _ _ _ _).mono ?_; rintro e w' ⟨rfl, rfl⟩) | (go_at_call 69; refine (sTwo _ _).mono ?_; rintro e w' ⟨rfl, rfl⟩) | (go_at_call 70; refine (sAt _ _ _).mono ?_; rintro e w' ⟨rfl, rfl⟩))
  skip
  skip
  all_goals
    go_ret
    refine ⟨ret_bool ?_, (by first | ((repeat (first | (with_reducible exact Below.refl _ _) | (with_reducible assumption) | (with_reducible refine Below.drew ?_) | (with_reducible refine below_drewN ?_ _) | ((with_reducible refine Below.setCell ?_ ?_ _); rotate_left; focus (first | (simp; done) | omega | (simp; omega))) | ((with_reducible refine Below.alloc ?_ ?_ _); rotate_left; focus (first | exact Nat.le_refl _ | omega | (simp; done) | (simp; omega))))); done) | (refine Below.trans ?_ (hb1.mono (by simp <;> omega)); (repeat (first | (with_reducible exact Below.refl _ _) | (with_reducible assumption) | (with_reducible refine Below.drew ?_) | (with_reducible refine below_drewN ?_ _) | ((with_reducible refine Below.setCell ?_ ?_ _); rotate_left; focus (first | (simp; done) | omega | (simp; omega))) | ((with_reducible refine Below.alloc ?_ ?_ _); rotate_left; focus (first | exact Nat.le_refl _ | omega | (simp; done) | (simp; omega)))))))⟩
    have hq := HV.out
    have ht := HT.out
    clear HV HT hmw
    subst hq
    first | rfl | (simp_all [inB] <;> omega)

set_option maxRecDepth 8000 in
set_option maxHeartbeats 3200000 in
theorem sNodeOk3 (k x y z p q m : Int) (h1 : 3 ≤ k) (h2 : k ≤ 8) (hm0 : 0 ≤ m) (hm1 : m ≤ 4611686018427387904) (w : World) :
    Calls Tryz.prog 51 #[.agg #[.int .i64 k, .int .i64 x, .int .i64 y, .int .i64 z, .int .i64 p, .int .i64 q], .int .i64 m] w fun e w' => e = .returned (.bool (nodeB ⟨k, x, y, z, p, q⟩ m)) ∧ Below w.heap.size w w' := by
  obtain ⟨v, hv⟩ : ∃ v, v = nodeB ⟨k, x, y, z, p, q⟩ m := ⟨_, rfl⟩
  rw [← hv]
  replace hv : v = ((atB x m && atB y m) && (z == 0 && (p == 0 && q == 0))) := by rw [hv, nodeB, if_neg (show ¬ k = 1 by omega), if_neg (show ¬ k = 2 by omega), if_pos ⟨h1, h2⟩]
  have e1 : (k == 1) = false := by simp; omega
  have e2 : (k == 2) = false := by simp; omega
  have e9 : (k == 9) = false := by simp; omega
  have eb : inB k 3 8 = true := inB_t h1 h2
  have eb2 : inB k 3 9 = true := inB_t h1 (by omega)
  have HV := Lib.hid hv
  clear hv
  obtain ⟨t, ht⟩ : ∃ t, t = m - 1 := ⟨_, rfl⟩
  have hmw : IntKind.i64.wrap (m - 1) = t := by rw [ht]; exact IntWalk.i64_in _ ⟨by omega, by omega⟩
  have HT := Lib.hid ht
  clear ht
  go_enter Tryz.func51, Tryz.ntmps51
  go_wp2_with (first | (go_at_call 52; refine (sFracOk _ _ _).mono ?_; rintro e w1 ⟨rfl, hb1⟩) | (go_at_call 40; refine (l01In_any _ _ _ _).mono ?_; rintro e w' ⟨rfl, rfl⟩) | (go_at_call 69; refine (sTwo _ _).mono ?_; rintro e w' ⟨rfl, rfl⟩) | (go_at_call 70; refine (sAt _ _ _).mono ?_; rintro e w' ⟨rfl, rfl⟩))
  skip
  skip
  all_goals
    go_ret
    refine ⟨ret_bool ?_, (by first | ((repeat (first | (with_reducible exact Below.refl _ _) | (with_reducible assumption) | (with_reducible refine Below.drew ?_) | (with_reducible refine below_drewN ?_ _) | ((with_reducible refine Below.setCell ?_ ?_ _); rotate_left; focus (first | (simp; done) | omega | (simp; omega))) | ((with_reducible refine Below.alloc ?_ ?_ _); rotate_left; focus (first | exact Nat.le_refl _ | omega | (simp; done) | (simp; omega))))); done) | (refine Below.trans ?_ (hb1.mono (by simp <;> omega)); (repeat (first | (with_reducible exact Below.refl _ _) | (with_reducible assumption) | (with_reducible refine Below.drew ?_) | (with_reducible refine below_drewN ?_ _) | ((with_reducible refine Below.setCell ?_ ?_ _); rotate_left; focus (first | (simp; done) | omega | (simp; omega))) | ((with_reducible refine Below.alloc ?_ ?_ _); rotate_left; focus (first | exact Nat.le_refl _ | omega | (simp; done) | (simp; omega)))))))⟩
    have hq := HV.out
    have ht := HT.out
    clear HV HT hmw
    subst hq
    first | rfl | (simp_all [inB, atB] <;> first | omega | (rw [Bool.eq_iff_iff]; simp; omega))

set_option maxRecDepth 8000 in
set_option maxHeartbeats 3200000 in
theorem sNodeOk9 (k x y z p q m : Int) (hk : k = 9) (hm0 : 0 ≤ m) (hm1 : m ≤ 4611686018427387904) (w : World) :
    Calls Tryz.prog 51 #[.agg #[.int .i64 k, .int .i64 x, .int .i64 y, .int .i64 z, .int .i64 p, .int .i64 q], .int .i64 m] w fun e w' => e = .returned (.bool (nodeB ⟨k, x, y, z, p, q⟩ m)) ∧ Below w.heap.size w w' := by
  obtain ⟨v, hv⟩ : ∃ v, v = nodeB ⟨k, x, y, z, p, q⟩ m := ⟨_, rfl⟩
  rw [← hv]
  subst hk
  replace hv : v = ((atB x m && atB y m) && (atB z m && (p == 0 && q == 0))) := hv
  have eb : inB (9 : Int) 3 8 = false := rfl
  have eb2 : inB (9 : Int) 3 9 = true := rfl
  have HV := Lib.hid hv
  clear hv
  obtain ⟨t, ht⟩ : ∃ t, t = m - 1 := ⟨_, rfl⟩
  have hmw : IntKind.i64.wrap (m - 1) = t := by rw [ht]; exact IntWalk.i64_in _ ⟨by omega, by omega⟩
  have HT := Lib.hid ht
  clear ht
  go_enter Tryz.func51, Tryz.ntmps51
  go_wp2_with (first | (go_at_call 52; refine (sFracOk _ _ _).mono ?_; rintro e w1 ⟨rfl, hb1⟩) | (go_at_call 40; refine (l01In_any _ _ _ _).mono ?_; rintro e w' ⟨rfl, rfl⟩) | (go_at_call 69; refine (sTwo _ _).mono ?_; rintro e w' ⟨rfl, rfl⟩) | (go_at_call 70; refine (sAt _ _ _).mono ?_; rintro e w' ⟨rfl, rfl⟩))
  skip
  skip
  all_goals
    go_ret
    refine ⟨ret_bool ?_, (by first | ((repeat (first | (with_reducible exact Below.refl _ _) | (with_reducible assumption) | (with_reducible refine Below.drew ?_) | (with_reducible refine below_drewN ?_ _) | ((with_reducible refine Below.setCell ?_ ?_ _); rotate_left; focus (first | (simp; done) | omega | (simp; omega))) | ((with_reducible refine Below.alloc ?_ ?_ _); rotate_left; focus (first | exact Nat.le_refl _ | omega | (simp; done) | (simp; omega))))); done) | (refine Below.trans ?_ (hb1.mono (by simp <;> omega)); (repeat (first | (with_reducible exact Below.refl _ _) | (with_reducible assumption) | (with_reducible refine Below.drew ?_) | (with_reducible refine below_drewN ?_ _) | ((with_reducible refine Below.setCell ?_ ?_ _); rotate_left; focus (first | (simp; done) | omega | (simp; omega))) | ((with_reducible refine Below.alloc ?_ ?_ _); rotate_left; focus (first | exact Nat.le_refl _ | omega | (simp; done) | (simp; omega)))))))⟩
    have hq := HV.out
    have ht := HT.out
    clear HV HT hmw
    subst hq
    first | rfl | (simp_all [inB, atB] <;> first | omega | (rw [Bool.eq_iff_iff]; simp; omega))

set_option maxRecDepth 8000 in
set_option maxHeartbeats 3200000 in
theorem sNodeOk0 (k x y z p q m : Int) (hk : k < 1 ∨ 9 < k) (hm0 : 0 ≤ m) (hm1 : m ≤ 4611686018427387904) (w : World) :
    Calls Tryz.prog 51 #[.agg #[.int .i64 k, .int .i64 x, .int .i64 y, .int .i64 z, .int .i64 p, .int .i64 q], .int .i64 m] w fun e w' => e = .returned (.bool (nodeB ⟨k, x, y, z, p, q⟩ m)) ∧ Below w.heap.size w w' := by
  obtain ⟨v, hv⟩ : ∃ v, v = nodeB ⟨k, x, y, z, p, q⟩ m := ⟨_, rfl⟩
  rw [← hv]
  replace hv : v = false := by rw [hv, nodeB, if_neg (show ¬ k = 1 by omega), if_neg (show ¬ k = 2 by omega), if_neg (show ¬ (3 ≤ k ∧ k ≤ 8) by omega), if_neg (show ¬ k = 9 by omega)]
  have e1 : (k == 1) = false := by simp; omega
  have e2 : (k == 2) = false := by simp; omega
  have e9 : (k == 9) = false := by simp; omega
  have eb : inB k 3 8 = false := inB_no.2 (by omega)
  have eb2 : inB k 3 9 = false := inB_no.2 (by omega)
  have HV := Lib.hid hv
  clear hv
  obtain ⟨t, ht⟩ : ∃ t, t = m - 1 := ⟨_, rfl⟩
  have hmw : IntKind.i64.wrap (m - 1) = t := by rw [ht]; exact IntWalk.i64_in _ ⟨by omega, by omega⟩
  have HT := Lib.hid ht
  clear ht
  go_enter Tryz.func51, Tryz.ntmps51
  go_wp2_with (first | (go_at_call 52; refine (sFracOk _ _ _).mono ?_; rintro e w1 ⟨rfl, hb1⟩) | (go_at_call 40; refine (l01In_any _ _ _ _).mono ?_; rintro e w' ⟨rfl, rfl⟩) | (go_at_call 69; refine (sTwo _ _).mono ?_; rintro e w' ⟨rfl, rfl⟩) | (go_at_call 70; refine (sAt _ _ _).mono ?_; rintro e w' ⟨rfl, rfl⟩))
  skip
  skip
  all_goals
    go_ret
    refine ⟨ret_bool ?_, (by first | ((repeat (first | (with_reducible exact Below.refl _ _) | (with_reducible assumption) | (with_reducible refine Below.drew ?_) | (with_reducible refine below_drewN ?_ _) | ((with_reducible refine Below.setCell ?_ ?_ _); rotate_left; focus (first | (simp; done) | omega | (simp; omega))) | ((with_reducible refine Below.alloc ?_ ?_ _); rotate_left; focus (first | exact Nat.le_refl _ | omega | (simp; done) | (simp; omega))))); done) | (refine Below.trans ?_ (hb1.mono (by simp <;> omega)); (repeat (first | (with_reducible exact Below.refl _ _) | (with_reducible assumption) | (with_reducible refine Below.drew ?_) | (with_reducible refine below_drewN ?_ _) | ((with_reducible refine Below.setCell ?_ ?_ _); rotate_left; focus (first | (simp; done) | omega | (simp; omega))) | ((with_reducible refine Below.alloc ?_ ?_ _); rotate_left; focus (first | exact Nat.le_refl _ | omega | (simp; done) | (simp; omega)))))))⟩
    have hq := HV.out
    have ht := HT.out
    clear HV HT hmw
    subst hq
    first | rfl | (simp_all)

theorem sNodeOk (s : No) (m : Int) (hm0 : 0 ≤ m) (hm1 : m ≤ 4611686018427387904) (w : World) :
    Calls Tryz.prog 51 #[s.val, .int .i64 m] w fun e w' => e = .returned (.bool (nodeB s m)) ∧ Below w.heap.size w w' := by
  obtain ⟨k, x, y, z, p, q⟩ := s
  by_cases h1 : k = 1
  · exact sNodeOk1 k x y z p q m h1 hm0 hm1 w
  by_cases h2 : k = 2
  · exact sNodeOk2 k x y z p q m h2 hm0 hm1 w
  by_cases h3 : 3 ≤ k ∧ k ≤ 8
  · exact sNodeOk3 k x y z p q m h3.1 h3.2 hm0 hm1 w
  by_cases h9 : k = 9
  · exact sNodeOk9 k x y z p q m h9 hm0 hm1 w
  exact sNodeOk0 k x y z p q m (by omega) hm0 hm1 w
end Go.Proofs.YtanpmbiblibgfaaGreatDoor
