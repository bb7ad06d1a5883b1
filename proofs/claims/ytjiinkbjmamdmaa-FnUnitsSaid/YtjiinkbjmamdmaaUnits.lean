/- Units are bought and paid out in proportion. No conditions. -/
import Derived.Test.YtjiinkbjmamdmaaPlaces
import Derived.Test.YtjiinkbjmamdmaaPension
import Derived.Test.YtjiinkbjmamdmaaFracM
import Derived.Test.YtjiinkbjmamdmaaArgs
import Derived.Deep.RegionHeld3
namespace Go.Proofs.Ytjiinkbjmamdmaa
open Go.RowKit

theorem unitsL_in {n d : Int} (h1 : 0 ≤ n) (h2 : n ≤ 1000000000) (h3 : 1 ≤ d) (h4 : d ≤ 100000) : unitsL n d = redL n d := by
  rw [unitsL, inB_t h1 h2, inB_t h3 h4]
  rfl
theorem units_law {x2 price rate : Int} (h1 : 0 ≤ x2) (h2 : x2 < 10000) (h3 : 1 ≤ price) (h4 : price ≤ 500) (h5 : 1 ≤ rate) (h6 : rate ≤ 900) :
    ∃ a b : Int, unitsL x2 price = some (a, b) ∧ unitPenL 3 rate 0 a b = some (x2 * rate / price) := by
  obtain ⟨a, b, e1, k1, k2, k3, k4, k5⟩ := redL_parts (n := x2) (d := price) h3 (by omega) (by omega) (by omega)
  refine ⟨a, b, by rw [unitsL_in h1 (by omega) h3 (by omega)]; exact e1, ?_⟩
  have ha : 0 ≤ a := by
    have : 0 ≤ a * price := by rw [← k2]; exact Int.mul_nonneg h1 (by omega)
    exact Int.nonneg_of_mul_nonneg_left this (by omega)
  have s1 : smallL (a, b) = true := by
    rw [smallL, k1, inB_t (by omega) (by omega)]
    rfl
  have s2 : smallL (rate, 1) = true := by
    rw [smallL_iff]
    exact ⟨by omega, by omega, by simp⟩
  have hm := mul_bd ha (show a ≤ 10000 by omega) (show 0 ≤ rate by omega) h6
  have e2 : mulL (a, b) (rate, 1) = redL (a * rate) (b * 1) := by rw [mulL, s1, s2]; rfl
  rw [Int.mul_one] at e2
  obtain ⟨u, v, e3, q1, q2, q3, q4, q5⟩ := redL_parts (n := a * rate) (d := b) k3 (by omega) (by omega) (by omega)
  have hok : designOkL 3 rate 0 = true := by simp [designOkL, inB, h5]; omega
  rw [unitPenL, if_pos (by simp [hok, k1, ha]), e2, e3, oB_some, oN_some, oD_some, if_pos rfl, floor_red (by omega) e3]
  congr 1
  refine floor_same (by omega) (by omega) ?_
  rw [Int.mul_assoc, Int.mul_comm rate price, ← Int.mul_assoc, ← k2, Int.mul_assoc, Int.mul_comm b rate, ← Int.mul_assoc]
theorem units_72 : unitsL 7 2 = some (7, 2) := by decide +kernel
theorem iUnits72 (w : World) :
    Calls Try.prog 30 #[.int .i64 7, .int .i64 2] w fun e w' => e = .returned (.agg #[.int .i64 7, .int .i64 2]) ∧ Below w.heap.size w w' := by
  have h := iUnitsFor 7 2 w
  rw [units_72] at h
  exact h

set_option maxHeartbeats 1600000 in
theorem walkUnits (A : Option Addr) (n c : Nat) (w : World) (hb : Bys w w.heap.size A n) :
    Calls Try.prog 14 #[.slice A n c] w fun e w' => e = .returned (.bool true) ∧ Below w.heap.size w w' := by
  have hn := hb.1
  by_cases hbig : (1048576 : Int) < n
  · have hd : decide ((1048576 : Int) < n) = true := by simpa using hbig
    go_enter Try.func14, Try.ntmps14
    go_wp2_with fail
    refine (lBig _ _ _ _ (by omega)).mono ?_
    rintro e w' ⟨rfl, rfl⟩
    go_wp2_with fail
    go_ret
    exact ⟨rfl, Below.refl _ _⟩
  · have hd : decide ((1048576 : Int) < n) = false := by simpa using hbig
    go_enter Try.func14, Try.ntmps14
    go_wp2_with fail
    refine (lBig _ _ _ _ (by omega)).mono ?_
    rintro e w' ⟨rfl, rfl⟩
    go_wp2_with fail
    refine (sPlacesAt _ _ _ _ hb).mono ?_
    rintro e w1 ⟨g, cap, f, rfl, hg0, hg1, hp, hb1⟩
    obtain ⟨p0, p0a, p0b⟩ := hp 0 (by omega)
    obtain ⟨p1, p1a, p1b⟩ := hp 1 (by omega)
    obtain ⟨p2, p2a, p2b⟩ := hp 2 (by omega)
    clear hp
    generalize f 0 = x0 at *
    generalize f 1 = x1 at *
    generalize f 2 = x2 at *
    have hr1 := Int.emod_nonneg x0 (show (500 : Int) ≠ 0 by omega)
    have hr2 := Int.emod_lt_of_pos x0 (show (0 : Int) < 500 by omega)
    have he1 := Int.emod_nonneg x1 (show (900 : Int) ≠ 0 by omega)
    have he2 := Int.emod_lt_of_pos x1 (show (0 : Int) < 900 by omega)
    obtain ⟨a, b, hab, hpen⟩ := units_law (x2 := x2) (price := 1 + x0 % 500) (rate := 1 + x1 % 900) p2a p2b (by omega) (by omega) (by omega) (by omega)
    have HAB := Lib.hid hab
    have HPEN := Lib.hid hpen
    clear hab hpen
    obtain ⟨hc1, hf1⟩ := keepc hb1
    go_wp2_with fail
    refine (iUnitsFor _ _ _).mono ?_
    rw [HAB.out, oN_some, oD_some]
    rintro e w2 ⟨rfl, hb2⟩
    obtain ⟨hc2, hf2⟩ := keepc hb2
    have hz2a : g < w2.heap.size := (by have := hb2.size; simp at this; omega)
    have hz2b : w1.heap.size < w2.heap.size := (by have := hb2.size; simp at this; omega)
    have hB2 : Below w.heap.size w w2 := (by refine Below.trans ?_ (hb2.mono (by have := hb1.size; simp; omega)); refine Below.alloc hb1 hb1.size _)
    go_wp2_with fail
    refine (iUnitPension _ _ _ _ _ _).mono ?_
    rw [HPEN.out]
    rintro e w3 ⟨he, hb3⟩
    simp only [zN_some, zB_some] at he
    subst he
    obtain ⟨hc3, hf3⟩ := keepc hb3
    have hz3a : g < w3.heap.size := (by have := hb3.size; simp at this; omega)
    have hz3b : w1.heap.size < w3.heap.size := (by have := hb3.size; simp at this; omega)
    have hB3 : Below w.heap.size w w3 := (by refine Below.trans ?_ (hb3.mono (by have := hB2.size; simp; omega)); refine Below.alloc hB2 hB2.size _)
    have q0 : w3.cell? ⟨g, 0, none⟩ = some (.int .i64 x0) := by simp [go_sem, *]
    have q1 : w3.cell? ⟨g, 1, none⟩ = some (.int .i64 x1) := by simp [go_sem, *]
    have q2 : w3.cell? ⟨g, 2, none⟩ = some (.int .i64 x2) := by simp [go_sem, *]
    have d0 : w3.cell? ⟨w1.heap.size, 0, none⟩ = some (.int .i64 3) := by simp [go_sem, *]
    have d1 : w3.cell? ⟨w1.heap.size, 1, none⟩ = some (.int .i64 (1 + x1 % 900)) := by simp [go_sem, *]
    have d2 : w3.cell? ⟨w1.heap.size, 2, none⟩ = some (.int .i64 0) := by simp [go_sem, *]
    clear hc2 hf2 hc3 hf3 hc1 hf1
    have hmb := mul_bd p2a (show x2 ≤ 10000 by omega) (show 0 ≤ 1 + x1 % 900 by omega) (show 1 + x1 % 900 ≤ 900 by omega)
    obtain ⟨m1, m2⟩ := hmb
    have k1 : IntKind.i64.wrap (x2 * (1 + x1 % 900)) = x2 * (1 + x1 % 900) := IntWalk.i64_in _ ⟨by omega, by omega⟩
    have k2 : (x2 * (1 + x1 % 900)).tdiv (1 + x0 % 500) = x2 * (1 + x1 % 900) / (1 + x0 % 500) := Int.tdiv_eq_ediv_of_nonneg m1
    have m3 := Int.ediv_nonneg m1 (show 0 ≤ 1 + x0 % 500 by omega)
    have m4 := Int.ediv_le_self (1 + x0 % 500) m1
    have k3 : IntKind.i64.wrap (x2 * (1 + x1 % 900) / (1 + x0 % 500)) = x2 * (1 + x1 % 900) / (1 + x0 % 500) := IntWalk.i64_in _ ⟨by omega, by omega⟩
    have k4 : wrap64 (x2 * (1 + x1 % 900) / (1 + x0 % 500)) = x2 * (1 + x1 % 900) / (1 + x0 % 500) := IntWalk.wrap64_in _ ⟨by omega, by omega⟩
    have k0 : ¬ (1 + x0 % 500 = 0) := by omega
    go_wp2_with fail
    go_region_held3 (fun w' => w'.cell? ⟨g, 0, none⟩ = some (.int .i64 x0) ∧ w'.cell? ⟨g, 1, none⟩ = some (.int .i64 x1) ∧ w'.cell? ⟨g, 2, none⟩ = some (.int .i64 x2) ∧ w'.cell? ⟨w1.heap.size, 0, none⟩ = some (.int .i64 3) ∧ w'.cell? ⟨w1.heap.size, 1, none⟩ = some (.int .i64 (1 + x1 % 900)) ∧ w'.cell? ⟨w1.heap.size, 2, none⟩ = some (.int .i64 0) ∧ g < w'.heap.size ∧ w1.heap.size < w'.heap.size ∧ Below w.heap.size w w') (first | (with_reducible assumption) | (refine ⟨?_, ?_, ?_, ?_, ?_, ?_, ?_, ?_, ?_⟩ <;> first | (with_reducible assumption) | omega | (simp [go_sem, *]; done) | (simp [*]; omega) | ((repeat (first | (with_reducible exact Below.refl _ _) | (with_reducible assumption) | (with_reducible refine Below.drew ?_) | (with_reducible refine below_drewN ?_ _) | ((with_reducible refine Below.setCell ?_ ?_ _); rotate_left; focus (first | (simp; done) | omega | (simp; omega))) | ((with_reducible refine Below.alloc ?_ ?_ _); rotate_left; focus (first | exact Nat.le_refl _ | omega | (simp; done) | (simp; omega))))); first | done | (simp [*]; done))))
      (first | (go_at_call 30; refine (iUnits72 _).mono ?_; rintro e w4 ⟨rfl, hb4⟩; obtain ⟨hc4, hf4⟩ := keepc hb4; have hs4 := hb4.size; have hS4 : ((fun w' => w'.cell? ⟨g, 0, none⟩ = some (.int .i64 x0) ∧ w'.cell? ⟨g, 1, none⟩ = some (.int .i64 x1) ∧ w'.cell? ⟨g, 2, none⟩ = some (.int .i64 x2) ∧ w'.cell? ⟨w1.heap.size, 0, none⟩ = some (.int .i64 3) ∧ w'.cell? ⟨w1.heap.size, 1, none⟩ = some (.int .i64 (1 + x1 % 900)) ∧ w'.cell? ⟨w1.heap.size, 2, none⟩ = some (.int .i64 0) ∧ g < w'.heap.size ∧ w1.heap.size < w'.heap.size ∧ Below w.heap.size w w')) w4 := (by refine ⟨?_, ?_, ?_, ?_, ?_, ?_, ?_, ?_, ?_⟩ <;> first | (rw [hc4 _ _ (by first | omega | (simp [*]; omega) | (simp [*]; done))] <;> simp [go_sem, *]; done) | (first | omega | (simp [*] at hs4; omega)) | (refine Below.trans ?_ (hb4.mono (by first | omega | (simp [*]; done) | (simp [*]; omega))); (repeat (first | (with_reducible exact Below.refl _ _) | (with_reducible assumption) | (with_reducible refine Below.drew ?_) | (with_reducible refine below_drewN ?_ _) | ((with_reducible refine Below.setCell ?_ ?_ _); rotate_left; focus (first | (simp; done) | omega | (simp; omega))) | ((with_reducible refine Below.alloc ?_ ?_ _); rotate_left; focus (first | exact Nat.le_refl _ | omega | (simp; done) | (simp; omega))))); first | done | (simp [*]; done))); clear hb4 hc4 hf4 hs4))
    go_wp2_with fail
    go_ret
    refine ⟨rfl, ?_⟩
    ((repeat (first | (with_reducible exact Below.refl _ _) | (with_reducible assumption) | (with_reducible refine Below.drew ?_) | (with_reducible refine below_drewN ?_ _) | ((with_reducible refine Below.setCell ?_ ?_ _); rotate_left; focus (first | (simp; done) | omega | (simp; omega))) | ((with_reducible refine Below.alloc ?_ ?_ _); rotate_left; focus (first | exact Nat.le_refl _ | omega | (simp; done) | (simp; omega))))); first | done | (simp [*]; done))
end Go.Proofs.Ytjiinkbjmamdmaa
