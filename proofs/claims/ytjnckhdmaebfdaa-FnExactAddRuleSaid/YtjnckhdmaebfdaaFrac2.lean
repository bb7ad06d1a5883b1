/- Sums, products and comparison of fractions, of the program. No conditions. -/
import Derived.Test.YtjnckhdmaebfdaaFrac
namespace Go.Proofs.Ytjnckhdmaebfdaa
open Go.RowKit

theorem mul_abs {a c A B : Int} (h1 : -A ≤ a) (h2 : a ≤ A) (h3 : -B ≤ c) (h4 : c ≤ B) : -(A * B) ≤ a * c ∧ a * c ≤ A * B := by
  have e1 : a.natAbs ≤ A.natAbs := by omega
  have e2 : c.natAbs ≤ B.natAbs := by omega
  have e3 := Nat.mul_le_mul e1 e2
  rw [← Int.natAbs_mul, ← Int.natAbs_mul] at e3
  have e4 : 0 ≤ A * B := Int.mul_nonneg (by omega) (by omega)
  omega
theorem mul_pos1 {a c A B : Int} (h1 : 1 ≤ a) (h2 : a ≤ A) (h3 : 1 ≤ c) (h4 : c ≤ B) : 1 ≤ a * c ∧ a * c ≤ A * B := by
  have := mul_bd (a := a) (b := c) (by omega) h2 (by omega) h4
  have := Int.mul_pos (show 0 < a by omega) (show 0 < c by omega)
  omega
theorem smallL_iff {n d : Int} : smallL (n, d) = true ↔ (1 ≤ d ∧ d ≤ 1000000) ∧ (-1000000 ≤ n ∧ n ≤ 1000000) ∧ Int.gcd n d = 1 := by
  simp only [smallL, Bool.and_eq_true, fracOkL_iff, inB_iff]
  constructor
  · rintro ⟨⟨h1, h2, h3⟩, h4⟩; exact ⟨h1, h4, h3⟩
  · rintro ⟨h1, h4, h3⟩; exact ⟨⟨h1, by omega, h3⟩, h4⟩
theorem two_cells {w : World} {b : Nat} {u v x y : Value} (h0 : w.cell? ⟨b, 0, none⟩ = some u) (h1 : w.cell? ⟨b, 1, none⟩ = some v) :
    ((w.setCell ⟨b, 0, none⟩ x).setCell ⟨b, 1, none⟩ y).cell? ⟨b, 0, none⟩ = some x ∧ ((w.setCell ⟨b, 0, none⟩ x).setCell ⟨b, 1, none⟩ y).cell? ⟨b, 1, none⟩ = some y := by
  constructor <;> simp [go_sem, h0, h1]

set_option maxHeartbeats 800000 in
theorem iAreFactors (a b c d : Int) (w : World) :
    Calls Try.prog 124 #[.agg #[.int .i64 a, .int .i64 b], .agg #[.int .i64 c, .int .i64 d]] w fun e w' => e = .returned (.bool (smallL (a, b) && smallL (c, d))) ∧ Below w.heap.size w w' := by
  obtain ⟨v, hv⟩ : ∃ v, v = (smallL (a, b) && smallL (c, d)) := ⟨_, rfl⟩
  rw [← hv]
  have HV := Lib.hid hv
  clear hv
  cases t1 : fracOkL (a, b)
  · have e0 : v = false := by rw [HV.out]; simp [smallL, t1]
    have E0 := Lib.hid e0
    clear e0 HV
    go_enter Try.func124, Try.ntmps124
    go_wp2_with fail
    refine (iFracOk _ _ _).mono ?_
    rintro e w1 ⟨rfl, hb1⟩
    obtain ⟨hc1, hf1⟩ := keepc hb1
    have hz1a : w.heap.size < w1.heap.size := (by have := hb1.size; first | omega | (simp at this; omega))
    have hz1b : w.heap.size + 1 < w1.heap.size := (by have := hb1.size; first | omega | (simp at this; omega))
    have hB1 : Below w.heap.size w w1 := (by refine Below.trans ?_ (hb1.mono (by first | omega | (simp; done) | (simp; omega))); (repeat (first | (with_reducible exact Below.refl _ _) | (with_reducible assumption) | (with_reducible refine Below.drew ?_) | (with_reducible refine below_drewN ?_ _) | ((with_reducible refine Below.setCell ?_ ?_ _); rotate_left; focus (first | (simp; done) | omega | (simp; omega))) | ((with_reducible refine Below.alloc ?_ ?_ _); rotate_left; focus (first | exact Nat.le_refl _ | omega | (simp; done) | (simp; omega))))))
    go_wp2_with fail
    go_ret
    exact ⟨ret_bool E0.out.symm, (by (repeat (first | (with_reducible exact Below.refl _ _) | (with_reducible assumption) | (with_reducible refine Below.drew ?_) | (with_reducible refine below_drewN ?_ _) | ((with_reducible refine Below.setCell ?_ ?_ _); rotate_left; focus (first | (simp; done) | omega | (simp; omega))) | ((with_reducible refine Below.alloc ?_ ?_ _); rotate_left; focus (first | exact Nat.le_refl _ | omega | (simp; done) | (simp; omega))))))⟩
  · cases t2 : fracOkL (c, d)
    · have e0 : v = false := by rw [HV.out]; simp [smallL, t1, t2]
      have E0 := Lib.hid e0
      clear e0 HV
      go_enter Try.func124, Try.ntmps124
      go_wp2_with fail
      refine (iFracOk _ _ _).mono ?_
      rintro e w1 ⟨rfl, hb1⟩
      obtain ⟨hc1, hf1⟩ := keepc hb1
      have hz1a : w.heap.size < w1.heap.size := (by have := hb1.size; first | omega | (simp at this; omega))
      have hz1b : w.heap.size + 1 < w1.heap.size := (by have := hb1.size; first | omega | (simp at this; omega))
      have hB1 : Below w.heap.size w w1 := (by refine Below.trans ?_ (hb1.mono (by first | omega | (simp; done) | (simp; omega))); (repeat (first | (with_reducible exact Below.refl _ _) | (with_reducible assumption) | (with_reducible refine Below.drew ?_) | (with_reducible refine below_drewN ?_ _) | ((with_reducible refine Below.setCell ?_ ?_ _); rotate_left; focus (first | (simp; done) | omega | (simp; omega))) | ((with_reducible refine Below.alloc ?_ ?_ _); rotate_left; focus (first | exact Nat.le_refl _ | omega | (simp; done) | (simp; omega))))))
      go_wp2_with fail
      refine (iFracOk _ _ _).mono ?_
      rintro e w1 ⟨rfl, hb1⟩
      obtain ⟨hc1, hf1⟩ := keepc hb1
      have hz1a : w.heap.size < w1.heap.size := (by have := hb1.size; first | omega | (simp at this; omega))
      have hz1b : w.heap.size + 1 < w1.heap.size := (by have := hb1.size; first | omega | (simp at this; omega))
      have hB1 : Below w.heap.size w w1 := (by refine Below.trans ?_ (hb1.mono (by first | omega | (simp; done) | (simp; omega))); (repeat (first | (with_reducible exact Below.refl _ _) | (with_reducible assumption) | (with_reducible refine Below.drew ?_) | (with_reducible refine below_drewN ?_ _) | ((with_reducible refine Below.setCell ?_ ?_ _); rotate_left; focus (first | (simp; done) | omega | (simp; omega))) | ((with_reducible refine Below.alloc ?_ ?_ _); rotate_left; focus (first | exact Nat.le_refl _ | omega | (simp; done) | (simp; omega))))))
      go_wp2_with fail
      go_ret
      exact ⟨ret_bool E0.out.symm, (by (repeat (first | (with_reducible exact Below.refl _ _) | (with_reducible assumption) | (with_reducible refine Below.drew ?_) | (with_reducible refine below_drewN ?_ _) | ((with_reducible refine Below.setCell ?_ ?_ _); rotate_left; focus (first | (simp; done) | omega | (simp; omega))) | ((with_reducible refine Below.alloc ?_ ?_ _); rotate_left; focus (first | exact Nat.le_refl _ | omega | (simp; done) | (simp; omega))))))⟩
    · cases t3 : inB a (-1000000) 1000000
      · have e0 : v = false := by rw [HV.out]; simp [smallL, t1, t2, t3]
        have E0 := Lib.hid e0
        clear e0 HV
        go_enter Try.func124, Try.ntmps124
        go_wp2_with fail
        refine (iFracOk _ _ _).mono ?_
        rintro e w1 ⟨rfl, hb1⟩
        obtain ⟨hc1, hf1⟩ := keepc hb1
        have hz1a : w.heap.size < w1.heap.size := (by have := hb1.size; first | omega | (simp at this; omega))
        have hz1b : w.heap.size + 1 < w1.heap.size := (by have := hb1.size; first | omega | (simp at this; omega))
        have hB1 : Below w.heap.size w w1 := (by refine Below.trans ?_ (hb1.mono (by first | omega | (simp; done) | (simp; omega))); (repeat (first | (with_reducible exact Below.refl _ _) | (with_reducible assumption) | (with_reducible refine Below.drew ?_) | (with_reducible refine below_drewN ?_ _) | ((with_reducible refine Below.setCell ?_ ?_ _); rotate_left; focus (first | (simp; done) | omega | (simp; omega))) | ((with_reducible refine Below.alloc ?_ ?_ _); rotate_left; focus (first | exact Nat.le_refl _ | omega | (simp; done) | (simp; omega))))))
        go_wp2_with fail
        refine (iFracOk _ _ _).mono ?_
        rintro e w1 ⟨rfl, hb1⟩
        obtain ⟨hc1, hf1⟩ := keepc hb1
        have hz1a : w.heap.size < w1.heap.size := (by have := hb1.size; first | omega | (simp at this; omega))
        have hz1b : w.heap.size + 1 < w1.heap.size := (by have := hb1.size; first | omega | (simp at this; omega))
        have hB1 : Below w.heap.size w w1 := (by refine Below.trans ?_ (hb1.mono (by first | omega | (simp; done) | (simp; omega))); (repeat (first | (with_reducible exact Below.refl _ _) | (with_reducible assumption) | (with_reducible refine Below.drew ?_) | (with_reducible refine below_drewN ?_ _) | ((with_reducible refine Below.setCell ?_ ?_ _); rotate_left; focus (first | (simp; done) | omega | (simp; omega))) | ((with_reducible refine Below.alloc ?_ ?_ _); rotate_left; focus (first | exact Nat.le_refl _ | omega | (simp; done) | (simp; omega))))))
        go_wp2_with fail
        refine (within_any _ _ _ _).mono ?_
        rintro e w' ⟨rfl, rfl⟩
        go_wp2_with fail
        go_ret
        exact ⟨ret_bool E0.out.symm, (by (repeat (first | (with_reducible exact Below.refl _ _) | (with_reducible assumption) | (with_reducible refine Below.drew ?_) | (with_reducible refine below_drewN ?_ _) | ((with_reducible refine Below.setCell ?_ ?_ _); rotate_left; focus (first | (simp; done) | omega | (simp; omega))) | ((with_reducible refine Below.alloc ?_ ?_ _); rotate_left; focus (first | exact Nat.le_refl _ | omega | (simp; done) | (simp; omega))))))⟩
      · cases t4 : inB c (-1000000) 1000000
        · have e0 : v = false := by rw [HV.out]; simp [smallL, t1, t2, t3, t4]
          have E0 := Lib.hid e0
          clear e0 HV
          go_enter Try.func124, Try.ntmps124
          go_wp2_with fail
          refine (iFracOk _ _ _).mono ?_
          rintro e w1 ⟨rfl, hb1⟩
          obtain ⟨hc1, hf1⟩ := keepc hb1
          have hz1a : w.heap.size < w1.heap.size := (by have := hb1.size; first | omega | (simp at this; omega))
          have hz1b : w.heap.size + 1 < w1.heap.size := (by have := hb1.size; first | omega | (simp at this; omega))
          have hB1 : Below w.heap.size w w1 := (by refine Below.trans ?_ (hb1.mono (by first | omega | (simp; done) | (simp; omega))); (repeat (first | (with_reducible exact Below.refl _ _) | (with_reducible assumption) | (with_reducible refine Below.drew ?_) | (with_reducible refine below_drewN ?_ _) | ((with_reducible refine Below.setCell ?_ ?_ _); rotate_left; focus (first | (simp; done) | omega | (simp; omega))) | ((with_reducible refine Below.alloc ?_ ?_ _); rotate_left; focus (first | exact Nat.le_refl _ | omega | (simp; done) | (simp; omega))))))
          go_wp2_with fail
          refine (iFracOk _ _ _).mono ?_
          rintro e w1 ⟨rfl, hb1⟩
          obtain ⟨hc1, hf1⟩ := keepc hb1
          have hz1a : w.heap.size < w1.heap.size := (by have := hb1.size; first | omega | (simp at this; omega))
          have hz1b : w.heap.size + 1 < w1.heap.size := (by have := hb1.size; first | omega | (simp at this; omega))
          have hB1 : Below w.heap.size w w1 := (by refine Below.trans ?_ (hb1.mono (by first | omega | (simp; done) | (simp; omega))); (repeat (first | (with_reducible exact Below.refl _ _) | (with_reducible assumption) | (with_reducible refine Below.drew ?_) | (with_reducible refine below_drewN ?_ _) | ((with_reducible refine Below.setCell ?_ ?_ _); rotate_left; focus (first | (simp; done) | omega | (simp; omega))) | ((with_reducible refine Below.alloc ?_ ?_ _); rotate_left; focus (first | exact Nat.le_refl _ | omega | (simp; done) | (simp; omega))))))
          go_wp2_with fail
          refine (within_any _ _ _ _).mono ?_
          rintro e w' ⟨rfl, rfl⟩
          go_wp2_with fail
          refine (within_any _ _ _ _).mono ?_
          rintro e w' ⟨rfl, rfl⟩
          go_wp2_with fail
          go_ret
          exact ⟨ret_bool E0.out.symm, (by (repeat (first | (with_reducible exact Below.refl _ _) | (with_reducible assumption) | (with_reducible refine Below.drew ?_) | (with_reducible refine below_drewN ?_ _) | ((with_reducible refine Below.setCell ?_ ?_ _); rotate_left; focus (first | (simp; done) | omega | (simp; omega))) | ((with_reducible refine Below.alloc ?_ ?_ _); rotate_left; focus (first | exact Nat.le_refl _ | omega | (simp; done) | (simp; omega))))))⟩
        · have e0 : v = true := by rw [HV.out]; simp [smallL, t1, t2, t3, t4]
          have E0 := Lib.hid e0
          clear e0 HV
          go_enter Try.func124, Try.ntmps124
          go_wp2_with fail
          refine (iFracOk _ _ _).mono ?_
          rintro e w1 ⟨rfl, hb1⟩
          obtain ⟨hc1, hf1⟩ := keepc hb1
          have hz1a : w.heap.size < w1.heap.size := (by have := hb1.size; first | omega | (simp at this; omega))
          have hz1b : w.heap.size + 1 < w1.heap.size := (by have := hb1.size; first | omega | (simp at this; omega))
          have hB1 : Below w.heap.size w w1 := (by refine Below.trans ?_ (hb1.mono (by first | omega | (simp; done) | (simp; omega))); (repeat (first | (with_reducible exact Below.refl _ _) | (with_reducible assumption) | (with_reducible refine Below.drew ?_) | (with_reducible refine below_drewN ?_ _) | ((with_reducible refine Below.setCell ?_ ?_ _); rotate_left; focus (first | (simp; done) | omega | (simp; omega))) | ((with_reducible refine Below.alloc ?_ ?_ _); rotate_left; focus (first | exact Nat.le_refl _ | omega | (simp; done) | (simp; omega))))))
          go_wp2_with fail
          refine (iFracOk _ _ _).mono ?_
          rintro e w1 ⟨rfl, hb1⟩
          obtain ⟨hc1, hf1⟩ := keepc hb1
          have hz1a : w.heap.size < w1.heap.size := (by have := hb1.size; first | omega | (simp at this; omega))
          have hz1b : w.heap.size + 1 < w1.heap.size := (by have := hb1.size; first | omega | (simp at this; omega))
          have hB1 : Below w.heap.size w w1 := (by refine Below.trans ?_ (hb1.mono (by first | omega | (simp; done) | (simp; omega))); (repeat (first | (with_reducible exact Below.refl _ _) | (with_reducible assumption) | (with_reducible refine Below.drew ?_) | (with_reducible refine below_drewN ?_ _) | ((with_reducible refine Below.setCell ?_ ?_ _); rotate_left; focus (first | (simp; done) | omega | (simp; omega))) | ((with_reducible refine Below.alloc ?_ ?_ _); rotate_left; focus (first | exact Nat.le_refl _ | omega | (simp; done) | (simp; omega))))))
          go_wp2_with fail
          refine (within_any _ _ _ _).mono ?_
          rintro e w' ⟨rfl, rfl⟩
          go_wp2_with fail
          refine (within_any _ _ _ _).mono ?_
          rintro e w' ⟨rfl, rfl⟩
          go_wp2_with fail
          go_ret
          exact ⟨ret_bool E0.out.symm, (by (repeat (first | (with_reducible exact Below.refl _ _) | (with_reducible assumption) | (with_reducible refine Below.drew ?_) | (with_reducible refine below_drewN ?_ _) | ((with_reducible refine Below.setCell ?_ ?_ _); rotate_left; focus (first | (simp; done) | omega | (simp; omega))) | ((with_reducible refine Below.alloc ?_ ?_ _); rotate_left; focus (first | exact Nat.le_refl _ | omega | (simp; done) | (simp; omega))))))⟩

set_option maxHeartbeats 800000 in
theorem iFracMul (a b c d : Int) (w : World) :
    Calls Try.prog 118 #[.agg #[.int .i64 a, .int .i64 b], .agg #[.int .i64 c, .int .i64 d]] w fun e w' => e = .returned (vOpt (mulL (a, b) (c, d))) ∧ Below w.heap.size w w' := by
  obtain ⟨v, hv⟩ : ∃ v, v = mulL (a, b) (c, d) := ⟨_, rfl⟩
  rw [← hv]
  cases t0 : (smallL (a, b) && smallL (c, d))
  · have e0 : v = none := by rw [hv, mulL, if_neg (by simp [t0])]
    rw [e0]
    clear e0 hv v
    go_enter Try.func118, Try.ntmps118
    go_wp2_with fail
    refine (iAreFactors _ _ _ _ _).mono ?_
    rintro e w1 ⟨rfl, hb1⟩
    obtain ⟨hc1, hf1⟩ := keepc hb1
    have hz1a : w.heap.size < w1.heap.size := (by have := hb1.size; first | omega | (simp at this; omega))
    have hz1b : w.heap.size + 1 < w1.heap.size := (by have := hb1.size; first | omega | (simp at this; omega))
    have hz1c : w.heap.size + 1 + 1 < w1.heap.size := (by have := hb1.size; first | omega | (simp at this; omega))
    have hB1 : Below w.heap.size w w1 := (by refine Below.trans ?_ (hb1.mono (by first | omega | (simp; done) | (simp; omega))); (repeat (first | (with_reducible exact Below.refl _ _) | (with_reducible assumption) | (with_reducible refine Below.drew ?_) | (with_reducible refine below_drewN ?_ _) | ((with_reducible refine Below.setCell ?_ ?_ _); rotate_left; focus (first | (simp; done) | omega | (simp; omega))) | ((with_reducible refine Below.alloc ?_ ?_ _); rotate_left; focus (first | exact Nat.le_refl _ | omega | (simp; done) | (simp; omega))))))
    have c0 : w1.cell? ⟨w.heap.size + 1 + 1, 0, none⟩ = some (.int .i64 0) := by rw [hc1 _ _ (by first | omega | (simp; done) | (simp; omega))] <;> simp [go_sem, *]
    have f0 : w1.frozen? ⟨w.heap.size + 1 + 1, 0, none⟩ = false := by rw [hf1 _ _ (by first | omega | (simp; done) | (simp; omega))] <;> simp [go_sem, *]
    have c1 : w1.cell? ⟨w.heap.size + 1 + 1, 1, none⟩ = some (.int .i64 0) := by rw [hc1 _ _ (by first | omega | (simp; done) | (simp; omega))] <;> simp [go_sem, *]
    have f1 : w1.frozen? ⟨w.heap.size + 1 + 1, 1, none⟩ = false := by rw [hf1 _ _ (by first | omega | (simp; done) | (simp; omega))] <;> simp [go_sem, *]
    go_wp2_with fail
    refine bodyPost_ret (v := vOpt none) ?_ rfl ⟨rfl, ?_⟩
    · simp [results, Try.results118, go_sem, oN_none, oD_none, oB_none, c0, c1]
    · (repeat (first | (with_reducible exact Below.refl _ _) | (with_reducible assumption) | (with_reducible refine Below.drew ?_) | (with_reducible refine below_drewN ?_ _) | ((with_reducible refine Below.setCell ?_ ?_ _); rotate_left; focus (first | (simp; done) | omega | (simp; omega))) | ((with_reducible refine Below.alloc ?_ ?_ _); rotate_left; focus (first | exact Nat.le_refl _ | omega | (simp; done) | (simp; omega)))))
  · have e0 : v = redL (a * c) (b * d) := by rw [hv, mulL, if_pos (by simp [t0])]
    have hs := t0
    rw [Bool.and_eq_true] at hs
    have g1 := smallL_iff.1 hs.1
    have g2 := smallL_iff.1 hs.2
    have k1 := mul_abs g1.2.1.1 g1.2.1.2 g2.2.1.1 g2.2.1.2
    have k2 := mul_pos1 g1.1.1 g1.1.2 g2.1.1 g2.1.2
    obtain ⟨k3, k4⟩ := k1
    obtain ⟨k5, k6⟩ := k2
    clear hs g1 g2
    rw [e0]
    obtain ⟨r, hr⟩ : ∃ r, r = redL (a * c) (b * d) := ⟨_, rfl⟩
    rw [← hr]
    have HR := Lib.hid hr
    clear hr e0 hv v
    go_enter Try.func118, Try.ntmps118
    go_wp2_with fail
    refine (iAreFactors _ _ _ _ _).mono ?_
    rintro e w1 ⟨rfl, hb1⟩
    obtain ⟨hc1, hf1⟩ := keepc hb1
    have hz1a : w.heap.size < w1.heap.size := (by have := hb1.size; first | omega | (simp at this; omega))
    have hz1b : w.heap.size + 1 < w1.heap.size := (by have := hb1.size; first | omega | (simp at this; omega))
    have hz1c : w.heap.size + 1 + 1 < w1.heap.size := (by have := hb1.size; first | omega | (simp at this; omega))
    have hB1 : Below w.heap.size w w1 := (by refine Below.trans ?_ (hb1.mono (by first | omega | (simp; done) | (simp; omega))); (repeat (first | (with_reducible exact Below.refl _ _) | (with_reducible assumption) | (with_reducible refine Below.drew ?_) | (with_reducible refine below_drewN ?_ _) | ((with_reducible refine Below.setCell ?_ ?_ _); rotate_left; focus (first | (simp; done) | omega | (simp; omega))) | ((with_reducible refine Below.alloc ?_ ?_ _); rotate_left; focus (first | exact Nat.le_refl _ | omega | (simp; done) | (simp; omega))))))
    go_wp2_with fail
    refine (iReduced _ _ _ ⟨by omega, by omega⟩ ⟨by omega, by omega⟩ (by omega)).mono ?_
    rw [← HR.out]
    rintro e w1 ⟨rfl, hb1⟩
    obtain ⟨hc1, hf1⟩ := keepc hb1
    have hz1a : w.heap.size < w1.heap.size := (by have := hb1.size; first | omega | (simp at this; omega))
    have hz1b : w.heap.size + 1 < w1.heap.size := (by have := hb1.size; first | omega | (simp at this; omega))
    have hz1c : w.heap.size + 1 + 1 < w1.heap.size := (by have := hb1.size; first | omega | (simp at this; omega))
    have hB1 : Below w.heap.size w w1 := (by refine Below.trans ?_ (hb1.mono (by first | omega | (simp; done) | (simp; omega))); (repeat (first | (with_reducible exact Below.refl _ _) | (with_reducible assumption) | (with_reducible refine Below.drew ?_) | (with_reducible refine below_drewN ?_ _) | ((with_reducible refine Below.setCell ?_ ?_ _); rotate_left; focus (first | (simp; done) | omega | (simp; omega))) | ((with_reducible refine Below.alloc ?_ ?_ _); rotate_left; focus (first | exact Nat.le_refl _ | omega | (simp; done) | (simp; omega))))))
    have c0 : w1.cell? ⟨w.heap.size + 1 + 1, 0, none⟩ = some (.int .i64 0) := by rw [hc1 _ _ (by first | omega | (simp; done) | (simp; omega))] <;> simp [go_sem, *]
    have f0 : w1.frozen? ⟨w.heap.size + 1 + 1, 0, none⟩ = false := by rw [hf1 _ _ (by first | omega | (simp; done) | (simp; omega))] <;> simp [go_sem, *]
    have c1 : w1.cell? ⟨w.heap.size + 1 + 1, 1, none⟩ = some (.int .i64 0) := by rw [hc1 _ _ (by first | omega | (simp; done) | (simp; omega))] <;> simp [go_sem, *]
    have f1 : w1.frozen? ⟨w.heap.size + 1 + 1, 1, none⟩ = false := by rw [hf1 _ _ (by first | omega | (simp; done) | (simp; omega))] <;> simp [go_sem, *]
    go_wp2_with fail
    refine bodyPost_ret (v := vOpt r) ?_ rfl ⟨rfl, ?_⟩
    · simp [results, Try.results118, go_sem, c0, c1]
    · (repeat (first | (with_reducible exact Below.refl _ _) | (with_reducible assumption) | (with_reducible refine Below.drew ?_) | (with_reducible refine below_drewN ?_ _) | ((with_reducible refine Below.setCell ?_ ?_ _); rotate_left; focus (first | (simp; done) | omega | (simp; omega))) | ((with_reducible refine Below.alloc ?_ ?_ _); rotate_left; focus (first | exact Nat.le_refl _ | omega | (simp; done) | (simp; omega)))))
end Go.Proofs.Ytjnckhdmaebfdaa
