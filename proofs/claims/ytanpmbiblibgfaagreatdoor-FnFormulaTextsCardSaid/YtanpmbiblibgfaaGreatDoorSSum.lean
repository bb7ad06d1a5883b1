/- Sums of fractions, of the reference. No conditions. -/
import Derived.Test.YtanpmbiblibgfaaGreatDoorSFrac3
import Derived.Deep.RegionHeld3
namespace Go.Proofs.YtanpmbiblibgfaaGreatDoor
open Go.RowKit

def sumL (sg : Int) (a b : Fr) : Option Fr := if (fracOkL a && fracOkL b) = true then redL (a.1 * b.2 + sg * b.1 * a.2) (a.2 * b.2) else none
theorem sumL_add (a b : Fr) : sumL 1 a b = addL a b := by rw [sumL, addL, Int.one_mul]
theorem sumL_sub (a b : Fr) : sumL (-1) a b = subL a b := by
  rw [sumL, subL]
  have : a.1 * b.2 + -1 * b.1 * a.2 = a.1 * b.2 - b.1 * a.2 := by
    rw [show (-1 : Int) * b.1 * a.2 = -(b.1 * a.2) by rw [Int.neg_mul, Int.neg_mul, Int.one_mul]]
    omega
  rw [this]
/-- The numbers that the sum is made of, by the common divisor. -/
theorem sum_red {a b c d g x y sg : Int} (hg : 0 < g) (hb : 0 < b) (hd : 0 < d) (hx : g * x = b) (hy : g * y = d) : redL (a * y + sg * c * x) (x * d) = redL (a * d + sg * c * b) (b * d) := by
  have hx0 : 0 < x := Int.pos_of_mul_pos_left (by rw [Int.mul_comm]; omega) hg
  have e1 : a * d + sg * c * b = g * (a * y + sg * c * x) := by
    rw [Int.mul_add, ← hx, ← hy, Int.mul_left_comm g a y, Int.mul_left_comm g (sg * c) x]
  have e2 : b * d = g * (x * d) := by rw [← Int.mul_assoc, hx]
  rw [redL_pos (Int.mul_pos hx0 hd), redL_pos (Int.mul_pos hb hd), e1, e2, redP_mul hg (Int.mul_pos hx0 hd)]
theorem abs_mul_le {a y A Y : Int} (h1 : -A ≤ a) (h2 : a ≤ A) (h3 : 0 ≤ y) (h4 : y ≤ Y) : -(A * Y) ≤ a * y ∧ a * y ≤ A * Y := by
  have hA : 0 ≤ A := by omega
  have k1 : a * y ≤ A * y := Int.mul_le_mul_of_nonneg_right h2 h3
  have k2 : -A * y ≤ a * y := Int.mul_le_mul_of_nonneg_right h1 h3
  have k3 : A * y ≤ A * Y := Int.mul_le_mul_of_nonneg_left h4 hA
  rw [Int.neg_mul] at k2
  omega

set_option maxHeartbeats 1600000 in
theorem sSum (a b c d sg : Int) (hsg : sg = 1 ∨ sg = -1) (w : World) :
    Calls Tryz.prog 71 #[.agg #[.int .i64 a, .int .i64 b], .agg #[.int .i64 c, .int .i64 d], .int .i64 sg] w fun e w' => e = .returned (vOpt (sumL sg (a, b) (c, d))) ∧ Below w.heap.size w w' := by
  obtain ⟨v, hv⟩ : ∃ v, v = sumL sg (a, b) (c, d) := ⟨_, rfl⟩
  rw [← hv]
  cases t1 : fracOkL (a, b)
  · have e0 : v = none := by rw [hv, sumL, if_neg (by simp [t1])]
    rw [e0]
    clear e0 hv v
    go_enter Tryz.func71, Tryz.ntmps71
    go_wp2_with fail
    refine (sFracOk _ _ _).mono ?_
    rintro e w1 ⟨rfl, hb1⟩
    obtain ⟨hc1, hf1⟩ := keepc hb1
    have hs1 : w.heap.size ≤ w1.heap.size := (by have := hb1.size; first | omega | (simp at this; omega))
    have hz1a : w.heap.size < w1.heap.size := (by have := hb1.size; first | omega | (simp at this; omega))
    have hz1b : w.heap.size + 1 < w1.heap.size := (by have := hb1.size; first | omega | (simp at this; omega))
    have hz1c : w.heap.size + 1 + 1 < w1.heap.size := (by have := hb1.size; first | omega | (simp at this; omega))
    have hB1 : Below w.heap.size w w1 := (by refine Below.trans ?_ (hb1.mono (by first | omega | (simp; done) | (simp; omega))); (repeat (first | (with_reducible exact Below.refl _ _) | (with_reducible assumption) | (with_reducible refine Below.drew ?_) | (with_reducible refine below_drewN ?_ _) | ((with_reducible refine Below.setCell ?_ ?_ _); rotate_left; focus (first | (simp; done) | omega | (simp; omega))) | ((with_reducible refine Below.alloc ?_ ?_ _); rotate_left; focus (first | exact Nat.le_refl _ | omega | (simp; done) | (simp; omega))))))
    have c0 : w1.cell? ⟨w.heap.size + 1 + 1, 0, none⟩ = some (.int .i64 0) := by rw [hc1 _ _ (by first | omega | (simp; done) | (simp; omega))] <;> simp [go_sem, *]
    have f0 : w1.frozen? ⟨w.heap.size + 1 + 1, 0, none⟩ = false := by rw [hf1 _ _ (by first | omega | (simp; done) | (simp; omega))] <;> simp [go_sem, *]
    have c1 : w1.cell? ⟨w.heap.size + 1 + 1, 1, none⟩ = some (.int .i64 0) := by rw [hc1 _ _ (by first | omega | (simp; done) | (simp; omega))] <;> simp [go_sem, *]
    have f1 : w1.frozen? ⟨w.heap.size + 1 + 1, 1, none⟩ = false := by rw [hf1 _ _ (by first | omega | (simp; done) | (simp; omega))] <;> simp [go_sem, *]
    go_wp2_with fail
    refine bodyPost_ret (v := vOpt none) ?_ rfl ⟨rfl, ?_⟩
    · simp [results, Tryz.results71, go_sem, oN_none, oD_none, oB_none, c0, c1]
    · (repeat (first | (with_reducible exact Below.refl _ _) | (with_reducible assumption) | (with_reducible refine Below.drew ?_) | (with_reducible refine below_drewN ?_ _) | ((with_reducible refine Below.setCell ?_ ?_ _); rotate_left; focus (first | (simp; done) | omega | (simp; omega))) | ((with_reducible refine Below.alloc ?_ ?_ _); rotate_left; focus (first | exact Nat.le_refl _ | omega | (simp; done) | (simp; omega)))))
  · cases t2 : fracOkL (c, d)
    · have e0 : v = none := by rw [hv, sumL, if_neg (by simp [t1, t2])]
      rw [e0]
      clear e0 hv v
      go_enter Tryz.func71, Tryz.ntmps71
      go_wp2_with fail
      refine (sFracOk _ _ _).mono ?_
      rintro e w1 ⟨rfl, hb1⟩
      obtain ⟨hc1, hf1⟩ := keepc hb1
      have hs1 : w.heap.size ≤ w1.heap.size := (by have := hb1.size; first | omega | (simp at this; omega))
      have hz1a : w.heap.size < w1.heap.size := (by have := hb1.size; first | omega | (simp at this; omega))
      have hz1b : w.heap.size + 1 < w1.heap.size := (by have := hb1.size; first | omega | (simp at this; omega))
      have hz1c : w.heap.size + 1 + 1 < w1.heap.size := (by have := hb1.size; first | omega | (simp at this; omega))
      have hB1 : Below w.heap.size w w1 := (by refine Below.trans ?_ (hb1.mono (by first | omega | (simp; done) | (simp; omega))); (repeat (first | (with_reducible exact Below.refl _ _) | (with_reducible assumption) | (with_reducible refine Below.drew ?_) | (with_reducible refine below_drewN ?_ _) | ((with_reducible refine Below.setCell ?_ ?_ _); rotate_left; focus (first | (simp; done) | omega | (simp; omega))) | ((with_reducible refine Below.alloc ?_ ?_ _); rotate_left; focus (first | exact Nat.le_refl _ | omega | (simp; done) | (simp; omega))))))
      go_wp2_with fail
      refine (sFracOk _ _ _).mono ?_
      rintro e w2 ⟨rfl, hb2⟩
      obtain ⟨hc2, hf2⟩ := keepc hb2
      have hs2 : w.heap.size ≤ w2.heap.size := (by have := hb2.size; first | omega | (simp at this; omega))
      have hz2a : w.heap.size < w2.heap.size := (by have := hb2.size; first | omega | (simp at this; omega))
      have hz2b : w.heap.size + 1 < w2.heap.size := (by have := hb2.size; first | omega | (simp at this; omega))
      have hz2c : w.heap.size + 1 + 1 < w2.heap.size := (by have := hb2.size; first | omega | (simp at this; omega))
      have hB2 : Below w.heap.size w w2 := (by refine Below.trans ?_ (hb2.mono (by first | omega | (simp; done) | (simp; omega))); (repeat (first | (with_reducible exact Below.refl _ _) | (with_reducible assumption) | (with_reducible refine Below.drew ?_) | (with_reducible refine below_drewN ?_ _) | ((with_reducible refine Below.setCell ?_ ?_ _); rotate_left; focus (first | (simp; done) | omega | (simp; omega))) | ((with_reducible refine Below.alloc ?_ ?_ _); rotate_left; focus (first | exact Nat.le_refl _ | omega | (simp; done) | (simp; omega))))))
      have c0 : w2.cell? ⟨w.heap.size + 1 + 1, 0, none⟩ = some (.int .i64 0) := by rw [hc2 _ _ (by first | omega | (simp; done) | (simp; omega))] <;> simp [go_sem, *]
      have f0 : w2.frozen? ⟨w.heap.size + 1 + 1, 0, none⟩ = false := by rw [hf2 _ _ (by first | omega | (simp; done) | (simp; omega))] <;> simp [go_sem, *]
      have c1 : w2.cell? ⟨w.heap.size + 1 + 1, 1, none⟩ = some (.int .i64 0) := by rw [hc2 _ _ (by first | omega | (simp; done) | (simp; omega))] <;> simp [go_sem, *]
      have f1 : w2.frozen? ⟨w.heap.size + 1 + 1, 1, none⟩ = false := by rw [hf2 _ _ (by first | omega | (simp; done) | (simp; omega))] <;> simp [go_sem, *]
      go_wp2_with fail
      refine bodyPost_ret (v := vOpt none) ?_ rfl ⟨rfl, ?_⟩
      · simp [results, Tryz.results71, go_sem, oN_none, oD_none, oB_none, c0, c1]
      · (repeat (first | (with_reducible exact Below.refl _ _) | (with_reducible assumption) | (with_reducible refine Below.drew ?_) | (with_reducible refine below_drewN ?_ _) | ((with_reducible refine Below.setCell ?_ ?_ _); rotate_left; focus (first | (simp; done) | omega | (simp; omega))) | ((with_reducible refine Below.alloc ?_ ?_ _); rotate_left; focus (first | exact Nat.le_refl _ | omega | (simp; done) | (simp; omega)))))
    · have e0 : v = redL (a * d + sg * c * b) (b * d) := by rw [hv, sumL, if_pos (by simp [t1, t2])]
      clear hv
      obtain ⟨⟨b1, b2⟩, ⟨a1, a2⟩, -⟩ := fracOkL_iff.1 t1
      obtain ⟨⟨d1, d2⟩, ⟨c1, c2⟩, -⟩ := fracOkL_iff.1 t2
      dsimp only at a1 a2 b1 b2 c1 c2 d1 d2
      obtain ⟨g, hg⟩ : ∃ g : Int, g = Int.gcd b d := ⟨_, rfl⟩
      have hg0 : 0 < g := by have := Int.gcd_pos_of_ne_zero_left d (show b ≠ 0 by omega); omega
      have hx0 : g * (b / g) = b := by rw [hg]; exact Int.mul_ediv_cancel' (Int.gcd_dvd_left b d)
      have hy0 : g * (d / g) = d := by rw [hg]; exact Int.mul_ediv_cancel' (Int.gcd_dvd_right b d)
      have x1 := Int.ediv_nonneg (show 0 ≤ b by omega) (show 0 ≤ g by omega)
      have x2 := Int.ediv_le_self g (show 0 ≤ b by omega)
      have y1 := Int.ediv_nonneg (show 0 ≤ d by omega) (show 0 ≤ g by omega)
      have y2 := Int.ediv_le_self g (show 0 ≤ d by omega)
      rw [← sum_red hg0 (by omega) (by omega) hx0 hy0] at e0
      obtain ⟨x, hx⟩ : ∃ x, x = b / g := ⟨_, rfl⟩
      obtain ⟨y, hy⟩ : ∃ y, y = d / g := ⟨_, rfl⟩
      rw [← hx] at hx0 x1 x2 e0
      rw [← hy] at hy0 y1 y2 e0
      have gb : g ≤ 1000000 := by have h := Int.le_of_dvd (show 0 < b by omega) (Int.gcd_dvd_left b d); omega
      have xp : 0 < x := Int.pos_of_mul_pos_left (by rw [Int.mul_comm]; omega) hg0
      have m1 := abs_mul_le (Y := 1000000) a1 a2 y1 (by omega)
      have m2 := abs_mul_le (Y := 1000000) c1 c2 x1 (by omega)
      have m3 := mul_pos1 (show 1 ≤ x by omega) (show x ≤ 1000000 by omega) d1 d2
      obtain ⟨m11, m12⟩ := m1
      obtain ⟨m21, m22⟩ := m2
      obtain ⟨m31, m32⟩ := m3
      have HE := Lib.hid e0
      have HG := Lib.hid hg
      clear e0 hg hx0 hy0
      have k1 : b / g = x := hx.symm
      have k2 : d / g = y := hy.symm
      clear hx hy
      have k3 : b.tdiv g = x := by rw [Int.tdiv_eq_ediv_of_nonneg (by omega)]; exact k1
      have k4 : d.tdiv g = y := by rw [Int.tdiv_eq_ediv_of_nonneg (by omega)]; exact k2
      have k5 : ¬ g = 0 := by omega
      have k6 : (g == 0) = false := by simp; omega
      have v1 : IntKind.i64.wrap (a * y) = a * y := IntWalk.i64_in _ ⟨by omega, by omega⟩
      have v2 : IntKind.i64.wrap (c * x) = c * x := IntWalk.i64_in _ ⟨by omega, by omega⟩
      have v6 : IntKind.i64.wrap c = c := IntWalk.i64_in _ ⟨by omega, by omega⟩
      have v3 : IntKind.i64.wrap (x * d) = x * d := IntWalk.i64_in _ ⟨by omega, by omega⟩
      have u1 : wrap64 x = x := IntWalk.wrap64_in _ ⟨by omega, by omega⟩
      have u2 : wrap64 y = y := IntWalk.wrap64_in _ ⟨by omega, by omega⟩
      have u3 : IntKind.i64.wrap x = x := IntWalk.i64_in _ ⟨by omega, by omega⟩
      have u4 : IntKind.i64.wrap y = y := IntWalk.i64_in _ ⟨by omega, by omega⟩
      rcases hsg with rfl | rfl
      · rw [Int.one_mul] at HE
        have v4 : IntKind.i64.wrap (a * y + c * x) = a * y + c * x := IntWalk.i64_in _ ⟨by omega, by omega⟩
        have HM := fun w => sMake (a * y + c * x) (x * d) w ⟨by omega, by omega⟩ ⟨by omega, by omega⟩ (by omega)
        rw [← HE.out] at HM
        have HC := fun w => sGcd b d w (by omega) (by omega) (by omega) (by omega)
        rw [← HG.out] at HC
        clear a1 a2 c1 c2 m11 m12 m21 m22 m31 m32 x1 x2 y1 y2 xp gb b1 b2 d1 d2 hg0 HG
        go_enter Tryz.func71, Tryz.ntmps71
        go_wp2_with fail
        refine (sFracOk _ _ _).mono ?_
        rintro e w1 ⟨rfl, hb1⟩
        obtain ⟨hc1, hf1⟩ := keepc hb1
        have hs1 : w.heap.size ≤ w1.heap.size := (by have := hb1.size; first | omega | (simp at this; omega))
        have hz1a : w.heap.size < w1.heap.size := (by have := hb1.size; first | omega | (simp at this; omega))
        have hz1b : w.heap.size + 1 < w1.heap.size := (by have := hb1.size; first | omega | (simp at this; omega))
        have hz1c : w.heap.size + 1 + 1 < w1.heap.size := (by have := hb1.size; first | omega | (simp at this; omega))
        have hB1 : Below w.heap.size w w1 := (by refine Below.trans ?_ (hb1.mono (by first | omega | (simp; done) | (simp; omega))); (repeat (first | (with_reducible exact Below.refl _ _) | (with_reducible assumption) | (with_reducible refine Below.drew ?_) | (with_reducible refine below_drewN ?_ _) | ((with_reducible refine Below.setCell ?_ ?_ _); rotate_left; focus (first | (simp; done) | omega | (simp; omega))) | ((with_reducible refine Below.alloc ?_ ?_ _); rotate_left; focus (first | exact Nat.le_refl _ | omega | (simp; done) | (simp; omega))))))
        go_wp2_with fail
        refine (sFracOk _ _ _).mono ?_
        rintro e w2 ⟨rfl, hb2⟩
        obtain ⟨hc2, hf2⟩ := keepc hb2
        have hs2 : w.heap.size ≤ w2.heap.size := (by have := hb2.size; first | omega | (simp at this; omega))
        have hz2a : w.heap.size < w2.heap.size := (by have := hb2.size; first | omega | (simp at this; omega))
        have hz2b : w.heap.size + 1 < w2.heap.size := (by have := hb2.size; first | omega | (simp at this; omega))
        have hz2c : w.heap.size + 1 + 1 < w2.heap.size := (by have := hb2.size; first | omega | (simp at this; omega))
        have hB2 : Below w.heap.size w w2 := (by refine Below.trans ?_ (hb2.mono (by first | omega | (simp; done) | (simp; omega))); (repeat (first | (with_reducible exact Below.refl _ _) | (with_reducible assumption) | (with_reducible refine Below.drew ?_) | (with_reducible refine below_drewN ?_ _) | ((with_reducible refine Below.setCell ?_ ?_ _); rotate_left; focus (first | (simp; done) | omega | (simp; omega))) | ((with_reducible refine Below.alloc ?_ ?_ _); rotate_left; focus (first | exact Nat.le_refl _ | omega | (simp; done) | (simp; omega))))))
        go_wp2_with fail
        refine (HC _).mono ?_
        rintro e w' ⟨rfl, rfl⟩
        clear HC hb1 hb2
        go_wp2_with fail
        have q0 : w2.cell? ⟨w.heap.size, 0, none⟩ = some (.int .i64 a) := by simp [go_sem, *]
        have q1 : w2.cell? ⟨w.heap.size, 1, none⟩ = some (.int .i64 b) := by simp [go_sem, *]
        have q2 : w2.cell? ⟨w.heap.size + 1, 0, none⟩ = some (.int .i64 c) := by simp [go_sem, *]
        have q3 : w2.cell? ⟨w.heap.size + 1, 1, none⟩ = some (.int .i64 d) := by simp [go_sem, *]
        have c0 : w2.cell? ⟨w.heap.size + 1 + 1, 0, none⟩ = some (.int .i64 0) := by rw [hc2 _ _ (by first | omega | (simp; done) | (simp; omega))] <;> simp [go_sem, *]
        have f0 : w2.frozen? ⟨w.heap.size + 1 + 1, 0, none⟩ = false := by rw [hf2 _ _ (by first | omega | (simp; done) | (simp; omega))] <;> simp [go_sem, *]
        have c1 : w2.cell? ⟨w.heap.size + 1 + 1, 1, none⟩ = some (.int .i64 0) := by rw [hc2 _ _ (by first | omega | (simp; done) | (simp; omega))] <;> simp [go_sem, *]
        have f1 : w2.frozen? ⟨w.heap.size + 1 + 1, 1, none⟩ = false := by rw [hf2 _ _ (by first | omega | (simp; done) | (simp; omega))] <;> simp [go_sem, *]
        clear hc1 hf1 hc2 hf2
        go_region_held3 (fun w' => w'.cell? ⟨w.heap.size, 0, none⟩ = some (.int .i64 a) ∧ w'.cell? ⟨w.heap.size, 1, none⟩ = some (.int .i64 b) ∧ w'.cell? ⟨w.heap.size + 1, 0, none⟩ = some (.int .i64 c) ∧ w'.cell? ⟨w.heap.size + 1, 1, none⟩ = some (.int .i64 d) ∧ w.heap.size < w'.heap.size ∧ w.heap.size + 1 < w'.heap.size ∧ w.heap.size + 1 + 1 < w'.heap.size ∧ Below w.heap.size w w') (first | (with_reducible assumption) | (refine ⟨?_, ?_, ?_, ?_, ?_, ?_, ?_, ?_⟩ <;> first | (exact (hBl3.setCell (by first | omega | (simp; done) | (simp; omega)) _).setCell (by first | omega | (simp; done) | (simp; omega)) _) | (with_reducible assumption) | omega | (simp [go_sem, *]; done) | (simp [*]; omega) | ((repeat (first | (with_reducible exact Below.refl _ _) | (with_reducible assumption) | (with_reducible refine Below.drew ?_) | (with_reducible refine below_drewN ?_ _) | ((with_reducible refine Below.setCell ?_ ?_ _); rotate_left; focus (first | (simp; done) | omega | (simp; omega))) | ((with_reducible refine Below.alloc ?_ ?_ _); rotate_left; focus (first | exact Nat.le_refl _ | omega | (simp; done) | (simp; omega))))); first | done | (simp [*]; done))))
          (first | (go_at_call 41; refine (HM _).mono ?_; rintro e w3 ⟨rfl, hb3⟩; obtain ⟨hc3, hf3⟩ := keepc hb3; have hs3 := hb3.size; have hS3 : ((fun w' => w'.cell? ⟨w.heap.size, 0, none⟩ = some (.int .i64 a) ∧ w'.cell? ⟨w.heap.size, 1, none⟩ = some (.int .i64 b) ∧ w'.cell? ⟨w.heap.size + 1, 0, none⟩ = some (.int .i64 c) ∧ w'.cell? ⟨w.heap.size + 1, 1, none⟩ = some (.int .i64 d) ∧ w.heap.size < w'.heap.size ∧ w.heap.size + 1 < w'.heap.size ∧ w.heap.size + 1 + 1 < w'.heap.size ∧ Below w.heap.size w w')) w3 := (by refine ⟨?_, ?_, ?_, ?_, ?_, ?_, ?_, ?_⟩ <;> first | (rw [hc3 _ _ (by first | omega | (simp [*]; omega) | (simp [*]; done))] <;> simp [go_sem, *]; done) | (rw [hf3 _ _ (by first | omega | (simp [*]; omega) | (simp [*]; done))] <;> simp [go_sem, *]; done) | (first | omega | (simp [*] at hs3; omega)) | (refine Below.trans ?_ (hb3.mono (by first | omega | (simp [*]; done) | (simp [*]; omega))); (repeat (first | (with_reducible exact Below.refl _ _) | (with_reducible assumption) | (with_reducible refine Below.drew ?_) | (with_reducible refine below_drewN ?_ _) | ((with_reducible refine Below.setCell ?_ ?_ _); rotate_left; focus (first | (simp; done) | omega | (simp; omega))) | ((with_reducible refine Below.alloc ?_ ?_ _); rotate_left; focus (first | exact Nat.le_refl _ | omega | (simp; done) | (simp; omega))))); first | done | (simp [*]; done))); have hq3 := keepz hb3; have hBl3 : Below w.heap.size w w3 := (by have h := hS3; exact h.2.2.2.2.2.2.2); have rc0 : w3.cell? ⟨w.heap.size + 1 + 1, 0, none⟩ = some (.int .i64 0) := (by rw [hc3 _ _ (by first | omega | (simp [*]; omega) | (simp [*]; done))] <;> simp [go_sem, *]); have rf0 : w3.frozen? ⟨w.heap.size + 1 + 1, 0, none⟩ = false := (by rw [hf3 _ _ (by first | omega | (simp [*]; omega) | (simp [*]; done))] <;> simp [go_sem, *]); have rc1 : w3.cell? ⟨w.heap.size + 1 + 1, 1, none⟩ = some (.int .i64 0) := (by rw [hc3 _ _ (by first | omega | (simp [*]; omega) | (simp [*]; done))] <;> simp [go_sem, *]); have rf1 : w3.frozen? ⟨w.heap.size + 1 + 1, 1, none⟩ = false := (by rw [hf3 _ _ (by first | omega | (simp [*]; omega) | (simp [*]; done))] <;> simp [go_sem, *]); clear hb3 hs3 hc3 hf3 hq3))
        all_goals
          go_wp2_with fail
          refine bodyPost_ret (v := vOpt v) ?_ rfl ⟨rfl, ?_⟩
          · simp [results, Tryz.results71, go_sem, *]
          · (repeat (first | (with_reducible exact Below.refl _ _) | (with_reducible assumption) | (with_reducible refine Below.drew ?_) | (with_reducible refine below_drewN ?_ _) | ((with_reducible refine Below.setCell ?_ ?_ _); rotate_left; focus (first | (simp; done) | omega | (simp; omega))) | ((with_reducible refine Below.alloc ?_ ?_ _); rotate_left; focus (first | exact Nat.le_refl _ | omega | (simp; done) | (simp; omega)))))
      · rw [show (-1 : Int) * c = -c by omega] at HE
        have w1 : -c * x = -(c * x) := Int.neg_mul c x
        have v2n : IntKind.i64.wrap (-c * x) = -c * x := IntWalk.i64_in _ ⟨by omega, by omega⟩
        have v5 : IntKind.i64.wrap (-c) = -c := IntWalk.i64_in _ ⟨by omega, by omega⟩
        have m41 : -(1000000000000 * 1000000) ≤ -c * x ∧ -c * x ≤ 1000000000000 * 1000000 := by omega
        obtain ⟨m51, m52⟩ := m41
        clear w1
        have v4 : IntKind.i64.wrap (a * y + -c * x) = a * y + -c * x := IntWalk.i64_in _ ⟨by omega, by omega⟩
        have HM := fun w => sMake (a * y + -c * x) (x * d) w ⟨by omega, by omega⟩ ⟨by omega, by omega⟩ (by omega)
        rw [← HE.out] at HM
        have HC := fun w => sGcd b d w (by omega) (by omega) (by omega) (by omega)
        rw [← HG.out] at HC
        clear a1 a2 c1 c2 m11 m12 m21 m22 m31 m32 x1 x2 y1 y2 xp gb b1 b2 d1 d2 hg0 HG m51 m52
        go_enter Tryz.func71, Tryz.ntmps71
        go_wp2_with fail
        refine (sFracOk _ _ _).mono ?_
        rintro e w1 ⟨rfl, hb1⟩
        obtain ⟨hc1, hf1⟩ := keepc hb1
        have hs1 : w.heap.size ≤ w1.heap.size := (by have := hb1.size; first | omega | (simp at this; omega))
        have hz1a : w.heap.size < w1.heap.size := (by have := hb1.size; first | omega | (simp at this; omega))
        have hz1b : w.heap.size + 1 < w1.heap.size := (by have := hb1.size; first | omega | (simp at this; omega))
        have hz1c : w.heap.size + 1 + 1 < w1.heap.size := (by have := hb1.size; first | omega | (simp at this; omega))
        have hB1 : Below w.heap.size w w1 := (by refine Below.trans ?_ (hb1.mono (by first | omega | (simp; done) | (simp; omega))); (repeat (first | (with_reducible exact Below.refl _ _) | (with_reducible assumption) | (with_reducible refine Below.drew ?_) | (with_reducible refine below_drewN ?_ _) | ((with_reducible refine Below.setCell ?_ ?_ _); rotate_left; focus (first | (simp; done) | omega | (simp; omega))) | ((with_reducible refine Below.alloc ?_ ?_ _); rotate_left; focus (first | exact Nat.le_refl _ | omega | (simp; done) | (simp; omega))))))
        go_wp2_with fail
        refine (sFracOk _ _ _).mono ?_
        rintro e w2 ⟨rfl, hb2⟩
        obtain ⟨hc2, hf2⟩ := keepc hb2
        have hs2 : w.heap.size ≤ w2.heap.size := (by have := hb2.size; first | omega | (simp at this; omega))
        have hz2a : w.heap.size < w2.heap.size := (by have := hb2.size; first | omega | (simp at this; omega))
        have hz2b : w.heap.size + 1 < w2.heap.size := (by have := hb2.size; first | omega | (simp at this; omega))
        have hz2c : w.heap.size + 1 + 1 < w2.heap.size := (by have := hb2.size; first | omega | (simp at this; omega))
        have hB2 : Below w.heap.size w w2 := (by refine Below.trans ?_ (hb2.mono (by first | omega | (simp; done) | (simp; omega))); (repeat (first | (with_reducible exact Below.refl _ _) | (with_reducible assumption) | (with_reducible refine Below.drew ?_) | (with_reducible refine below_drewN ?_ _) | ((with_reducible refine Below.setCell ?_ ?_ _); rotate_left; focus (first | (simp; done) | omega | (simp; omega))) | ((with_reducible refine Below.alloc ?_ ?_ _); rotate_left; focus (first | exact Nat.le_refl _ | omega | (simp; done) | (simp; omega))))))
        go_wp2_with fail
        refine (HC _).mono ?_
        rintro e w' ⟨rfl, rfl⟩
        clear HC hb1 hb2
        go_wp2_with fail
        have q0 : w2.cell? ⟨w.heap.size, 0, none⟩ = some (.int .i64 a) := by simp [go_sem, *]
        have q1 : w2.cell? ⟨w.heap.size, 1, none⟩ = some (.int .i64 b) := by simp [go_sem, *]
        have q2 : w2.cell? ⟨w.heap.size + 1, 0, none⟩ = some (.int .i64 c) := by simp [go_sem, *]
        have q3 : w2.cell? ⟨w.heap.size + 1, 1, none⟩ = some (.int .i64 d) := by simp [go_sem, *]
        have c0 : w2.cell? ⟨w.heap.size + 1 + 1, 0, none⟩ = some (.int .i64 0) := by rw [hc2 _ _ (by first | omega | (simp; done) | (simp; omega))] <;> simp [go_sem, *]
        have f0 : w2.frozen? ⟨w.heap.size + 1 + 1, 0, none⟩ = false := by rw [hf2 _ _ (by first | omega | (simp; done) | (simp; omega))] <;> simp [go_sem, *]
        have c1 : w2.cell? ⟨w.heap.size + 1 + 1, 1, none⟩ = some (.int .i64 0) := by rw [hc2 _ _ (by first | omega | (simp; done) | (simp; omega))] <;> simp [go_sem, *]
        have f1 : w2.frozen? ⟨w.heap.size + 1 + 1, 1, none⟩ = false := by rw [hf2 _ _ (by first | omega | (simp; done) | (simp; omega))] <;> simp [go_sem, *]
        clear hc1 hf1 hc2 hf2
        go_region_held3 (fun w' => w'.cell? ⟨w.heap.size, 0, none⟩ = some (.int .i64 a) ∧ w'.cell? ⟨w.heap.size, 1, none⟩ = some (.int .i64 b) ∧ w'.cell? ⟨w.heap.size + 1, 0, none⟩ = some (.int .i64 c) ∧ w'.cell? ⟨w.heap.size + 1, 1, none⟩ = some (.int .i64 d) ∧ w.heap.size < w'.heap.size ∧ w.heap.size + 1 < w'.heap.size ∧ w.heap.size + 1 + 1 < w'.heap.size ∧ Below w.heap.size w w') (first | (with_reducible assumption) | (refine ⟨?_, ?_, ?_, ?_, ?_, ?_, ?_, ?_⟩ <;> first | (exact (hBl3.setCell (by first | omega | (simp; done) | (simp; omega)) _).setCell (by first | omega | (simp; done) | (simp; omega)) _) | (with_reducible assumption) | omega | (simp [go_sem, *]; done) | (simp [*]; omega) | ((repeat (first | (with_reducible exact Below.refl _ _) | (with_reducible assumption) | (with_reducible refine Below.drew ?_) | (with_reducible refine below_drewN ?_ _) | ((with_reducible refine Below.setCell ?_ ?_ _); rotate_left; focus (first | (simp; done) | omega | (simp; omega))) | ((with_reducible refine Below.alloc ?_ ?_ _); rotate_left; focus (first | exact Nat.le_refl _ | omega | (simp; done) | (simp; omega))))); first | done | (simp [*]; done))))
          (first | (go_at_call 41; refine (HM _).mono ?_; rintro e w3 ⟨rfl, hb3⟩; obtain ⟨hc3, hf3⟩ := keepc hb3; have hs3 := hb3.size; have hS3 : ((fun w' => w'.cell? ⟨w.heap.size, 0, none⟩ = some (.int .i64 a) ∧ w'.cell? ⟨w.heap.size, 1, none⟩ = some (.int .i64 b) ∧ w'.cell? ⟨w.heap.size + 1, 0, none⟩ = some (.int .i64 c) ∧ w'.cell? ⟨w.heap.size + 1, 1, none⟩ = some (.int .i64 d) ∧ w.heap.size < w'.heap.size ∧ w.heap.size + 1 < w'.heap.size ∧ w.heap.size + 1 + 1 < w'.heap.size ∧ Below w.heap.size w w')) w3 := (by refine ⟨?_, ?_, ?_, ?_, ?_, ?_, ?_, ?_⟩ <;> first | (rw [hc3 _ _ (by first | omega | (simp [*]; omega) | (simp [*]; done))] <;> simp [go_sem, *]; done) | (rw [hf3 _ _ (by first | omega | (simp [*]; omega) | (simp [*]; done))] <;> simp [go_sem, *]; done) | (first | omega | (simp [*] at hs3; omega)) | (refine Below.trans ?_ (hb3.mono (by first | omega | (simp [*]; done) | (simp [*]; omega))); (repeat (first | (with_reducible exact Below.refl _ _) | (with_reducible assumption) | (with_reducible refine Below.drew ?_) | (with_reducible refine below_drewN ?_ _) | ((with_reducible refine Below.setCell ?_ ?_ _); rotate_left; focus (first | (simp; done) | omega | (simp; omega))) | ((with_reducible refine Below.alloc ?_ ?_ _); rotate_left; focus (first | exact Nat.le_refl _ | omega | (simp; done) | (simp; omega))))); first | done | (simp [*]; done))); have hq3 := keepz hb3; have hBl3 : Below w.heap.size w w3 := (by have h := hS3; exact h.2.2.2.2.2.2.2); have rc0 : w3.cell? ⟨w.heap.size + 1 + 1, 0, none⟩ = some (.int .i64 0) := (by rw [hc3 _ _ (by first | omega | (simp [*]; omega) | (simp [*]; done))] <;> simp [go_sem, *]); have rf0 : w3.frozen? ⟨w.heap.size + 1 + 1, 0, none⟩ = false := (by rw [hf3 _ _ (by first | omega | (simp [*]; omega) | (simp [*]; done))] <;> simp [go_sem, *]); have rc1 : w3.cell? ⟨w.heap.size + 1 + 1, 1, none⟩ = some (.int .i64 0) := (by rw [hc3 _ _ (by first | omega | (simp [*]; omega) | (simp [*]; done))] <;> simp [go_sem, *]); have rf1 : w3.frozen? ⟨w.heap.size + 1 + 1, 1, none⟩ = false := (by rw [hf3 _ _ (by first | omega | (simp [*]; omega) | (simp [*]; done))] <;> simp [go_sem, *]); clear hb3 hs3 hc3 hf3 hq3))
        all_goals
          go_wp2_with fail
          refine bodyPost_ret (v := vOpt v) ?_ rfl ⟨rfl, ?_⟩
          · simp [results, Tryz.results71, go_sem, *]
          · (repeat (first | (with_reducible exact Below.refl _ _) | (with_reducible assumption) | (with_reducible refine Below.drew ?_) | (with_reducible refine below_drewN ?_ _) | ((with_reducible refine Below.setCell ?_ ?_ _); rotate_left; focus (first | (simp; done) | omega | (simp; omega))) | ((with_reducible refine Below.alloc ?_ ?_ _); rotate_left; focus (first | exact Nat.le_refl _ | omega | (simp; done) | (simp; omega)))))

set_option maxHeartbeats 800000 in
theorem sFracAdd (a b c d : Int) (w : World) :
    Calls Tryz.prog 53 #[.agg #[.int .i64 a, .int .i64 b], .agg #[.int .i64 c, .int .i64 d]] w fun e w' => e = .returned (vOpt (addL (a, b) (c, d))) ∧ Below w.heap.size w w' := by
  rw [← sumL_add]
  obtain ⟨r, hr⟩ : ∃ r, r = sumL (1) (a, b) (c, d) := ⟨_, rfl⟩
  have HM := fun w => sSum a b c d (1) (by omega) w
  rw [← hr] at HM ⊢
  clear hr
  go_enter Tryz.func53, Tryz.ntmps53
  go_wp2_with fail
  refine (HM _).mono ?_
  rintro e w1 ⟨rfl, hb1⟩
  obtain ⟨hc1, hf1⟩ := keepc hb1
  have hz1a : w.heap.size < w1.heap.size := (by have := hb1.size; first | omega | (simp at this; omega))
  have hz1b : w.heap.size + 1 < w1.heap.size := (by have := hb1.size; first | omega | (simp at this; omega))
  have hz1c : w.heap.size + 1 + 1 < w1.heap.size := (by have := hb1.size; first | omega | (simp at this; omega))
  have hB1 : Below w.heap.size w w1 := (by refine Below.trans ?_ (hb1.mono (by first | omega | (simp; done) | (simp; omega))); (repeat (first | (with_reducible exact Below.refl _ _) | (with_reducible assumption) | (with_reducible refine Below.drew ?_) | (with_reducible refine below_drewN ?_ _) | ((with_reducible refine Below.setCell ?_ ?_ _); rotate_left; focus (first | (simp; done) | omega | (simp; omega))) | ((with_reducible refine Below.alloc ?_ ?_ _); rotate_left; focus (first | exact Nat.le_refl _ | omega | (simp; done) | (simp; omega))))))
  have c0 : w1.cell? ⟨w.heap.size + 1 + 1, 0, none⟩ = some (.int .i64 0) := by rw [hc1 _ _ (by first | omega | (simp; done) | (simp; omega))] <;> simp [go_sem, *]
  have f0 : w1.frozen? ⟨w.heap.size + 1 + 1, 0, none⟩ = false := by rw [hf1 _ _ (by first | omega | (simp; done) | (simp; omega))] <;> simp [go_sem, *]
  have c1 : w1.cell? ⟨w.heap.size + 1 + 1, 1, none⟩ = some (.int .i64 0) := by rw [hc1 _ _ (by first | omega | (simp; done) | (simp; omega))] <;> simp [go_sem, *]
  have f1 : w1.frozen? ⟨w.heap.size + 1 + 1, 1, none⟩ = false := by rw [hf1 _ _ (by first | omega | (simp; done) | (simp; omega))] <;> simp [go_sem, *]
  go_wp2_with fail
  refine bodyPost_ret (v := vOpt r) ?_ rfl ⟨rfl, ?_⟩
  · simp [results, Tryz.results53, go_sem, c0, c1]
  · (repeat (first | (with_reducible exact Below.refl _ _) | (with_reducible assumption) | (with_reducible refine Below.drew ?_) | (with_reducible refine below_drewN ?_ _) | ((with_reducible refine Below.setCell ?_ ?_ _); rotate_left; focus (first | (simp; done) | omega | (simp; omega))) | ((with_reducible refine Below.alloc ?_ ?_ _); rotate_left; focus (first | exact Nat.le_refl _ | omega | (simp; done) | (simp; omega)))))

set_option maxHeartbeats 800000 in
theorem sFracSub (a b c d : Int) (w : World) :
    Calls Tryz.prog 54 #[.agg #[.int .i64 a, .int .i64 b], .agg #[.int .i64 c, .int .i64 d]] w fun e w' => e = .returned (vOpt (subL (a, b) (c, d))) ∧ Below w.heap.size w w' := by
  rw [← sumL_sub]
  obtain ⟨r, hr⟩ : ∃ r, r = sumL (-1) (a, b) (c, d) := ⟨_, rfl⟩
  have HM := fun w => sSum a b c d (-1) (by omega) w
  rw [← hr] at HM ⊢
  clear hr
  go_enter Tryz.func54, Tryz.ntmps54
  go_wp2_with fail
  refine (HM _).mono ?_
  rintro e w1 ⟨rfl, hb1⟩
  obtain ⟨hc1, hf1⟩ := keepc hb1
  have hz1a : w.heap.size < w1.heap.size := (by have := hb1.size; first | omega | (simp at this; omega))
  have hz1b : w.heap.size + 1 < w1.heap.size := (by have := hb1.size; first | omega | (simp at this; omega))
  have hz1c : w.heap.size + 1 + 1 < w1.heap.size := (by have := hb1.size; first | omega | (simp at this; omega))
  have hB1 : Below w.heap.size w w1 := (by refine Below.trans ?_ (hb1.mono (by first | omega | (simp; done) | (simp; omega))); (repeat (first | (with_reducible exact Below.refl _ _) | (with_reducible assumption) | (with_reducible refine Below.drew ?_) | (with_reducible refine below_drewN ?_ _) | ((with_reducible refine Below.setCell ?_ ?_ _); rotate_left; focus (first | (simp; done) | omega | (simp; omega))) | ((with_reducible refine Below.alloc ?_ ?_ _); rotate_left; focus (first | exact Nat.le_refl _ | omega | (simp; done) | (simp; omega))))))
  have c0 : w1.cell? ⟨w.heap.size + 1 + 1, 0, none⟩ = some (.int .i64 0) := by rw [hc1 _ _ (by first | omega | (simp; done) | (simp; omega))] <;> simp [go_sem, *]
  have f0 : w1.frozen? ⟨w.heap.size + 1 + 1, 0, none⟩ = false := by rw [hf1 _ _ (by first | omega | (simp; done) | (simp; omega))] <;> simp [go_sem, *]
  have c1 : w1.cell? ⟨w.heap.size + 1 + 1, 1, none⟩ = some (.int .i64 0) := by rw [hc1 _ _ (by first | omega | (simp; done) | (simp; omega))] <;> simp [go_sem, *]
  have f1 : w1.frozen? ⟨w.heap.size + 1 + 1, 1, none⟩ = false := by rw [hf1 _ _ (by first | omega | (simp; done) | (simp; omega))] <;> simp [go_sem, *]
  go_wp2_with fail
  refine bodyPost_ret (v := vOpt r) ?_ rfl ⟨rfl, ?_⟩
  · simp [results, Tryz.results54, go_sem, c0, c1]
  · (repeat (first | (with_reducible exact Below.refl _ _) | (with_reducible assumption) | (with_reducible refine Below.drew ?_) | (with_reducible refine below_drewN ?_ _) | ((with_reducible refine Below.setCell ?_ ?_ _); rotate_left; focus (first | (simp; done) | omega | (simp; omega))) | ((with_reducible refine Below.alloc ?_ ?_ _); rotate_left; focus (first | exact Nat.le_refl _ | omega | (simp; done) | (simp; omega)))))
end Go.Proofs.YtanpmbiblibgfaaGreatDoor
