/- Pensions accrue in proportion to service up to the cap, and an account never earns less than its guarantee. No conditions. -/
import Derived.Test.YtjiinkbjmamdmaaAccrL
import Derived.Test.YtjiinkbjmamdmaaSSum
import Derived.Test.YtjiinkbjmamdmaaAcc
import Derived.Test.YtjiinkbjmamdmaaPlaces
import Derived.Test.YtjiinkbjmamdmaaDesign
import Derived.Deep.RegionHeld3
import Derived.Deep.DeepCutAuto
namespace Go.Proofs.Ytjiinkbjmamdmaa
open Go.RowKit

theorem grow_low {r b cr e : Int} (h1 : 1 ≤ r) (h2 : r ≤ 300) (h3 : 0 ≤ b) (h4 : b < 10000) (h5 : 0 ≤ cr) (h6 : cr < 10000) (h7 : -10000 ≤ e) (h8 : e ≤ 0) :
    growL 4 r 0 (b * 100) cr e = b * 100 + b * r / 100 + cr ∧ (0 ≤ b * r ∧ b * r ≤ 3000000) := by
  have hm := mul_bd h3 (show b ≤ 10000 by omega) (show 0 ≤ r by omega) h2
  refine ⟨?_, hm.1, by omega⟩
  rw [growL, if_pos]
  · rw [show max e r = r by omega, show b * 100 * r = b * r * 100 by rw [Int.mul_assoc, Int.mul_comm 100 r, ← Int.mul_assoc]]
    omega
  · refine ⟨?_, rfl, inB_t (by omega) (by omega), inB_t (by omega) (by omega), inB_t (by omega) (by omega)⟩
    simp [designOkL, inB]
    omega

set_option maxRecDepth 4000 in
set_option maxHeartbeats 1600000 in
theorem walkAccruals (A : Option Addr) (n c : Nat) (w : World) (hb : Bys w w.heap.size A n) :
    Calls Try.prog 15 #[.slice A n c] w fun e w' => e = .returned (.bool true) ∧ Below w.heap.size w w' := by
  have hn := hb.1
  by_cases hbig : (1048576 : Int) < n
  · have hd : decide ((1048576 : Int) < n) = true := by simpa using hbig
    go_enter Try.func15, Try.ntmps15
    go_wp2_with fail
    refine (lBig _ _ _ _ (by omega)).mono ?_
    rintro e w' ⟨rfl, rfl⟩
    go_wp2_with fail
    go_ret
    exact ⟨rfl, Below.refl _ _⟩
  · have hbg : decide ((1048576 : Int) < n) = false := by simpa using hbig
    go_enter Try.func15, Try.ntmps15
    go_wp2_with fail
    refine (lBig _ _ _ _ (by omega)).mono ?_
    rintro e w' ⟨rfl, rfl⟩
    go_wp2_with fail
    refine (sPlacesAt _ _ _ _ hb).mono ?_
    rintro e w1 ⟨g, cap, f, rfl, hg0, hg1, hp, hb1⟩
    obtain ⟨p0, x0a, x0b⟩ := hp 0 (by omega)
    obtain ⟨p1, x1a, x1b⟩ := hp 1 (by omega)
    obtain ⟨p2, x2a, x2b⟩ := hp 2 (by omega)
    obtain ⟨p3, x3a, x3b⟩ := hp 3 (by omega)
    obtain ⟨p4, x4a, x4b⟩ := hp 4 (by omega)
    obtain ⟨p5, x5a, x5b⟩ := hp 5 (by omega)
    obtain ⟨p6, x6a, x6b⟩ := hp 6 (by omega)
    obtain ⟨p7, x7a, x7b⟩ := hp 7 (by omega)
    obtain ⟨p8, x8a, x8b⟩ := hp 8 (by omega)
    clear hp
    generalize f 0 = x0 at *
    generalize f 1 = x1 at *
    generalize f 2 = x2 at *
    generalize f 3 = x3 at *
    generalize f 4 = x4 at *
    generalize f 5 = x5 at *
    generalize f 6 = x6 at *
    generalize f 7 = x7 at *
    generalize f 8 = x8 at *
    have x0m0 := Int.emod_nonneg x0 (show (2 : Int) ≠ 0 by omega)
    have x0m1 := Int.emod_lt_of_pos x0 (show (0 : Int) < 2 by omega)
    have x0m2 : x0.tmod 2 = x0 % 2 := Int.tmod_eq_emod_of_nonneg x0a
    have x1m0 := Int.emod_nonneg x1 (show (200 : Int) ≠ 0 by omega)
    have x1m1 := Int.emod_lt_of_pos x1 (show (0 : Int) < 200 by omega)
    have x1m2 : x1.tmod 200 = x1 % 200 := Int.tmod_eq_emod_of_nonneg x1a
    have x2m0 := Int.emod_nonneg x2 (show (30 : Int) ≠ 0 by omega)
    have x2m1 := Int.emod_lt_of_pos x2 (show (0 : Int) < 30 by omega)
    have x2m2 : x2.tmod 30 = x2 % 30 := Int.tmod_eq_emod_of_nonneg x2a
    have x3m0 := Int.emod_nonneg x3 (show (200 : Int) ≠ 0 by omega)
    have x3m1 := Int.emod_lt_of_pos x3 (show (0 : Int) < 200 by omega)
    have x3m2 : x3.tmod 200 = x3 % 200 := Int.tmod_eq_emod_of_nonneg x3a
    have x4m0 := Int.emod_nonneg x4 (show (1000 : Int) ≠ 0 by omega)
    have x4m1 := Int.emod_lt_of_pos x4 (show (0 : Int) < 1000 by omega)
    have x4m2 : x4.tmod 1000 = x4 % 1000 := Int.tmod_eq_emod_of_nonneg x4a
    have x5m0 := Int.emod_nonneg x5 (show (300 : Int) ≠ 0 by omega)
    have x5m1 := Int.emod_lt_of_pos x5 (show (0 : Int) < 300 by omega)
    have x5m2 : x5.tmod 300 = x5 % 300 := Int.tmod_eq_emod_of_nonneg x5a
    have hs1 := hb1.size
    have i0 : IntKind.i64.wrap (1 + x0 % 2) = 1 + x0 % 2 := IntWalk.i64_in _ ⟨by omega, by omega⟩
    have i1 : IntKind.i64.wrap (1 + x1 % 200) = 1 + x1 % 200 := IntWalk.i64_in _ ⟨by omega, by omega⟩
    have i2 : IntKind.i64.wrap (10 + x2 % 30) = 10 + x2 % 30 := IntWalk.i64_in _ ⟨by omega, by omega⟩
    have hk : 1 + x0 % 2 = 1 ∨ 1 + x0 % 2 = 2 := by omega
    obtain ⟨x, y, u, v, p, q, l1l, l2l, l3l, l4l, l5l⟩ := accruals_law (r := 1 + x1 % 200) (c := 10 + x2 % 30) (j := x3 % 200) (t := x4 % 1000) hk (by omega) (by omega) (by omega) (by omega) (by omega) (by omega) (by omega) (by omega)
    have A1 := fun w : World => iAccrued (1 + x0 % 2) (1 + x1 % 200) (10 + x2 % 30) 1200 (1000 + x3 % 200 * 100) 1 w
    rw [l1l] at A1
    simp only [vOpt, oN_some, oD_some, oB_some] at A1
    have A2 := fun w : World => iAccrued (1 + x0 % 2) (1 + x1 % 200) (10 + x2 % 30) 2400 (1000 + x3 % 200 * 100) 1 w
    rw [l2l] at A2
    simp only [vOpt, oN_some, oD_some, oB_some] at A2
    have A3 := fun w : World => sFracAdd x y x y w
    rw [l3l] at A3
    simp only [vOpt, oN_some, oD_some, oB_some] at A3
    have A4 := fun w : World => iAccrued (1 + x0 % 2) (1 + x1 % 200) (10 + x2 % 30) ((10 + x2 % 30) * 1200 + x4 % 1000) (1000 + x3 % 200 * 100) 1 w
    rw [l4l] at A4
    simp only [vOpt, oN_some, oD_some, oB_some] at A4
    have A5 := fun w : World => iAccrued (1 + x0 % 2) (1 + x1 % 200) (10 + x2 % 30) ((10 + x2 % 30) * 1200) (1000 + x3 % 200 * 100) 1 w
    rw [l5l] at A5
    simp only [vOpt, oN_some, oD_some, oB_some] at A5
    clear l1l l2l l3l l4l l5l
    go_wp2_with fail
    go_region
    go_wp2_with fail
    refine (A1 _).mono ?_
    rintro e w2 ⟨rfl, hb2⟩
    obtain ⟨hc2, hf2⟩ := keepc hb2
    have hs2 : w.heap.size ≤ w2.heap.size := (by have := hb2.size; first | omega | (simp at this; omega))
    have hz2a : g < w2.heap.size := (by have := hb2.size; first | omega | (simp at this; omega))
    have hz2b : w1.heap.size < w2.heap.size := (by have := hb2.size; first | omega | (simp at this; omega))
    have hz2c : w1.heap.size + 1 < w2.heap.size := (by have := hb2.size; first | omega | (simp at this; omega))
    have hB2 : Below w.heap.size w w2 := (by refine Below.trans ?_ (hb2.mono (by first | omega | (simp; done) | (simp; omega))); (repeat (first | (with_reducible exact Below.refl _ _) | (with_reducible assumption) | (with_reducible refine Below.drew ?_) | (with_reducible refine below_drewN ?_ _) | ((with_reducible refine Below.setCell ?_ ?_ _); rotate_left; focus (first | (simp; done) | omega | (simp; omega))) | ((with_reducible refine Below.alloc ?_ ?_ _); rotate_left; focus (first | exact Nat.le_refl _ | omega | (simp; done) | (simp; omega))))))
    have c2_0 : w2.cell? ⟨g, 0, none⟩ = some (.int .i64 x0) := by rw [hc2 _ _ (by first | omega | (simp; done) | (simp; omega))] <;> simp [go_sem, *]
    have c2_1 : w2.cell? ⟨g, 1, none⟩ = some (.int .i64 x1) := by rw [hc2 _ _ (by first | omega | (simp; done) | (simp; omega))] <;> simp [go_sem, *]
    have c2_2 : w2.cell? ⟨g, 2, none⟩ = some (.int .i64 x2) := by rw [hc2 _ _ (by first | omega | (simp; done) | (simp; omega))] <;> simp [go_sem, *]
    have c2_3 : w2.cell? ⟨g, 3, none⟩ = some (.int .i64 x3) := by rw [hc2 _ _ (by first | omega | (simp; done) | (simp; omega))] <;> simp [go_sem, *]
    have c2_4 : w2.cell? ⟨g, 4, none⟩ = some (.int .i64 x4) := by rw [hc2 _ _ (by first | omega | (simp; done) | (simp; omega))] <;> simp [go_sem, *]
    have c2_5 : w2.cell? ⟨g, 5, none⟩ = some (.int .i64 x5) := by rw [hc2 _ _ (by first | omega | (simp; done) | (simp; omega))] <;> simp [go_sem, *]
    have c2_6 : w2.cell? ⟨g, 6, none⟩ = some (.int .i64 x6) := by rw [hc2 _ _ (by first | omega | (simp; done) | (simp; omega))] <;> simp [go_sem, *]
    have c2_7 : w2.cell? ⟨g, 7, none⟩ = some (.int .i64 x7) := by rw [hc2 _ _ (by first | omega | (simp; done) | (simp; omega))] <;> simp [go_sem, *]
    have c2_8 : w2.cell? ⟨g, 8, none⟩ = some (.int .i64 x8) := by rw [hc2 _ _ (by first | omega | (simp; done) | (simp; omega))] <;> simp [go_sem, *]
    have c2_9 : w2.cell? ⟨w1.heap.size, 0, none⟩ = some (.int .i64 (1 + x0 % 2)) := by rw [hc2 _ _ (by first | omega | (simp; done) | (simp; omega))] <;> simp [go_sem, *]
    have c2_10 : w2.cell? ⟨w1.heap.size, 1, none⟩ = some (.int .i64 (1 + x1 % 200)) := by rw [hc2 _ _ (by first | omega | (simp; done) | (simp; omega))] <;> simp [go_sem, *]
    have c2_11 : w2.cell? ⟨w1.heap.size, 2, none⟩ = some (.int .i64 (10 + x2 % 30)) := by rw [hc2 _ _ (by first | omega | (simp; done) | (simp; omega))] <;> simp [go_sem, *]
    have c2_12 : w2.cell? ⟨w1.heap.size + 1, 0, none⟩ = some (.int .i64 (1000 + x3 % 200 * 100)) := by rw [hc2 _ _ (by first | omega | (simp; done) | (simp; omega))] <;> simp [go_sem, *]
    have c2_13 : w2.cell? ⟨w1.heap.size + 1, 1, none⟩ = some (.int .i64 1) := by rw [hc2 _ _ (by first | omega | (simp; done) | (simp; omega))] <;> simp [go_sem, *]
    clear hc2 hf2 hb2
    clear hb1
    clear p0 p1 p2 p3 p4 p5 p6 p7 p8
    go_wp2_with fail
    refine (A2 _).mono ?_
    rintro e w3 ⟨rfl, hb3⟩
    obtain ⟨hc3, hf3⟩ := keepc hb3
    have hs3 : w.heap.size ≤ w3.heap.size := (by have := hb3.size; first | omega | (simp at this; omega))
    have hz3a : g < w3.heap.size := (by have := hb3.size; first | omega | (simp at this; omega))
    have hz3b : w1.heap.size < w3.heap.size := (by have := hb3.size; first | omega | (simp at this; omega))
    have hz3c : w1.heap.size + 1 < w3.heap.size := (by have := hb3.size; first | omega | (simp at this; omega))
    have hz3d : w2.heap.size < w3.heap.size := (by have := hb3.size; first | omega | (simp at this; omega))
    have hB3 : Below w.heap.size w w3 := (by refine Below.trans ?_ (hb3.mono (by first | omega | (simp; done) | (simp; omega))); (repeat (first | (with_reducible exact Below.refl _ _) | (with_reducible assumption) | (with_reducible refine Below.drew ?_) | (with_reducible refine below_drewN ?_ _) | ((with_reducible refine Below.setCell ?_ ?_ _); rotate_left; focus (first | (simp; done) | omega | (simp; omega))) | ((with_reducible refine Below.alloc ?_ ?_ _); rotate_left; focus (first | exact Nat.le_refl _ | omega | (simp; done) | (simp; omega))))))
    have c3_0 : w3.cell? ⟨g, 0, none⟩ = some (.int .i64 x0) := by rw [hc3 _ _ (by first | omega | (simp; done) | (simp; omega))] <;> simp [go_sem, *]
    have c3_1 : w3.cell? ⟨g, 1, none⟩ = some (.int .i64 x1) := by rw [hc3 _ _ (by first | omega | (simp; done) | (simp; omega))] <;> simp [go_sem, *]
    have c3_2 : w3.cell? ⟨g, 2, none⟩ = some (.int .i64 x2) := by rw [hc3 _ _ (by first | omega | (simp; done) | (simp; omega))] <;> simp [go_sem, *]
    have c3_3 : w3.cell? ⟨g, 3, none⟩ = some (.int .i64 x3) := by rw [hc3 _ _ (by first | omega | (simp; done) | (simp; omega))] <;> simp [go_sem, *]
    have c3_4 : w3.cell? ⟨g, 4, none⟩ = some (.int .i64 x4) := by rw [hc3 _ _ (by first | omega | (simp; done) | (simp; omega))] <;> simp [go_sem, *]
    have c3_5 : w3.cell? ⟨g, 5, none⟩ = some (.int .i64 x5) := by rw [hc3 _ _ (by first | omega | (simp; done) | (simp; omega))] <;> simp [go_sem, *]
    have c3_6 : w3.cell? ⟨g, 6, none⟩ = some (.int .i64 x6) := by rw [hc3 _ _ (by first | omega | (simp; done) | (simp; omega))] <;> simp [go_sem, *]
    have c3_7 : w3.cell? ⟨g, 7, none⟩ = some (.int .i64 x7) := by rw [hc3 _ _ (by first | omega | (simp; done) | (simp; omega))] <;> simp [go_sem, *]
    have c3_8 : w3.cell? ⟨g, 8, none⟩ = some (.int .i64 x8) := by rw [hc3 _ _ (by first | omega | (simp; done) | (simp; omega))] <;> simp [go_sem, *]
    have c3_9 : w3.cell? ⟨w1.heap.size, 0, none⟩ = some (.int .i64 (1 + x0 % 2)) := by rw [hc3 _ _ (by first | omega | (simp; done) | (simp; omega))] <;> simp [go_sem, *]
    have c3_10 : w3.cell? ⟨w1.heap.size, 1, none⟩ = some (.int .i64 (1 + x1 % 200)) := by rw [hc3 _ _ (by first | omega | (simp; done) | (simp; omega))] <;> simp [go_sem, *]
    have c3_11 : w3.cell? ⟨w1.heap.size, 2, none⟩ = some (.int .i64 (10 + x2 % 30)) := by rw [hc3 _ _ (by first | omega | (simp; done) | (simp; omega))] <;> simp [go_sem, *]
    have c3_12 : w3.cell? ⟨w1.heap.size + 1, 0, none⟩ = some (.int .i64 (1000 + x3 % 200 * 100)) := by rw [hc3 _ _ (by first | omega | (simp; done) | (simp; omega))] <;> simp [go_sem, *]
    have c3_13 : w3.cell? ⟨w1.heap.size + 1, 1, none⟩ = some (.int .i64 1) := by rw [hc3 _ _ (by first | omega | (simp; done) | (simp; omega))] <;> simp [go_sem, *]
    have c3_14 : w3.cell? ⟨w2.heap.size, 0, none⟩ = some (.int .i64 x) := by rw [hc3 _ _ (by first | omega | (simp; done) | (simp; omega))] <;> simp [go_sem, *]
    have c3_15 : w3.cell? ⟨w2.heap.size, 1, none⟩ = some (.int .i64 y) := by rw [hc3 _ _ (by first | omega | (simp; done) | (simp; omega))] <;> simp [go_sem, *]
    clear hc3 hf3 hb3
    clear hB2
    clear c2_0 c2_1 c2_2 c2_3 c2_4 c2_5 c2_6 c2_7 c2_8 c2_9 c2_10 c2_11 c2_12 c2_13
    go_wp2_with fail
    refine (A3 _).mono ?_
    rintro e w4 ⟨rfl, hb4⟩
    obtain ⟨hc4, hf4⟩ := keepc hb4
    have hs4 : w.heap.size ≤ w4.heap.size := (by have := hb4.size; first | omega | (simp at this; omega))
    have hz4a : g < w4.heap.size := (by have := hb4.size; first | omega | (simp at this; omega))
    have hz4b : w1.heap.size < w4.heap.size := (by have := hb4.size; first | omega | (simp at this; omega))
    have hz4c : w1.heap.size + 1 < w4.heap.size := (by have := hb4.size; first | omega | (simp at this; omega))
    have hz4d : w3.heap.size < w4.heap.size := (by have := hb4.size; first | omega | (simp at this; omega))
    have hB4 : Below w.heap.size w w4 := (by refine Below.trans ?_ (hb4.mono (by first | omega | (simp; done) | (simp; omega))); (repeat (first | (with_reducible exact Below.refl _ _) | (with_reducible assumption) | (with_reducible refine Below.drew ?_) | (with_reducible refine below_drewN ?_ _) | ((with_reducible refine Below.setCell ?_ ?_ _); rotate_left; focus (first | (simp; done) | omega | (simp; omega))) | ((with_reducible refine Below.alloc ?_ ?_ _); rotate_left; focus (first | exact Nat.le_refl _ | omega | (simp; done) | (simp; omega))))))
    have c4_0 : w4.cell? ⟨g, 4, none⟩ = some (.int .i64 x4) := by rw [hc4 _ _ (by first | omega | (simp; done) | (simp; omega))] <;> simp [go_sem, *]
    have c4_1 : w4.cell? ⟨g, 5, none⟩ = some (.int .i64 x5) := by rw [hc4 _ _ (by first | omega | (simp; done) | (simp; omega))] <;> simp [go_sem, *]
    have c4_2 : w4.cell? ⟨g, 6, none⟩ = some (.int .i64 x6) := by rw [hc4 _ _ (by first | omega | (simp; done) | (simp; omega))] <;> simp [go_sem, *]
    have c4_3 : w4.cell? ⟨g, 7, none⟩ = some (.int .i64 x7) := by rw [hc4 _ _ (by first | omega | (simp; done) | (simp; omega))] <;> simp [go_sem, *]
    have c4_4 : w4.cell? ⟨g, 8, none⟩ = some (.int .i64 x8) := by rw [hc4 _ _ (by first | omega | (simp; done) | (simp; omega))] <;> simp [go_sem, *]
    have c4_5 : w4.cell? ⟨w1.heap.size, 0, none⟩ = some (.int .i64 (1 + x0 % 2)) := by rw [hc4 _ _ (by first | omega | (simp; done) | (simp; omega))] <;> simp [go_sem, *]
    have c4_6 : w4.cell? ⟨w1.heap.size, 1, none⟩ = some (.int .i64 (1 + x1 % 200)) := by rw [hc4 _ _ (by first | omega | (simp; done) | (simp; omega))] <;> simp [go_sem, *]
    have c4_7 : w4.cell? ⟨w1.heap.size, 2, none⟩ = some (.int .i64 (10 + x2 % 30)) := by rw [hc4 _ _ (by first | omega | (simp; done) | (simp; omega))] <;> simp [go_sem, *]
    have c4_8 : w4.cell? ⟨w1.heap.size + 1, 0, none⟩ = some (.int .i64 (1000 + x3 % 200 * 100)) := by rw [hc4 _ _ (by first | omega | (simp; done) | (simp; omega))] <;> simp [go_sem, *]
    have c4_9 : w4.cell? ⟨w1.heap.size + 1, 1, none⟩ = some (.int .i64 1) := by rw [hc4 _ _ (by first | omega | (simp; done) | (simp; omega))] <;> simp [go_sem, *]
    have c4_10 : w4.cell? ⟨w3.heap.size, 0, none⟩ = some (.int .i64 u) := by rw [hc4 _ _ (by first | omega | (simp; done) | (simp; omega))] <;> simp [go_sem, *]
    have c4_11 : w4.cell? ⟨w3.heap.size, 1, none⟩ = some (.int .i64 v) := by rw [hc4 _ _ (by first | omega | (simp; done) | (simp; omega))] <;> simp [go_sem, *]
    clear hc4 hf4 hb4
    clear hB3
    clear c3_0 c3_1 c3_2 c3_3 c3_4 c3_5 c3_6 c3_7 c3_8 c3_9 c3_10 c3_11 c3_12 c3_13 c3_14 c3_15
    have j1 : IntKind.i64.wrap ((10 + x2 % 30) * 1200) = (10 + x2 % 30) * 1200 := IntWalk.i64_in _ ⟨by omega, by omega⟩
    have j2 : IntKind.i64.wrap ((10 + x2 % 30) * 1200 + x4 % 1000) = (10 + x2 % 30) * 1200 + x4 % 1000 := IntWalk.i64_in _ ⟨by omega, by omega⟩
    go_upto_region 9 with fail
    go_cut [12, 13] (fun s12 s13 wx => ∃ h : Nat, s12 = .pointer (some ⟨h, 0, none⟩) ∧ s13 = .bool true ∧ wx.cell? ⟨h, 0, none⟩ = some (.int .i64 p) ∧ wx.cell? ⟨h, 1, none⟩ = some (.int .i64 q) ∧ wx.cell? ⟨g, 4, none⟩ = some (.int .i64 x4) ∧ wx.cell? ⟨g, 5, none⟩ = some (.int .i64 x5) ∧ wx.cell? ⟨g, 6, none⟩ = some (.int .i64 x6) ∧ wx.cell? ⟨g, 7, none⟩ = some (.int .i64 x7) ∧ wx.cell? ⟨g, 8, none⟩ = some (.int .i64 x8) ∧ wx.cell? ⟨w1.heap.size, 0, none⟩ = some (.int .i64 (1 + x0 % 2)) ∧ wx.cell? ⟨w1.heap.size, 1, none⟩ = some (.int .i64 (1 + x1 % 200)) ∧ wx.cell? ⟨w1.heap.size, 2, none⟩ = some (.int .i64 (10 + x2 % 30)) ∧ wx.cell? ⟨w1.heap.size + 1, 0, none⟩ = some (.int .i64 (1000 + x3 % 200 * 100)) ∧ wx.cell? ⟨w1.heap.size + 1, 1, none⟩ = some (.int .i64 1) ∧ wx.cell? ⟨w3.heap.size, 0, none⟩ = some (.int .i64 u) ∧ wx.cell? ⟨w3.heap.size, 1, none⟩ = some (.int .i64 v) ∧ wx.cell? ⟨w4.heap.size, 0, none⟩ = some (.int .i64 u) ∧ wx.cell? ⟨w4.heap.size, 1, none⟩ = some (.int .i64 v) ∧ g < wx.heap.size ∧ w1.heap.size < wx.heap.size ∧ w1.heap.size + 1 < wx.heap.size ∧ w3.heap.size < wx.heap.size ∧ w4.heap.size < wx.heap.size ∧ h < wx.heap.size ∧ Below w.heap.size w wx)
    case first =>
      go_region_held3 (fun w' => w'.cell? ⟨g, 4, none⟩ = some (.int .i64 x4) ∧ w'.cell? ⟨g, 5, none⟩ = some (.int .i64 x5) ∧ w'.cell? ⟨g, 6, none⟩ = some (.int .i64 x6) ∧ w'.cell? ⟨g, 7, none⟩ = some (.int .i64 x7) ∧ w'.cell? ⟨g, 8, none⟩ = some (.int .i64 x8) ∧ w'.cell? ⟨w1.heap.size, 0, none⟩ = some (.int .i64 (1 + x0 % 2)) ∧ w'.cell? ⟨w1.heap.size, 1, none⟩ = some (.int .i64 (1 + x1 % 200)) ∧ w'.cell? ⟨w1.heap.size, 2, none⟩ = some (.int .i64 (10 + x2 % 30)) ∧ w'.cell? ⟨w1.heap.size + 1, 0, none⟩ = some (.int .i64 (1000 + x3 % 200 * 100)) ∧ w'.cell? ⟨w1.heap.size + 1, 1, none⟩ = some (.int .i64 1) ∧ w'.cell? ⟨w3.heap.size, 0, none⟩ = some (.int .i64 u) ∧ w'.cell? ⟨w3.heap.size, 1, none⟩ = some (.int .i64 v) ∧ w'.cell? ⟨w4.heap.size, 0, none⟩ = some (.int .i64 u) ∧ w'.cell? ⟨w4.heap.size, 1, none⟩ = some (.int .i64 v) ∧ g < w'.heap.size ∧ w1.heap.size < w'.heap.size ∧ w1.heap.size + 1 < w'.heap.size ∧ w3.heap.size < w'.heap.size ∧ w4.heap.size < w'.heap.size ∧ ¬ g = w'.heap.size ∧ ¬ w1.heap.size = w'.heap.size ∧ ¬ w1.heap.size + 1 = w'.heap.size ∧ ¬ w3.heap.size = w'.heap.size ∧ ¬ w4.heap.size = w'.heap.size ∧ Below w.heap.size w w') (first | (with_reducible assumption) | (refine ⟨?_, ?_, ?_, ?_, ?_, ?_, ?_, ?_, ?_, ?_, ?_, ?_, ?_, ?_, ?_, ?_, ?_, ?_, ?_, ?_, ?_, ?_, ?_, ?_, ?_⟩ <;> first | (with_reducible assumption) | omega | (simp [go_sem, *]; done) | (simp [*]; omega) | ((repeat (first | (with_reducible exact Below.refl _ _) | (with_reducible assumption) | (with_reducible refine Below.drew ?_) | (with_reducible refine below_drewN ?_ _) | ((with_reducible refine Below.setCell ?_ ?_ _); rotate_left; focus (first | (simp; done) | omega | (simp; omega))) | ((with_reducible refine Below.alloc ?_ ?_ _); rotate_left; focus (first | exact Nat.le_refl _ | omega | (simp; done) | (simp; omega))))); first | done | (simp [*]; done))))
        (first
          | (go_at_call 44; refine (A4 _).mono ?_; rintro e w5 ⟨rfl, hb5⟩; obtain ⟨hc5, hf5⟩ := keepc hb5; have hs5 := hb5.size; have hS5 : ((fun w' => w'.cell? ⟨g, 4, none⟩ = some (.int .i64 x4) ∧ w'.cell? ⟨g, 5, none⟩ = some (.int .i64 x5) ∧ w'.cell? ⟨g, 6, none⟩ = some (.int .i64 x6) ∧ w'.cell? ⟨g, 7, none⟩ = some (.int .i64 x7) ∧ w'.cell? ⟨g, 8, none⟩ = some (.int .i64 x8) ∧ w'.cell? ⟨w1.heap.size, 0, none⟩ = some (.int .i64 (1 + x0 % 2)) ∧ w'.cell? ⟨w1.heap.size, 1, none⟩ = some (.int .i64 (1 + x1 % 200)) ∧ w'.cell? ⟨w1.heap.size, 2, none⟩ = some (.int .i64 (10 + x2 % 30)) ∧ w'.cell? ⟨w1.heap.size + 1, 0, none⟩ = some (.int .i64 (1000 + x3 % 200 * 100)) ∧ w'.cell? ⟨w1.heap.size + 1, 1, none⟩ = some (.int .i64 1) ∧ w'.cell? ⟨w3.heap.size, 0, none⟩ = some (.int .i64 u) ∧ w'.cell? ⟨w3.heap.size, 1, none⟩ = some (.int .i64 v) ∧ w'.cell? ⟨w4.heap.size, 0, none⟩ = some (.int .i64 u) ∧ w'.cell? ⟨w4.heap.size, 1, none⟩ = some (.int .i64 v) ∧ g < w'.heap.size ∧ w1.heap.size < w'.heap.size ∧ w1.heap.size + 1 < w'.heap.size ∧ w3.heap.size < w'.heap.size ∧ w4.heap.size < w'.heap.size ∧ ¬ g = w'.heap.size ∧ ¬ w1.heap.size = w'.heap.size ∧ ¬ w1.heap.size + 1 = w'.heap.size ∧ ¬ w3.heap.size = w'.heap.size ∧ ¬ w4.heap.size = w'.heap.size ∧ Below w.heap.size w w')) w5 := (by refine ⟨?_, ?_, ?_, ?_, ?_, ?_, ?_, ?_, ?_, ?_, ?_, ?_, ?_, ?_, ?_, ?_, ?_, ?_, ?_, ?_, ?_, ?_, ?_, ?_, ?_⟩ <;> first | (rw [hc5 _ _ (by first | omega | (simp [*]; omega) | (simp [*]; done))] <;> simp [go_sem, *]; done) | (first | omega | (simp [*] at hs5; omega)) | (refine Below.trans ?_ (hb5.mono (by first | omega | (simp [*]; done) | (simp [*]; omega))); (repeat (first | (with_reducible exact Below.refl _ _) | (with_reducible assumption) | (with_reducible refine Below.drew ?_) | (with_reducible refine below_drewN ?_ _) | ((with_reducible refine Below.setCell ?_ ?_ _); rotate_left; focus (first | (simp; done) | omega | (simp; omega))) | ((with_reducible refine Below.alloc ?_ ?_ _); rotate_left; focus (first | exact Nat.le_refl _ | omega | (simp; done) | (simp; omega))))); first | done | (simp [*]; done))); have hq5 := keepz hb5; (try (have hx5 : w4.heap.size + 1 < w5.heap.size := (by first | omega | (simp [*] at hs5; omega)))); clear hb5 hs5))
      all_goals
        go_wp2_with fail
        go_meet
        refine ⟨_, rfl, rfl, ?_, ?_, ?_, ?_, ?_, ?_, ?_, ?_, ?_, ?_, ?_, ?_, ?_, ?_, ?_, ?_, ?_, ?_, ?_, ?_, ?_, ?_, ?_⟩ <;> first | (with_reducible assumption) | omega | (simp [go_sem, *]; done) | (simp [*]; omega) | (exact (two_cells (u := .int .i64 0) (v := .int .i64 0) (by simp [go_sem, *]) (by simp [go_sem, *])).1) | (exact (two_cells (u := .int .i64 0) (v := .int .i64 0) (by simp [go_sem, *]) (by simp [go_sem, *])).2) | ((repeat (first | (with_reducible exact Below.refl _ _) | (with_reducible assumption) | (with_reducible refine Below.drew ?_) | (with_reducible refine below_drewN ?_ _) | ((with_reducible refine Below.setCell ?_ ?_ _); rotate_left; focus (first | (simp; done) | omega | (simp; omega))) | ((with_reducible refine Below.alloc ?_ ?_ _); rotate_left; focus (first | exact Nat.le_refl _ | omega | (simp; done) | (simp; omega))))); first | done | (simp [*]; done))
    case rest =>
      obtain ⟨h, rfl, rfl, hq0, hq1, hq2, hq3, hq4, hq5, hq6, hq7, hq8, hq9, hq10, hq11, hq12, hq13, hq14, hq15, hq16, hq17, hq18, hq19, hq20, hq21, hq22⟩ := hcut
      go_wp2_with fail
      refine (A5 _).mono ?_
      rintro e w6 ⟨rfl, hb6⟩
      obtain ⟨hc6, hf6⟩ := keepc hb6
      have hs6 : w.heap.size ≤ w6.heap.size := (by have := hb6.size; first | omega | (simp at this; omega))
      have hz6a : g < w6.heap.size := (by have := hb6.size; first | omega | (simp at this; omega))
      have hz6b : w1.heap.size < w6.heap.size := (by have := hb6.size; first | omega | (simp at this; omega))
      have hz6c : w3.heap.size < w6.heap.size := (by have := hb6.size; first | omega | (simp at this; omega))
      have hz6d : w4.heap.size < w6.heap.size := (by have := hb6.size; first | omega | (simp at this; omega))
      have hz6e : h < w6.heap.size := (by have := hb6.size; first | omega | (simp at this; omega))
      have hB6 : Below w.heap.size w w6 := (by refine Below.trans ?_ (hb6.mono (by first | omega | (simp; done) | (simp; omega))); (repeat (first | (with_reducible exact Below.refl _ _) | (with_reducible assumption) | (with_reducible refine Below.drew ?_) | (with_reducible refine below_drewN ?_ _) | ((with_reducible refine Below.setCell ?_ ?_ _); rotate_left; focus (first | (simp; done) | omega | (simp; omega))) | ((with_reducible refine Below.alloc ?_ ?_ _); rotate_left; focus (first | exact Nat.le_refl _ | omega | (simp; done) | (simp; omega))))))
      have c6_0 : w6.cell? ⟨g, 5, none⟩ = some (.int .i64 x5) := by rw [hc6 _ _ (by first | omega | (simp; done) | (simp; omega))] <;> simp [go_sem, *]
      have c6_1 : w6.cell? ⟨g, 6, none⟩ = some (.int .i64 x6) := by rw [hc6 _ _ (by first | omega | (simp; done) | (simp; omega))] <;> simp [go_sem, *]
      have c6_2 : w6.cell? ⟨g, 7, none⟩ = some (.int .i64 x7) := by rw [hc6 _ _ (by first | omega | (simp; done) | (simp; omega))] <;> simp [go_sem, *]
      have c6_3 : w6.cell? ⟨g, 8, none⟩ = some (.int .i64 x8) := by rw [hc6 _ _ (by first | omega | (simp; done) | (simp; omega))] <;> simp [go_sem, *]
      have c6_4 : w6.cell? ⟨w1.heap.size, 0, none⟩ = some (.int .i64 (1 + x0 % 2)) := by rw [hc6 _ _ (by first | omega | (simp; done) | (simp; omega))] <;> simp [go_sem, *]
      have c6_5 : w6.cell? ⟨w1.heap.size, 1, none⟩ = some (.int .i64 (1 + x1 % 200)) := by rw [hc6 _ _ (by first | omega | (simp; done) | (simp; omega))] <;> simp [go_sem, *]
      have c6_6 : w6.cell? ⟨w1.heap.size, 2, none⟩ = some (.int .i64 (10 + x2 % 30)) := by rw [hc6 _ _ (by first | omega | (simp; done) | (simp; omega))] <;> simp [go_sem, *]
      have c6_7 : w6.cell? ⟨w3.heap.size, 0, none⟩ = some (.int .i64 u) := by rw [hc6 _ _ (by first | omega | (simp; done) | (simp; omega))] <;> simp [go_sem, *]
      have c6_8 : w6.cell? ⟨w3.heap.size, 1, none⟩ = some (.int .i64 v) := by rw [hc6 _ _ (by first | omega | (simp; done) | (simp; omega))] <;> simp [go_sem, *]
      have c6_9 : w6.cell? ⟨w4.heap.size, 0, none⟩ = some (.int .i64 u) := by rw [hc6 _ _ (by first | omega | (simp; done) | (simp; omega))] <;> simp [go_sem, *]
      have c6_10 : w6.cell? ⟨w4.heap.size, 1, none⟩ = some (.int .i64 v) := by rw [hc6 _ _ (by first | omega | (simp; done) | (simp; omega))] <;> simp [go_sem, *]
      have c6_11 : w6.cell? ⟨h, 0, none⟩ = some (.int .i64 p) := by rw [hc6 _ _ (by first | omega | (simp; done) | (simp; omega))] <;> simp [go_sem, *]
      have c6_12 : w6.cell? ⟨h, 1, none⟩ = some (.int .i64 q) := by rw [hc6 _ _ (by first | omega | (simp; done) | (simp; omega))] <;> simp [go_sem, *]
      clear hc6 hf6 hb6
      have m1 : IntKind.i64.wrap (x6 * 100) = x6 * 100 := IntWalk.i64_in _ ⟨by omega, by omega⟩
      have m2 : IntKind.i64.wrap (-x8) = -x8 := IntWalk.i64_in _ ⟨by omega, by omega⟩
      have m3 : (-x8).tmod 10000 = -x8 := by rw [Int.neg_tmod, Int.tmod_eq_emod_of_nonneg x8a, Int.emod_eq_of_lt x8a x8b]
      have hgr := grow_low (r := 1 + x5 % 300) (b := x6) (cr := x7) (e := -x8) (by omega) (by omega) x6a x6b x7a x7b (by omega) (by omega)
      obtain ⟨hg1l, hg2l⟩ := hgr
      obtain ⟨lo, hlo⟩ : ∃ lo, lo = x6 * 100 + x6 * (1 + x5 % 300) / 100 + x7 := ⟨_, rfl⟩
      have GA := fun w : World => iGrowAccount 4 (1 + x5 % 300) 0 (x6 * 100) x7 (-x8) w
      rw [hg1l, ← hlo] at GA
      go_wp2_with fail
      go_region_held3 (fun w' => w'.cell? ⟨g, 6, none⟩ = some (.int .i64 x6) ∧ w'.cell? ⟨g, 7, none⟩ = some (.int .i64 x7) ∧ w'.cell? ⟨g, 8, none⟩ = some (.int .i64 x8) ∧ w'.cell? ⟨w1.heap.size, 0, none⟩ = some (.int .i64 (1 + x0 % 2)) ∧ w'.cell? ⟨w1.heap.size, 1, none⟩ = some (.int .i64 (1 + x1 % 200)) ∧ w'.cell? ⟨w1.heap.size, 2, none⟩ = some (.int .i64 (10 + x2 % 30)) ∧ w'.cell? ⟨w3.heap.size, 0, none⟩ = some (.int .i64 u) ∧ w'.cell? ⟨w3.heap.size, 1, none⟩ = some (.int .i64 v) ∧ w'.cell? ⟨w4.heap.size, 0, none⟩ = some (.int .i64 u) ∧ w'.cell? ⟨w4.heap.size, 1, none⟩ = some (.int .i64 v) ∧ w'.cell? ⟨h, 0, none⟩ = some (.int .i64 p) ∧ w'.cell? ⟨h, 1, none⟩ = some (.int .i64 q) ∧ w'.cell? ⟨w6.heap.size, 0, none⟩ = some (.int .i64 p) ∧ w'.cell? ⟨w6.heap.size, 1, none⟩ = some (.int .i64 q) ∧ w'.cell? ⟨w6.heap.size + 1, 0, none⟩ = some (.int .i64 4) ∧ w'.cell? ⟨w6.heap.size + 1, 1, none⟩ = some (.int .i64 (1 + x5 % 300)) ∧ w'.cell? ⟨w6.heap.size + 1, 2, none⟩ = some (.int .i64 0) ∧ g < w'.heap.size ∧ w1.heap.size < w'.heap.size ∧ w3.heap.size < w'.heap.size ∧ w4.heap.size < w'.heap.size ∧ h < w'.heap.size ∧ w6.heap.size < w'.heap.size ∧ w6.heap.size + 1 < w'.heap.size ∧ Below w.heap.size w w') (first | (with_reducible assumption) | (refine ⟨?_, ?_, ?_, ?_, ?_, ?_, ?_, ?_, ?_, ?_, ?_, ?_, ?_, ?_, ?_, ?_, ?_, ?_, ?_, ?_, ?_, ?_, ?_, ?_, ?_⟩ <;> first | (with_reducible assumption) | omega | (simp [go_sem, *]; done) | (simp [*]; omega) | ((repeat (first | (with_reducible exact Below.refl _ _) | (with_reducible assumption) | (with_reducible refine Below.drew ?_) | (with_reducible refine below_drewN ?_ _) | ((with_reducible refine Below.setCell ?_ ?_ _); rotate_left; focus (first | (simp; done) | omega | (simp; omega))) | ((with_reducible refine Below.alloc ?_ ?_ _); rotate_left; focus (first | exact Nat.le_refl _ | omega | (simp; done) | (simp; omega))))); first | done | (simp [*]; done))))
        (first | (go_at_call 24; refine (GA _).mono ?_; rintro e w7 ⟨rfl, hb7⟩; obtain ⟨hc7, hf7⟩ := keepc hb7; have hs7 := hb7.size; have hS7 : ((fun w' => w'.cell? ⟨g, 6, none⟩ = some (.int .i64 x6) ∧ w'.cell? ⟨g, 7, none⟩ = some (.int .i64 x7) ∧ w'.cell? ⟨g, 8, none⟩ = some (.int .i64 x8) ∧ w'.cell? ⟨w1.heap.size, 0, none⟩ = some (.int .i64 (1 + x0 % 2)) ∧ w'.cell? ⟨w1.heap.size, 1, none⟩ = some (.int .i64 (1 + x1 % 200)) ∧ w'.cell? ⟨w1.heap.size, 2, none⟩ = some (.int .i64 (10 + x2 % 30)) ∧ w'.cell? ⟨w3.heap.size, 0, none⟩ = some (.int .i64 u) ∧ w'.cell? ⟨w3.heap.size, 1, none⟩ = some (.int .i64 v) ∧ w'.cell? ⟨w4.heap.size, 0, none⟩ = some (.int .i64 u) ∧ w'.cell? ⟨w4.heap.size, 1, none⟩ = some (.int .i64 v) ∧ w'.cell? ⟨h, 0, none⟩ = some (.int .i64 p) ∧ w'.cell? ⟨h, 1, none⟩ = some (.int .i64 q) ∧ w'.cell? ⟨w6.heap.size, 0, none⟩ = some (.int .i64 p) ∧ w'.cell? ⟨w6.heap.size, 1, none⟩ = some (.int .i64 q) ∧ w'.cell? ⟨w6.heap.size + 1, 0, none⟩ = some (.int .i64 4) ∧ w'.cell? ⟨w6.heap.size + 1, 1, none⟩ = some (.int .i64 (1 + x5 % 300)) ∧ w'.cell? ⟨w6.heap.size + 1, 2, none⟩ = some (.int .i64 0) ∧ g < w'.heap.size ∧ w1.heap.size < w'.heap.size ∧ w3.heap.size < w'.heap.size ∧ w4.heap.size < w'.heap.size ∧ h < w'.heap.size ∧ w6.heap.size < w'.heap.size ∧ w6.heap.size + 1 < w'.heap.size ∧ Below w.heap.size w w')) w7 := (by refine ⟨?_, ?_, ?_, ?_, ?_, ?_, ?_, ?_, ?_, ?_, ?_, ?_, ?_, ?_, ?_, ?_, ?_, ?_, ?_, ?_, ?_, ?_, ?_, ?_, ?_⟩ <;> first | (rw [hc7 _ _ (by first | omega | (simp [*]; omega) | (simp [*]; done))] <;> simp [go_sem, *]; done) | (first | omega | (simp [*] at hs7; omega)) | (refine Below.trans ?_ (hb7.mono (by first | omega | (simp [*]; done) | (simp [*]; omega))); (repeat (first | (with_reducible exact Below.refl _ _) | (with_reducible assumption) | (with_reducible refine Below.drew ?_) | (with_reducible refine below_drewN ?_ _) | ((with_reducible refine Below.setCell ?_ ?_ _); rotate_left; focus (first | (simp; done) | omega | (simp; omega))) | ((with_reducible refine Below.alloc ?_ ?_ _); rotate_left; focus (first | exact Nat.le_refl _ | omega | (simp; done) | (simp; omega))))); first | done | (simp [*]; done))); clear hb7 hc7 hf7 hs7))
      go_wp2_with fail
      obtain ⟨d7_0, d7_1, d7_2, d7_3, d7_4, d7_5, d7_6, d7_7, d7_8, d7_9, d7_10, d7_11, d7_12, d7_13, d7_14, d7_15, d7_16, d7_17, d7_18, d7_19, d7_20, d7_21, d7_22, d7_23, hB7⟩ := hS7
      have n1 : IntKind.i64.wrap (x6 * (1 + x5 % 300)) = x6 * (1 + x5 % 300) := IntWalk.i64_in _ ⟨by omega, by omega⟩
      have n2 : (x6 * (1 + x5 % 300)).tdiv 100 = x6 * (1 + x5 % 300) / 100 := Int.tdiv_eq_ediv_of_nonneg hg2l.1
      have n3 : IntKind.i64.wrap (x6 * (1 + x5 % 300) / 100) = x6 * (1 + x5 % 300) / 100 := IntWalk.i64_in _ ⟨by omega, by omega⟩
      have n4 : IntKind.i64.wrap (x6 * 100 + x6 * (1 + x5 % 300) / 100) = x6 * 100 + x6 * (1 + x5 % 300) / 100 := IntWalk.i64_in _ ⟨by omega, by omega⟩
      have n5 : IntKind.i64.wrap (x6 * 100 + x6 * (1 + x5 % 300) / 100 + x7) = x6 * 100 + x6 * (1 + x5 % 300) / 100 + x7 := IntWalk.i64_in _ ⟨by omega, by omega⟩
      have hdo : designOkL (1 + x0 % 2) (1 + x1 % 200) (10 + x2 % 30) = true := by rw [designOkL, inB_t (by omega) (by omega), inB_t (by omega) (by omega), if_pos hk, inB_t (by omega) (by omega)]; rfl
      have DA := fun w : World => iDesignOk (1 + x0 % 2) (1 + x1 % 200) (10 + x2 % 30) w
      rw [hdo] at DA
      clear hlo hdo hg1l hg2l m2 m3 j1 j2 i0 i1 i2 hk x0m0 x0m1 x0m2 x1m0 x1m1 x1m2 x2m0 x2m1 x2m2 x3m0 x3m1 x3m2 x4m0 x4m1 x4m2 x5m0 x5m1 x5m2
      go_region_held3 (fun w' => w'.cell? ⟨g, 6, none⟩ = some (.int .i64 x6) ∧ w'.cell? ⟨g, 7, none⟩ = some (.int .i64 x7) ∧ w'.cell? ⟨w1.heap.size, 0, none⟩ = some (.int .i64 (1 + x0 % 2)) ∧ w'.cell? ⟨w1.heap.size, 1, none⟩ = some (.int .i64 (1 + x1 % 200)) ∧ w'.cell? ⟨w1.heap.size, 2, none⟩ = some (.int .i64 (10 + x2 % 30)) ∧ w'.cell? ⟨w3.heap.size, 0, none⟩ = some (.int .i64 u) ∧ w'.cell? ⟨w3.heap.size, 1, none⟩ = some (.int .i64 v) ∧ w'.cell? ⟨w4.heap.size, 0, none⟩ = some (.int .i64 u) ∧ w'.cell? ⟨w4.heap.size, 1, none⟩ = some (.int .i64 v) ∧ w'.cell? ⟨h, 0, none⟩ = some (.int .i64 p) ∧ w'.cell? ⟨h, 1, none⟩ = some (.int .i64 q) ∧ w'.cell? ⟨w6.heap.size, 0, none⟩ = some (.int .i64 p) ∧ w'.cell? ⟨w6.heap.size, 1, none⟩ = some (.int .i64 q) ∧ w'.cell? ⟨w6.heap.size + 1, 0, none⟩ = some (.int .i64 4) ∧ w'.cell? ⟨w6.heap.size + 1, 1, none⟩ = some (.int .i64 (1 + x5 % 300)) ∧ w'.cell? ⟨w6.heap.size + 1, 2, none⟩ = some (.int .i64 0) ∧ g < w'.heap.size ∧ w1.heap.size < w'.heap.size ∧ w3.heap.size < w'.heap.size ∧ w4.heap.size < w'.heap.size ∧ h < w'.heap.size ∧ w6.heap.size < w'.heap.size ∧ w6.heap.size + 1 < w'.heap.size ∧ Below w.heap.size w w') (first | (with_reducible assumption) | (refine ⟨?_, ?_, ?_, ?_, ?_, ?_, ?_, ?_, ?_, ?_, ?_, ?_, ?_, ?_, ?_, ?_, ?_, ?_, ?_, ?_, ?_, ?_, ?_, ?_⟩ <;> first | (with_reducible assumption) | omega | (simp [go_sem, *]; done) | (simp [*]; omega) | ((repeat (first | (with_reducible exact Below.refl _ _) | (with_reducible assumption) | (with_reducible refine Below.drew ?_) | (with_reducible refine below_drewN ?_ _) | ((with_reducible refine Below.setCell ?_ ?_ _); rotate_left; focus (first | (simp; done) | omega | (simp; omega))) | ((with_reducible refine Below.alloc ?_ ?_ _); rotate_left; focus (first | exact Nat.le_refl _ | omega | (simp; done) | (simp; omega))))); first | done | (simp [*]; done))))
        (first | (go_at_call 22; refine (DA _).mono ?_; rintro e w8 ⟨rfl, hb8⟩; obtain ⟨hc8, hf8⟩ := keepc hb8; have hs8 := hb8.size; have hS8 : ((fun w' => w'.cell? ⟨g, 6, none⟩ = some (.int .i64 x6) ∧ w'.cell? ⟨g, 7, none⟩ = some (.int .i64 x7) ∧ w'.cell? ⟨w1.heap.size, 0, none⟩ = some (.int .i64 (1 + x0 % 2)) ∧ w'.cell? ⟨w1.heap.size, 1, none⟩ = some (.int .i64 (1 + x1 % 200)) ∧ w'.cell? ⟨w1.heap.size, 2, none⟩ = some (.int .i64 (10 + x2 % 30)) ∧ w'.cell? ⟨w3.heap.size, 0, none⟩ = some (.int .i64 u) ∧ w'.cell? ⟨w3.heap.size, 1, none⟩ = some (.int .i64 v) ∧ w'.cell? ⟨w4.heap.size, 0, none⟩ = some (.int .i64 u) ∧ w'.cell? ⟨w4.heap.size, 1, none⟩ = some (.int .i64 v) ∧ w'.cell? ⟨h, 0, none⟩ = some (.int .i64 p) ∧ w'.cell? ⟨h, 1, none⟩ = some (.int .i64 q) ∧ w'.cell? ⟨w6.heap.size, 0, none⟩ = some (.int .i64 p) ∧ w'.cell? ⟨w6.heap.size, 1, none⟩ = some (.int .i64 q) ∧ w'.cell? ⟨w6.heap.size + 1, 0, none⟩ = some (.int .i64 4) ∧ w'.cell? ⟨w6.heap.size + 1, 1, none⟩ = some (.int .i64 (1 + x5 % 300)) ∧ w'.cell? ⟨w6.heap.size + 1, 2, none⟩ = some (.int .i64 0) ∧ g < w'.heap.size ∧ w1.heap.size < w'.heap.size ∧ w3.heap.size < w'.heap.size ∧ w4.heap.size < w'.heap.size ∧ h < w'.heap.size ∧ w6.heap.size < w'.heap.size ∧ w6.heap.size + 1 < w'.heap.size ∧ Below w.heap.size w w')) w8 := (by refine ⟨?_, ?_, ?_, ?_, ?_, ?_, ?_, ?_, ?_, ?_, ?_, ?_, ?_, ?_, ?_, ?_, ?_, ?_, ?_, ?_, ?_, ?_, ?_, ?_⟩ <;> first | (rw [hc8 _ _ (by first | omega | (simp [*]; omega) | (simp [*]; done))] <;> simp [go_sem, *]; done) | (first | omega | (simp [*] at hs8; omega)) | (refine Below.trans ?_ (hb8.mono (by first | omega | (simp [*]; done) | (simp [*]; omega))); (repeat (first | (with_reducible exact Below.refl _ _) | (with_reducible assumption) | (with_reducible refine Below.drew ?_) | (with_reducible refine below_drewN ?_ _) | ((with_reducible refine Below.setCell ?_ ?_ _); rotate_left; focus (first | (simp; done) | omega | (simp; omega))) | ((with_reducible refine Below.alloc ?_ ?_ _); rotate_left; focus (first | exact Nat.le_refl _ | omega | (simp; done) | (simp; omega))))); first | done | (simp [*]; done))); clear hb8 hc8 hf8 hs8))
      go_wp2_with fail
      go_ret
      exact ⟨rfl, hS8.2.2.2.2.2.2.2.2.2.2.2.2.2.2.2.2.2.2.2.2.2.2.2⟩
end Go.Proofs.Ytjiinkbjmamdmaa
