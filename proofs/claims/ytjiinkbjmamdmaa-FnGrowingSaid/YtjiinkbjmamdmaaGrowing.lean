/- A guaranteed account grows with every credit. No conditions. -/
import Derived.Test.YtjiinkbjmamdmaaPlaces
import Derived.Test.YtjiinkbjmamdmaaDesign
import Derived.Test.YtjiinkbjmamdmaaArgs
import Derived.Deep.RegionHeld3
namespace Go.Proofs.Ytjiinkbjmamdmaa
open Go.RowKit

theorem growL_in {r b cr e : Int} (h1 : 1 ≤ r) (h2 : r ≤ 1000) (h3 : 0 ≤ b) (h4 : b ≤ 1000000000) (h5 : 0 ≤ cr) (h6 : cr ≤ 1000000000) (h7 : -10000 ≤ e) (h8 : e ≤ 10000) : growL 4 r 0 b cr e = b + b * max e r / 10000 + cr := by
  rw [growL, if_pos]
  refine ⟨?_, rfl, inB_t h3 h4, inB_t h5 h6, inB_t h7 h8⟩
  simp [designOkL, inB, h1, h2]
theorem mulDiv_mono {b c m : Int} (h : b ≤ c) (hm : 0 ≤ m) : b * m / 10000 ≤ c * m / 10000 := Int.ediv_le_ediv (by omega) (Int.mul_le_mul_of_nonneg_right h hm)
theorem growing_law {r x1 x2 e : Int} (h1 : 1 ≤ r) (h2 : r ≤ 300) (h3 : 0 ≤ x1) (h4 : x1 < 10000) (h5 : 0 ≤ x2) (h6 : x2 < 10000) (h7 : 0 ≤ e) (h8 : e < 500) :
    growL 4 r 0 x1 (x2 + 1) e = growL 4 r 0 x1 x2 e + 1 ∧ growL 4 r 0 x1 x2 e + 100 ≤ growL 4 r 0 (x1 + 100) x2 e ∧ x1 + x2 ≤ growL 4 r 0 x1 x2 e ∧ 0 ≤ growL 4 r 0 x1 x2 e ∧ growL 4 r 0 x1 x2 e ≤ 1000000000 := by
  rw [growL_in h1 (by omega) h3 (by omega) h5 (by omega) (by omega) (by omega), growL_in h1 (by omega) h3 (by omega) (by omega) (by omega) (by omega) (by omega), growL_in h1 (by omega) (by omega) (by omega) h5 (by omega) (by omega) (by omega)]
  have hm : 0 ≤ max e r ∧ max e r ≤ 500 := by omega
  generalize max e r = m at *
  have k1 := mulDiv_mono (show x1 ≤ x1 + 100 by omega) hm.1
  have k2 := mul_bd h3 (show x1 ≤ 10000 by omega) hm.1 hm.2
  omega

set_option maxHeartbeats 1600000 in
theorem walkGrowing (A : Option Addr) (n c : Nat) (w : World) (hb : Bys w w.heap.size A n) :
    Calls Try.prog 7 #[.slice A n c] w fun e w' => e = .returned (.bool true) ∧ Below w.heap.size w w' := by
  have hn := hb.1
  by_cases hbig : (1048576 : Int) < n
  · have hd : decide ((1048576 : Int) < n) = true := by simpa using hbig
    go_enter Try.func7, Try.ntmps7
    go_wp2_with fail
    refine (lBig _ _ _ _ (by omega)).mono ?_
    rintro e w' ⟨rfl, rfl⟩
    go_wp2_with fail
    go_ret
    exact ⟨rfl, Below.refl _ _⟩
  · have hd : decide ((1048576 : Int) < n) = false := by simpa using hbig
    go_enter Try.func7, Try.ntmps7
    go_wp2_with fail
    refine (lBig _ _ _ _ (by omega)).mono ?_
    rintro e w' ⟨rfl, rfl⟩
    go_wp2_with fail
    refine (sPlacesAt _ _ _ _ hb).mono ?_
    rintro e w1 ⟨g, cap, f, rfl, hg0, hg1, hp, hb1⟩
    obtain ⟨p0, p0a, p0b⟩ := hp 0 (by omega)
    obtain ⟨p1, p1a, p1b⟩ := hp 1 (by omega)
    obtain ⟨p2, p2a, p2b⟩ := hp 2 (by omega)
    obtain ⟨p3, p3a, p3b⟩ := hp 3 (by omega)
    clear hp
    generalize f 0 = x0 at *
    generalize f 1 = x1 at *
    generalize f 2 = x2 at *
    generalize f 3 = x3 at *
    have hr1 := Int.emod_nonneg x0 (show (300 : Int) ≠ 0 by omega)
    have hr2 := Int.emod_lt_of_pos x0 (show (0 : Int) < 300 by omega)
    have he1 := Int.emod_nonneg x3 (show (500 : Int) ≠ 0 by omega)
    have he2 := Int.emod_lt_of_pos x3 (show (0 : Int) < 500 by omega)
    have k1 : IntKind.i64.wrap (x2 + 1) = x2 + 1 := IntWalk.i64_in _ ⟨by omega, by omega⟩
    have k2 : IntKind.i64.wrap (x1 + 100) = x1 + 100 := IntWalk.i64_in _ ⟨by omega, by omega⟩
    have k3 : x3.tmod 500 = x3 % 500 := Int.tmod_eq_emod_of_nonneg p3a
    have law := growing_law (r := 1 + x0 % 300) (by omega) (by omega) p1a p1b p2a p2b he1 he2
    go_wp2_with fail
    go_region_held3 (fun w' => w'.cell? ⟨g, 0, none⟩ = some (.int .i64 x0) ∧ w'.cell? ⟨g, 1, none⟩ = some (.int .i64 x1) ∧ w'.cell? ⟨g, 2, none⟩ = some (.int .i64 x2) ∧ w'.cell? ⟨g, 3, none⟩ = some (.int .i64 x3) ∧ w'.cell? ⟨w1.heap.size, 0, none⟩ = some (.int .i64 4) ∧ w'.cell? ⟨w1.heap.size, 1, none⟩ = some (.int .i64 (1 + x0 % 300)) ∧ w'.cell? ⟨w1.heap.size, 2, none⟩ = some (.int .i64 0) ∧ g < w'.heap.size ∧ w1.heap.size < w'.heap.size ∧ Below w.heap.size w w') (first | (with_reducible assumption) | (refine ⟨?_, ?_, ?_, ?_, ?_, ?_, ?_, ?_, ?_, ?_⟩ <;> first | (with_reducible assumption) | omega | (simp [go_sem, *]; done) | (simp [*]; omega) | ((repeat (first | (with_reducible exact Below.refl _ _) | (with_reducible assumption) | (with_reducible refine Below.drew ?_) | (with_reducible refine below_drewN ?_ _) | ((with_reducible refine Below.setCell ?_ ?_ _); rotate_left; focus (first | (simp; done) | omega | (simp; omega))) | ((with_reducible refine Below.alloc ?_ ?_ _); rotate_left; focus (first | exact Nat.le_refl _ | omega | (simp; done) | (simp; omega))))); first | done | (simp [*]; done))))
      (first | (go_at_call 24; refine (iGrowAccount _ _ _ _ _ _ _).mono ?_; rintro e w2 ⟨rfl, hb2⟩; obtain ⟨hc2, hf2⟩ := keepc hb2; have hs2 := hb2.size; have hS2 : ((fun w' => w'.cell? ⟨g, 0, none⟩ = some (.int .i64 x0) ∧ w'.cell? ⟨g, 1, none⟩ = some (.int .i64 x1) ∧ w'.cell? ⟨g, 2, none⟩ = some (.int .i64 x2) ∧ w'.cell? ⟨g, 3, none⟩ = some (.int .i64 x3) ∧ w'.cell? ⟨w1.heap.size, 0, none⟩ = some (.int .i64 4) ∧ w'.cell? ⟨w1.heap.size, 1, none⟩ = some (.int .i64 (1 + x0 % 300)) ∧ w'.cell? ⟨w1.heap.size, 2, none⟩ = some (.int .i64 0) ∧ g < w'.heap.size ∧ w1.heap.size < w'.heap.size ∧ Below w.heap.size w w')) w2 := (by refine ⟨?_, ?_, ?_, ?_, ?_, ?_, ?_, ?_, ?_, ?_⟩ <;> first | (rw [hc2 _ _ (by first | omega | (simp [*]; omega) | (simp [*]; done))] <;> simp [go_sem, *]; done) | (first | omega | (simp [*] at hs2; omega)) | (refine Below.trans ?_ (hb2.mono (by first | omega | (simp [*]; done) | (simp [*]; omega))); (repeat (first | (with_reducible exact Below.refl _ _) | (with_reducible assumption) | (with_reducible refine Below.drew ?_) | (with_reducible refine below_drewN ?_ _) | ((with_reducible refine Below.setCell ?_ ?_ _); rotate_left; focus (first | (simp; done) | omega | (simp; omega))) | ((with_reducible refine Below.alloc ?_ ?_ _); rotate_left; focus (first | exact Nat.le_refl _ | omega | (simp; done) | (simp; omega))))); first | done | (simp [*]; done))); clear hb2 hc2 hf2 hs2))
    go_wp2_with fail
    go_region_held3 (fun w' => w'.cell? ⟨g, 0, none⟩ = some (.int .i64 x0) ∧ w'.cell? ⟨g, 1, none⟩ = some (.int .i64 x1) ∧ w'.cell? ⟨g, 2, none⟩ = some (.int .i64 x2) ∧ w'.cell? ⟨g, 3, none⟩ = some (.int .i64 x3) ∧ w'.cell? ⟨w1.heap.size, 0, none⟩ = some (.int .i64 4) ∧ w'.cell? ⟨w1.heap.size, 1, none⟩ = some (.int .i64 (1 + x0 % 300)) ∧ w'.cell? ⟨w1.heap.size, 2, none⟩ = some (.int .i64 0) ∧ g < w'.heap.size ∧ w1.heap.size < w'.heap.size ∧ Below w.heap.size w w') (first | (with_reducible assumption) | (refine ⟨?_, ?_, ?_, ?_, ?_, ?_, ?_, ?_, ?_, ?_⟩ <;> first | (with_reducible assumption) | omega | (simp [go_sem, *]; done) | (simp [*]; omega) | ((repeat (first | (with_reducible exact Below.refl _ _) | (with_reducible assumption) | (with_reducible refine Below.drew ?_) | (with_reducible refine below_drewN ?_ _) | ((with_reducible refine Below.setCell ?_ ?_ _); rotate_left; focus (first | (simp; done) | omega | (simp; omega))) | ((with_reducible refine Below.alloc ?_ ?_ _); rotate_left; focus (first | exact Nat.le_refl _ | omega | (simp; done) | (simp; omega))))); first | done | (simp [*]; done))))
      (first | (go_at_call 24; refine (iGrowAccount _ _ _ _ _ _ _).mono ?_; rintro e w3 ⟨rfl, hb3⟩; obtain ⟨hc3, hf3⟩ := keepc hb3; have hs3 := hb3.size; have hS3 : ((fun w' => w'.cell? ⟨g, 0, none⟩ = some (.int .i64 x0) ∧ w'.cell? ⟨g, 1, none⟩ = some (.int .i64 x1) ∧ w'.cell? ⟨g, 2, none⟩ = some (.int .i64 x2) ∧ w'.cell? ⟨g, 3, none⟩ = some (.int .i64 x3) ∧ w'.cell? ⟨w1.heap.size, 0, none⟩ = some (.int .i64 4) ∧ w'.cell? ⟨w1.heap.size, 1, none⟩ = some (.int .i64 (1 + x0 % 300)) ∧ w'.cell? ⟨w1.heap.size, 2, none⟩ = some (.int .i64 0) ∧ g < w'.heap.size ∧ w1.heap.size < w'.heap.size ∧ Below w.heap.size w w')) w3 := (by refine ⟨?_, ?_, ?_, ?_, ?_, ?_, ?_, ?_, ?_, ?_⟩ <;> first | (rw [hc3 _ _ (by first | omega | (simp [*]; omega) | (simp [*]; done))] <;> simp [go_sem, *]; done) | (first | omega | (simp [*] at hs3; omega)) | (refine Below.trans ?_ (hb3.mono (by first | omega | (simp [*]; done) | (simp [*]; omega))); (repeat (first | (with_reducible exact Below.refl _ _) | (with_reducible assumption) | (with_reducible refine Below.drew ?_) | (with_reducible refine below_drewN ?_ _) | ((with_reducible refine Below.setCell ?_ ?_ _); rotate_left; focus (first | (simp; done) | omega | (simp; omega))) | ((with_reducible refine Below.alloc ?_ ?_ _); rotate_left; focus (first | exact Nat.le_refl _ | omega | (simp; done) | (simp; omega))))); first | done | (simp [*]; done))); clear hb3 hc3 hf3 hs3))
    go_wp2_with fail
    go_region_held3 (fun w' => w'.cell? ⟨g, 0, none⟩ = some (.int .i64 x0) ∧ w'.cell? ⟨g, 1, none⟩ = some (.int .i64 x1) ∧ w'.cell? ⟨g, 2, none⟩ = some (.int .i64 x2) ∧ w'.cell? ⟨g, 3, none⟩ = some (.int .i64 x3) ∧ w'.cell? ⟨w1.heap.size, 0, none⟩ = some (.int .i64 4) ∧ w'.cell? ⟨w1.heap.size, 1, none⟩ = some (.int .i64 (1 + x0 % 300)) ∧ w'.cell? ⟨w1.heap.size, 2, none⟩ = some (.int .i64 0) ∧ g < w'.heap.size ∧ w1.heap.size < w'.heap.size ∧ Below w.heap.size w w') (first | (with_reducible assumption) | (refine ⟨?_, ?_, ?_, ?_, ?_, ?_, ?_, ?_, ?_, ?_⟩ <;> first | (with_reducible assumption) | omega | (simp [go_sem, *]; done) | (simp [*]; omega) | ((repeat (first | (with_reducible exact Below.refl _ _) | (with_reducible assumption) | (with_reducible refine Below.drew ?_) | (with_reducible refine below_drewN ?_ _) | ((with_reducible refine Below.setCell ?_ ?_ _); rotate_left; focus (first | (simp; done) | omega | (simp; omega))) | ((with_reducible refine Below.alloc ?_ ?_ _); rotate_left; focus (first | exact Nat.le_refl _ | omega | (simp; done) | (simp; omega))))); first | done | (simp [*]; done))))
      (first | (go_at_call 24; refine (iGrowAccount _ _ _ _ _ _ _).mono ?_; rintro e w4 ⟨rfl, hb4⟩; obtain ⟨hc4, hf4⟩ := keepc hb4; have hs4 := hb4.size; have hS4 : ((fun w' => w'.cell? ⟨g, 0, none⟩ = some (.int .i64 x0) ∧ w'.cell? ⟨g, 1, none⟩ = some (.int .i64 x1) ∧ w'.cell? ⟨g, 2, none⟩ = some (.int .i64 x2) ∧ w'.cell? ⟨g, 3, none⟩ = some (.int .i64 x3) ∧ w'.cell? ⟨w1.heap.size, 0, none⟩ = some (.int .i64 4) ∧ w'.cell? ⟨w1.heap.size, 1, none⟩ = some (.int .i64 (1 + x0 % 300)) ∧ w'.cell? ⟨w1.heap.size, 2, none⟩ = some (.int .i64 0) ∧ g < w'.heap.size ∧ w1.heap.size < w'.heap.size ∧ Below w.heap.size w w')) w4 := (by refine ⟨?_, ?_, ?_, ?_, ?_, ?_, ?_, ?_, ?_, ?_⟩ <;> first | (rw [hc4 _ _ (by first | omega | (simp [*]; omega) | (simp [*]; done))] <;> simp [go_sem, *]; done) | (first | omega | (simp [*] at hs4; omega)) | (refine Below.trans ?_ (hb4.mono (by first | omega | (simp [*]; done) | (simp [*]; omega))); (repeat (first | (with_reducible exact Below.refl _ _) | (with_reducible assumption) | (with_reducible refine Below.drew ?_) | (with_reducible refine below_drewN ?_ _) | ((with_reducible refine Below.setCell ?_ ?_ _); rotate_left; focus (first | (simp; done) | omega | (simp; omega))) | ((with_reducible refine Below.alloc ?_ ?_ _); rotate_left; focus (first | exact Nat.le_refl _ | omega | (simp; done) | (simp; omega))))); first | done | (simp [*]; done))); clear hb4 hc4 hf4 hs4))
    go_wp2_with fail
    generalize growL 4 (1 + x0 % 300) 0 x1 x2 (x3 % 500) = a at *
    generalize growL 4 (1 + x0 % 300) 0 x1 (x2 + 1) (x3 % 500) = b at *
    generalize growL 4 (1 + x0 % 300) 0 (x1 + 100) x2 (x3 % 500) = d at *
    obtain ⟨l1, l2, l3, l4, l5⟩ := law
    clear k1 k2 k3 hS2 hS3
    have m1 : IntKind.i64.wrap (a + 1) = a + 1 := IntWalk.i64_in _ ⟨by omega, by omega⟩
    have m2 : IntKind.i64.wrap (a + 100) = a + 100 := IntWalk.i64_in _ ⟨by omega, by omega⟩
    have m3 : IntKind.i64.wrap (x1 + x2) = x1 + x2 := IntWalk.i64_in _ ⟨by omega, by omega⟩
    have b1 : (b == a + 1) = true := by simp [l1]
    have b2 : decide (a + 100 ≤ d) = true := by simpa using l2
    have b3 : decide (x1 + x2 ≤ a) = true := by simpa using l3
    clear l1
    go_quiet (fail)
    go_wp2_with fail
    go_ret
    refine ⟨rfl, ?_⟩
    ((repeat (first | (with_reducible exact Below.refl _ _) | (with_reducible assumption) | (with_reducible refine Below.drew ?_) | (with_reducible refine below_drewN ?_ _) | ((with_reducible refine Below.setCell ?_ ?_ _); rotate_left; focus (first | (simp; done) | omega | (simp; omega))) | ((with_reducible refine Below.alloc ?_ ?_ _); rotate_left; focus (first | exact Nat.le_refl _ | omega | (simp; done) | (simp; omega))))); first | done | (simp [*]; done))
end Go.Proofs.Ytjiinkbjmamdmaa
