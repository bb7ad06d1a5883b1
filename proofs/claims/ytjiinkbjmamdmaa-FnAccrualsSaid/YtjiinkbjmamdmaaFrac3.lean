/- Fractions made of two numbers, of the program; the price of units. No conditions. -/
import Derived.Test.YtjiinkbjmamdmaaFrac2
namespace Go.Proofs.Ytjiinkbjmamdmaa
open Go.RowKit

set_option maxHeartbeats 800000 in
theorem iFracNew (n d : Int) (w : World) :
    Calls Try.prog 66 #[.int .i64 n, .int .i64 d] w fun e w' => e = .returned (vOpt (fracNewL n d)) ∧ Below w.heap.size w w' := by
  by_cases h : d = 0
  · have e0 : fracNewL n d = none := by rw [fracNewL, if_neg (by simp [h])]
    rw [e0]
    clear e0
    subst h
    go_enter Try.func66, Try.ntmps66
    go_wp2_with fail
    refine bodyPost_ret (v := vOpt none) ?_ rfl ⟨rfl, ?_⟩
    · simp [results, Try.results66, go_sem, oN_none, oD_none, oB_none]
    · (repeat (first | (with_reducible exact Below.refl _ _) | (with_reducible assumption) | (with_reducible refine Below.drew ?_) | (with_reducible refine below_drewN ?_ _) | ((with_reducible refine Below.setCell ?_ ?_ _); rotate_left; focus (first | (simp; done) | omega | (simp; omega))) | ((with_reducible refine Below.alloc ?_ ?_ _); rotate_left; focus (first | exact Nat.le_refl _ | omega | (simp; done) | (simp; omega)))))
  · have t0 : (d == 0) = false := by simpa using h
    cases t1 : inB n (-1000000000000) 1000000000000
    · have e0 : fracNewL n d = none := by rw [fracNewL, if_neg (by simp [t1])]
      rw [e0]
      clear e0
      go_enter Try.func66, Try.ntmps66
      go_wp2_with fail
      refine (within_any _ _ _ _).mono ?_
      rintro e w' ⟨rfl, rfl⟩
      go_wp2_with fail
      refine bodyPost_ret (v := vOpt none) ?_ rfl ⟨rfl, ?_⟩
      · simp [results, Try.results66, go_sem, oN_none, oD_none, oB_none]
      · (repeat (first | (with_reducible exact Below.refl _ _) | (with_reducible assumption) | (with_reducible refine Below.drew ?_) | (with_reducible refine below_drewN ?_ _) | ((with_reducible refine Below.setCell ?_ ?_ _); rotate_left; focus (first | (simp; done) | omega | (simp; omega))) | ((with_reducible refine Below.alloc ?_ ?_ _); rotate_left; focus (first | exact Nat.le_refl _ | omega | (simp; done) | (simp; omega)))))
    · cases t2 : inB d (-1000000000000) 1000000000000
      · have e0 : fracNewL n d = none := by rw [fracNewL, if_neg (by simp [t1, t2])]
        rw [e0]
        clear e0
        go_enter Try.func66, Try.ntmps66
        go_wp2_with fail
        refine (within_any _ _ _ _).mono ?_
        rintro e w' ⟨rfl, rfl⟩
        go_wp2_with fail
        refine (within_any _ _ _ _).mono ?_
        rintro e w' ⟨rfl, rfl⟩
        go_wp2_with fail
        refine bodyPost_ret (v := vOpt none) ?_ rfl ⟨rfl, ?_⟩
        · simp [results, Try.results66, go_sem, oN_none, oD_none, oB_none]
        · (repeat (first | (with_reducible exact Below.refl _ _) | (with_reducible assumption) | (with_reducible refine Below.drew ?_) | (with_reducible refine below_drewN ?_ _) | ((with_reducible refine Below.setCell ?_ ?_ _); rotate_left; focus (first | (simp; done) | omega | (simp; omega))) | ((with_reducible refine Below.alloc ?_ ?_ _); rotate_left; focus (first | exact Nat.le_refl _ | omega | (simp; done) | (simp; omega)))))
      · have e0 : fracNewL n d = redL n d := by rw [fracNewL, if_pos (by simp [h, t1, t2])]
        rw [e0]
        clear e0
        have g1 := inB_iff.1 t1
        have g2 := inB_iff.1 t2
        obtain ⟨g3, g4⟩ := g1
        obtain ⟨g5, g6⟩ := g2
        obtain ⟨r, hr⟩ : ∃ r, r = redL n d := ⟨_, rfl⟩
        rw [← hr]
        have HR := Lib.hid hr
        clear hr
        go_enter Try.func66, Try.ntmps66
        go_wp2_with fail
        refine (within_any _ _ _ _).mono ?_
        rintro e w' ⟨rfl, rfl⟩
        go_wp2_with fail
        refine (within_any _ _ _ _).mono ?_
        rintro e w' ⟨rfl, rfl⟩
        go_wp2_with fail
        refine (iReduced n d _ ⟨by omega, by omega⟩ ⟨by omega, by omega⟩ h).mono ?_
        rw [← HR.out]
        rintro e w1 ⟨rfl, hb1⟩
        obtain ⟨hc1, hf1⟩ := keepc hb1
        have hz1a : w.heap.size < w1.heap.size := (by have := hb1.size; first | omega | (simp at this; omega))
        have hB1 : Below w.heap.size w w1 := (by refine Below.trans ?_ (hb1.mono (by first | omega | (simp; done) | (simp; omega))); (repeat (first | (with_reducible exact Below.refl _ _) | (with_reducible assumption) | (with_reducible refine Below.drew ?_) | (with_reducible refine below_drewN ?_ _) | ((with_reducible refine Below.setCell ?_ ?_ _); rotate_left; focus (first | (simp; done) | omega | (simp; omega))) | ((with_reducible refine Below.alloc ?_ ?_ _); rotate_left; focus (first | exact Nat.le_refl _ | omega | (simp; done) | (simp; omega))))))
        have c0 : w1.cell? ⟨w.heap.size, 0, none⟩ = some (.int .i64 0) := by rw [hc1 _ _ (by first | omega | (simp; done) | (simp; omega))] <;> simp [go_sem, *]
        have f0 : w1.frozen? ⟨w.heap.size, 0, none⟩ = false := by rw [hf1 _ _ (by first | omega | (simp; done) | (simp; omega))] <;> simp [go_sem, *]
        have c1 : w1.cell? ⟨w.heap.size, 1, none⟩ = some (.int .i64 0) := by rw [hc1 _ _ (by first | omega | (simp; done) | (simp; omega))] <;> simp [go_sem, *]
        have f1 : w1.frozen? ⟨w.heap.size, 1, none⟩ = false := by rw [hf1 _ _ (by first | omega | (simp; done) | (simp; omega))] <;> simp [go_sem, *]
        go_wp2_with fail
        refine bodyPost_ret (v := vOpt r) ?_ rfl ⟨rfl, ?_⟩
        · simp [results, Try.results66, go_sem, c0, c1]
        · (repeat (first | (with_reducible exact Below.refl _ _) | (with_reducible assumption) | (with_reducible refine Below.drew ?_) | (with_reducible refine below_drewN ?_ _) | ((with_reducible refine Below.setCell ?_ ?_ _); rotate_left; focus (first | (simp; done) | omega | (simp; omega))) | ((with_reducible refine Below.alloc ?_ ?_ _); rotate_left; focus (first | exact Nat.le_refl _ | omega | (simp; done) | (simp; omega)))))

def unitsL (n d : Int) : Option Fr := if (inB n 0 1000000000 && inB d 1 100000) = true then redL n d else none
set_option maxHeartbeats 800000 in
theorem iUnitsFor (n d : Int) (w : World) :
    Calls Try.prog 30 #[.int .i64 n, .int .i64 d] w fun e w' => e = .returned (.agg #[.int .i64 (oN (unitsL n d)), .int .i64 (oD (unitsL n d))]) ∧ Below w.heap.size w w' := by
  cases t1 : inB n 0 1000000000
  · have e0 : unitsL n d = none := by rw [unitsL, if_neg (by simp [t1])]
    rw [e0]
    clear e0
    go_enter Try.func30, Try.ntmps30
    go_wp2_with fail
    refine (within_any _ _ _ _).mono ?_
    rintro e w' ⟨rfl, rfl⟩
    go_wp2_with fail
    refine bodyPost_ret (v := .agg #[.int .i64 (oN none), .int .i64 (oD none)]) ?_ rfl ⟨rfl, ?_⟩
    · simp [results, Try.results30, go_sem, oN_none, oD_none]
    · (repeat (first | (with_reducible exact Below.refl _ _) | (with_reducible assumption) | (with_reducible refine Below.drew ?_) | (with_reducible refine below_drewN ?_ _) | ((with_reducible refine Below.setCell ?_ ?_ _); rotate_left; focus (first | (simp; done) | omega | (simp; omega))) | ((with_reducible refine Below.alloc ?_ ?_ _); rotate_left; focus (first | exact Nat.le_refl _ | omega | (simp; done) | (simp; omega)))))
  · cases t2 : inB d 1 100000
    · have e0 : unitsL n d = none := by rw [unitsL, if_neg (by simp [t1, t2])]
      rw [e0]
      clear e0
      go_enter Try.func30, Try.ntmps30
      go_wp2_with fail
      refine (within_any _ _ _ _).mono ?_
      rintro e w' ⟨rfl, rfl⟩
      go_wp2_with fail
      refine (within_any _ _ _ _).mono ?_
      rintro e w' ⟨rfl, rfl⟩
      go_wp2_with fail
      refine bodyPost_ret (v := .agg #[.int .i64 (oN none), .int .i64 (oD none)]) ?_ rfl ⟨rfl, ?_⟩
      · simp [results, Try.results30, go_sem, oN_none, oD_none]
      · (repeat (first | (with_reducible exact Below.refl _ _) | (with_reducible assumption) | (with_reducible refine Below.drew ?_) | (with_reducible refine below_drewN ?_ _) | ((with_reducible refine Below.setCell ?_ ?_ _); rotate_left; focus (first | (simp; done) | omega | (simp; omega))) | ((with_reducible refine Below.alloc ?_ ?_ _); rotate_left; focus (first | exact Nat.le_refl _ | omega | (simp; done) | (simp; omega)))))
    · have e0 : unitsL n d = redL n d := by rw [unitsL, if_pos (by simp [t1, t2])]
      rw [e0]
      clear e0
      have g1 := inB_iff.1 t1
      have g2 := inB_iff.1 t2
      obtain ⟨g3, g4⟩ := g1
      obtain ⟨g5, g6⟩ := g2
      obtain ⟨r, hr⟩ : ∃ r, r = redL n d := ⟨_, rfl⟩
      rw [← hr]
      have HR := Lib.hid hr
      clear hr
      go_enter Try.func30, Try.ntmps30
      go_wp2_with fail
      refine (within_any _ _ _ _).mono ?_
      rintro e w' ⟨rfl, rfl⟩
      go_wp2_with fail
      refine (within_any _ _ _ _).mono ?_
      rintro e w' ⟨rfl, rfl⟩
      go_wp2_with fail
      refine (iReduced n d _ ⟨by omega, by omega⟩ ⟨by omega, by omega⟩ (by omega)).mono ?_
      rw [← HR.out]
      rintro e w1 ⟨rfl, hb1⟩
      obtain ⟨hc1, hf1⟩ := keepc hb1
      have hz1a : w.heap.size < w1.heap.size := (by have := hb1.size; first | omega | (simp at this; omega))
      have hB1 : Below w.heap.size w w1 := (by refine Below.trans ?_ (hb1.mono (by first | omega | (simp; done) | (simp; omega))); (repeat (first | (with_reducible exact Below.refl _ _) | (with_reducible assumption) | (with_reducible refine Below.drew ?_) | (with_reducible refine below_drewN ?_ _) | ((with_reducible refine Below.setCell ?_ ?_ _); rotate_left; focus (first | (simp; done) | omega | (simp; omega))) | ((with_reducible refine Below.alloc ?_ ?_ _); rotate_left; focus (first | exact Nat.le_refl _ | omega | (simp; done) | (simp; omega))))))
      have c0 : w1.cell? ⟨w.heap.size, 0, none⟩ = some (.int .i64 0) := by rw [hc1 _ _ (by first | omega | (simp; done) | (simp; omega))] <;> simp [go_sem, *]
      have f0 : w1.frozen? ⟨w.heap.size, 0, none⟩ = false := by rw [hf1 _ _ (by first | omega | (simp; done) | (simp; omega))] <;> simp [go_sem, *]
      have c1 : w1.cell? ⟨w.heap.size, 1, none⟩ = some (.int .i64 0) := by rw [hc1 _ _ (by first | omega | (simp; done) | (simp; omega))] <;> simp [go_sem, *]
      have f1 : w1.frozen? ⟨w.heap.size, 1, none⟩ = false := by rw [hf1 _ _ (by first | omega | (simp; done) | (simp; omega))] <;> simp [go_sem, *]
      go_wp2_with fail
      refine bodyPost_ret (v := .agg #[.int .i64 (oN r), .int .i64 (oD r)]) ?_ rfl ⟨rfl, ?_⟩
      · simp [results, Try.results30, go_sem, c0, c1, hz1a]
      · (repeat (first | (with_reducible exact Below.refl _ _) | (with_reducible assumption) | (with_reducible refine Below.drew ?_) | (with_reducible refine below_drewN ?_ _) | ((with_reducible refine Below.setCell ?_ ?_ _); rotate_left; focus (first | (simp; done) | omega | (simp; omega))) | ((with_reducible refine Below.alloc ?_ ?_ _); rotate_left; focus (first | exact Nat.le_refl _ | omega | (simp; done) | (simp; omega)))))
end Go.Proofs.Ytjiinkbjmamdmaa
