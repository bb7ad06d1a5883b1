/- A fraction of two numbers, of the reference. Conditions: bounds on the numbers. -/
import Derived.Test.YtanpmbiblibgfaaGreatDoorSFrac
namespace Go.Proofs.YtanpmbiblibgfaaGreatDoor
open Go.RowKit

set_option maxHeartbeats 800000 in
theorem sMakeP (n d : Int) (w : World) (hn : Fit n) (hd : Fit d) (hp : 0 < d) :
    Calls Tryz.prog 41 #[.int .i64 n, .int .i64 d] w fun e w' => e = .returned (vOpt (redP n d)) ∧ Below w.heap.size w w' := by
  have e1 : decide (d < 0) = false := by simp; omega
  obtain ⟨f1, f2⟩ := id hn
  obtain ⟨f3, f4⟩ := id hd
  obtain ⟨g0, g1, g2⟩ := gcd_facts n d hp
  obtain ⟨v, hv⟩ : ∃ v, v = redP n d := ⟨_, rfl⟩
  rw [← hv]
  have hv' : v = if fracOkL (n / (Int.gcd n d : Int), d / (Int.gcd n d : Int)) = true then some (n / (Int.gcd n d : Int), d / (Int.gcd n d : Int)) else none := hv
  clear hv
  obtain ⟨g, hg⟩ : ∃ g : Int, g = Int.gcd n d := ⟨_, rfl⟩
  rw [← hg] at hv' g0 g1 g2
  rw [← gcd_abs] at hg
  obtain ⟨x, hx⟩ : ∃ x : Int, x = n / g := ⟨_, rfl⟩
  obtain ⟨y, hy⟩ : ∃ y : Int, y = d / g := ⟨_, rfl⟩
  rw [← hx] at hv' g1
  rw [← hy] at hv' g2
  have fx : Fit x := hx ▸ ediv_fit hn g0
  obtain ⟨fx1, fx2⟩ := fx
  have HG := Lib.hid hg
  have HV := Lib.hid hv'
  clear hg hx hv'
  have wx : n.tdiv g = x := g1
  have wy : d / g = y := hy.symm
  have g3 : (g == 0) = false := by simp; omega
  clear g1 g2 hy
  go_enter Tryz.func41, Tryz.ntmps41
  go_wp2_with fail
  refine (sAbs _ _ hn).mono ?_
  rintro e w' ⟨rfl, rfl⟩
  go_wp2_with fail
  refine (sGcd _ _ _ (by omega) (by omega) (by omega) (by omega)).mono ?_
  rintro e w' ⟨rfl, rfl⟩
  rw [← HG.out]
  go_wp2_with fail
  go_region
  go_wp2_with fail
  refine (sFracOk x y _).mono ?_
  rintro e w1 ⟨rfl, hb1⟩
  obtain ⟨hc1, hf1⟩ := keepc hb1
  have hz1a : w.heap.size < w1.heap.size := (by have := hb1.size; first | omega | (simp at this; omega))
  have hz1b : w.heap.size + 1 < w1.heap.size := (by have := hb1.size; first | omega | (simp at this; omega))
  have hB1 : Below w.heap.size w w1 := (by refine Below.trans ?_ (hb1.mono (by first | omega | (simp; done) | (simp; omega))); (repeat (first | (with_reducible exact Below.refl _ _) | (with_reducible assumption) | (with_reducible refine Below.drew ?_) | (with_reducible refine below_drewN ?_ _) | ((with_reducible refine Below.setCell ?_ ?_ _); rotate_left; focus (first | (simp; done) | omega | (simp; omega))) | ((with_reducible refine Below.alloc ?_ ?_ _); rotate_left; focus (first | exact Nat.le_refl _ | omega | (simp; done) | (simp; omega))))))
  have c0 : w1.cell? ⟨w.heap.size, 0, none⟩ = some (.int .i64 0) := by rw [hc1 _ _ (by first | omega | (simp; done) | (simp; omega))] <;> simp [go_sem, *]
  have f0 : w1.frozen? ⟨w.heap.size, 0, none⟩ = false := by rw [hf1 _ _ (by first | omega | (simp; done) | (simp; omega))] <;> simp [go_sem, *]
  have c1 : w1.cell? ⟨w.heap.size, 1, none⟩ = some (.int .i64 0) := by rw [hc1 _ _ (by first | omega | (simp; done) | (simp; omega))] <;> simp [go_sem, *]
  have f1 : w1.frozen? ⟨w.heap.size, 1, none⟩ = false := by rw [hf1 _ _ (by first | omega | (simp; done) | (simp; omega))] <;> simp [go_sem, *]
  cases hf : fracOkL (x, y)
  · have E0 := Lib.hid (show v = none by rw [HV.out, hf]; rfl)
    go_wp2_with fail
    refine bodyPost_ret (v := vOpt v) ?_ rfl ⟨rfl, ?_⟩
    · rw [E0.out]
      simp [results, Tryz.results41, go_sem, oN_none, oD_none, oB_none, c0, c1]
    · (repeat (first | (with_reducible exact Below.refl _ _) | (with_reducible assumption) | (with_reducible refine Below.drew ?_) | (with_reducible refine below_drewN ?_ _) | ((with_reducible refine Below.setCell ?_ ?_ _); rotate_left; focus (first | (simp; done) | omega | (simp; omega))) | ((with_reducible refine Below.alloc ?_ ?_ _); rotate_left; focus (first | exact Nat.le_refl _ | omega | (simp; done) | (simp; omega)))))
  · have E0 := Lib.hid (show v = some (x, y) by rw [HV.out, hf]; rfl)
    go_wp2_with fail
    refine bodyPost_ret (v := vOpt v) ?_ rfl ⟨rfl, ?_⟩
    · rw [E0.out]
      simp [results, Tryz.results41, go_sem, oN_some, oD_some, oB_some, c0, c1]
    · (repeat (first | (with_reducible exact Below.refl _ _) | (with_reducible assumption) | (with_reducible refine Below.drew ?_) | (with_reducible refine below_drewN ?_ _) | ((with_reducible refine Below.setCell ?_ ?_ _); rotate_left; focus (first | (simp; done) | omega | (simp; omega))) | ((with_reducible refine Below.alloc ?_ ?_ _); rotate_left; focus (first | exact Nat.le_refl _ | omega | (simp; done) | (simp; omega)))))

set_option maxHeartbeats 800000 in
theorem sMakeM (n d : Int) (w : World) (hn : Fit n) (hd : Fit d) (hp : 0 < d) :
    Calls Tryz.prog 41 #[.int .i64 (-n), .int .i64 (-d)] w fun e w' => e = .returned (vOpt (redP n d)) ∧ Below w.heap.size w w' := by
  have e1 : decide (-d < 0) = true := by simp; omega
  obtain ⟨f1, f2⟩ := id hn
  obtain ⟨f3, f4⟩ := id hd
  obtain ⟨g0, g1, g2⟩ := gcd_facts n d hp
  obtain ⟨v, hv⟩ : ∃ v, v = redP n d := ⟨_, rfl⟩
  rw [← hv]
  have hv' : v = if fracOkL (n / (Int.gcd n d : Int), d / (Int.gcd n d : Int)) = true then some (n / (Int.gcd n d : Int), d / (Int.gcd n d : Int)) else none := hv
  clear hv
  obtain ⟨g, hg⟩ : ∃ g : Int, g = Int.gcd n d := ⟨_, rfl⟩
  rw [← hg] at hv' g0 g1 g2
  rw [← gcd_abs] at hg
  obtain ⟨x, hx⟩ : ∃ x : Int, x = n / g := ⟨_, rfl⟩
  obtain ⟨y, hy⟩ : ∃ y : Int, y = d / g := ⟨_, rfl⟩
  rw [← hx] at hv' g1
  rw [← hy] at hv' g2
  have fx : Fit x := hx ▸ ediv_fit hn g0
  obtain ⟨fx1, fx2⟩ := fx
  have HG := Lib.hid hg
  have HV := Lib.hid hv'
  clear hg hx hv'
  have wx : n.tdiv g = x := g1
  have wy : d / g = y := hy.symm
  have g3 : (g == 0) = false := by simp; omega
  clear g1 g2 hy
  go_enter Tryz.func41, Tryz.ntmps41
  go_wp2_with fail
  refine (sAbs _ _ hn).mono ?_
  rintro e w' ⟨rfl, rfl⟩
  go_wp2_with fail
  refine (sGcd _ _ _ (by omega) (by omega) (by omega) (by omega)).mono ?_
  rintro e w' ⟨rfl, rfl⟩
  rw [← HG.out]
  go_wp2_with fail
  go_region
  go_wp2_with fail
  refine (sFracOk x y _).mono ?_
  rintro e w1 ⟨rfl, hb1⟩
  obtain ⟨hc1, hf1⟩ := keepc hb1
  have hz1a : w.heap.size < w1.heap.size := (by have := hb1.size; first | omega | (simp at this; omega))
  have hz1b : w.heap.size + 1 < w1.heap.size := (by have := hb1.size; first | omega | (simp at this; omega))
  have hB1 : Below w.heap.size w w1 := (by refine Below.trans ?_ (hb1.mono (by first | omega | (simp; done) | (simp; omega))); (repeat (first | (with_reducible exact Below.refl _ _) | (with_reducible assumption) | (with_reducible refine Below.drew ?_) | (with_reducible refine below_drewN ?_ _) | ((with_reducible refine Below.setCell ?_ ?_ _); rotate_left; focus (first | (simp; done) | omega | (simp; omega))) | ((with_reducible refine Below.alloc ?_ ?_ _); rotate_left; focus (first | exact Nat.le_refl _ | omega | (simp; done) | (simp; omega))))))
  have c0 : w1.cell? ⟨w.heap.size, 0, none⟩ = some (.int .i64 0) := by rw [hc1 _ _ (by first | omega | (simp; done) | (simp; omega))] <;> simp [go_sem, *]
  have f0 : w1.frozen? ⟨w.heap.size, 0, none⟩ = false := by rw [hf1 _ _ (by first | omega | (simp; done) | (simp; omega))] <;> simp [go_sem, *]
  have c1 : w1.cell? ⟨w.heap.size, 1, none⟩ = some (.int .i64 0) := by rw [hc1 _ _ (by first | omega | (simp; done) | (simp; omega))] <;> simp [go_sem, *]
  have f1 : w1.frozen? ⟨w.heap.size, 1, none⟩ = false := by rw [hf1 _ _ (by first | omega | (simp; done) | (simp; omega))] <;> simp [go_sem, *]
  cases hf : fracOkL (x, y)
  · have E0 := Lib.hid (show v = none by rw [HV.out, hf]; rfl)
    go_wp2_with fail
    refine bodyPost_ret (v := vOpt v) ?_ rfl ⟨rfl, ?_⟩
    · rw [E0.out]
      simp [results, Tryz.results41, go_sem, oN_none, oD_none, oB_none, c0, c1]
    · (repeat (first | (with_reducible exact Below.refl _ _) | (with_reducible assumption) | (with_reducible refine Below.drew ?_) | (with_reducible refine below_drewN ?_ _) | ((with_reducible refine Below.setCell ?_ ?_ _); rotate_left; focus (first | (simp; done) | omega | (simp; omega))) | ((with_reducible refine Below.alloc ?_ ?_ _); rotate_left; focus (first | exact Nat.le_refl _ | omega | (simp; done) | (simp; omega)))))
  · have E0 := Lib.hid (show v = some (x, y) by rw [HV.out, hf]; rfl)
    go_wp2_with fail
    refine bodyPost_ret (v := vOpt v) ?_ rfl ⟨rfl, ?_⟩
    · rw [E0.out]
      simp [results, Tryz.results41, go_sem, oN_some, oD_some, oB_some, c0, c1]
    · (repeat (first | (with_reducible exact Below.refl _ _) | (with_reducible assumption) | (with_reducible refine Below.drew ?_) | (with_reducible refine below_drewN ?_ _) | ((with_reducible refine Below.setCell ?_ ?_ _); rotate_left; focus (first | (simp; done) | omega | (simp; omega))) | ((with_reducible refine Below.alloc ?_ ?_ _); rotate_left; focus (first | exact Nat.le_refl _ | omega | (simp; done) | (simp; omega)))))

theorem sMake (n d : Int) (w : World) (hn : Fit n) (hd : Fit d) (hp : d ≠ 0) :
    Calls Tryz.prog 41 #[.int .i64 n, .int .i64 d] w fun e w' => e = .returned (vOpt (redL n d)) ∧ Below w.heap.size w w' := by
  rcases Int.lt_or_le d 0 with h | h
  · have hh := sMakeM (-n) (-d) w ⟨by have := hn.2; omega, by have := hn.1; omega⟩ ⟨by have := hd.2; omega, by have := hd.1; omega⟩ (by omega)
    rw [Int.neg_neg, Int.neg_neg] at hh
    rw [redL, if_pos h]
    exact hh
  · rw [redL, if_neg (by omega)]
    exact sMakeP n d w hn hd (by omega)
end Go.Proofs.YtanpmbiblibgfaaGreatDoor
