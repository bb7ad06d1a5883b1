/- The given statements of Eval and of EvalAll. No conditions. -/
import Derived.Test.YtdccdoodmiihbaaEvalO
import Derived.Deep.Cut
namespace Go.Proofs.Ytdccdoodmiihbaa
open Go.RowKit

set_option linter.unusedVariables false
set_option maxHeartbeats 400000 in
theorem szFracsFrom (w : World) (A : Option Addr) (n c : Nat) (z : Int) (hn : n ≤ 9223372036854775807) (hz : 0 ≤ z ∧ z ≤ 1048576) :
    Calls Try.prog 22 #[.slice A n c, .int .i64 z] w fun e w' => e = .returned (.int .i64 (if z < (n : Int) then -1 else z - n)) ∧ w = w' := by
  by_cases h : z < (n : Int)
  · rw [if_pos h]
    have h1 : IntKind.i64.wrap (z - (n : Int)) = z - n := IntWalk.i64_in _ ⟨by omega, by omega⟩
    have h2 : z - (n : Int) < 0 := by omega
    go_enter Try.func22, Try.ntmps22
    go_wp2
    go_ret
    exact ⟨rfl, rfl⟩
  · rw [if_neg h]
    have h1 : IntKind.i64.wrap (z - (n : Int)) = z - n := IntWalk.i64_in _ ⟨by omega, by omega⟩
    have h2 : ¬ z - (n : Int) < 0 := by omega
    go_enter Try.func22, Try.ntmps22
    go_wp2
    go_ret
    exact ⟨rfl, rfl⟩

set_option maxRecDepth 8000 in
set_option maxHeartbeats 3200000 in
theorem walkEval (A : Option Addr) (n c : Nat) (N : Nat → No) (VA : Option Addr) (m vc : Nat) (V : Nat → Fr) (w : World) (hd : RdNo w w.heap.size A n N) (hv : RdFr w w.heap.size VA m V) :
    Calls Try.prog 6 #[.slice A n c, .slice VA m vc] w fun e w' => e = .returned (.bool true) ∧ Below w.heap.size w w' := by
  have hn := hd.1
  have hm := hv.1
  by_cases t1 : (1048576 : Int) < n
  · go_enter Try.func6, Try.ntmps6
    go_wp2_with fail
    refine (szNodes w A n c hn).mono ?_
    rintro e w' ⟨rfl, rfl⟩
    rw [if_pos (show (1048576 : Int) < n by omega)]
    go_wp2_with fail
    go_ret
    exact ⟨rfl, Below.refl _ _⟩
  have t2 : ¬ (1048576 : Int) - n < 0 := by omega
  by_cases t3 : (1048576 : Int) - n < m
  · go_enter Try.func6, Try.ntmps6
    go_wp2_with fail
    refine (szNodes w A n c hn).mono ?_
    rintro e w' ⟨rfl, rfl⟩
    rw [if_neg (show ¬ (1048576 : Int) < n by omega)]
    go_wp2_with fail
    refine (szFracsFrom w VA m vc (1048576 - n) hm ⟨by omega, by omega⟩).mono ?_
    rintro e w' ⟨rfl, rfl⟩
    rw [if_pos (show (1048576 : Int) - n < m by omega)]
    go_wp2_with fail
    go_ret
    exact ⟨rfl, Below.refl _ _⟩
  have t4 : ¬ (1048576 : Int) - n - m < 0 := by omega
  obtain ⟨r, hr⟩ : ∃ r, r = evOne n m N V := ⟨_, rfl⟩
  have Cs : ∀ (v : World) (g h : Nat), RdNo v v.heap.size (some ⟨g, 0, none⟩) n N → RdFr v v.heap.size (some ⟨h, 0, none⟩) m V → Calls Try.prog 23 #[.slice (some ⟨g, 0, none⟩) n n, .slice (some ⟨h, 0, none⟩) m m] v fun e w' => e = .returned (vOpt r) ∧ Below v.heap.size v w' := fun v g h h1 h2 => by rw [hr]; exact sEval v _ _ n n m m N V h1 h2 (by omega)
  have Ci : ∀ (v : World) (g h : Nat), RdNo v v.heap.size (some ⟨g, 0, none⟩) n N → RdFr v v.heap.size (some ⟨h, 0, none⟩) m V → Calls Try.prog 17 #[.slice (some ⟨g, 0, none⟩) n n, .slice (some ⟨h, 0, none⟩) m m] v fun e w' => e = .returned (vOpt r) ∧ Below v.heap.size v w' := fun v g h h1 h2 => by rw [hr]; exact iEval v _ _ n n m m N V h1 h2 (by omega)
  clear hr
  go_enter Try.func6, Try.ntmps6
  go_wp2_with fail
  refine (szNodes w A n c hn).mono ?_
  rintro e w' ⟨rfl, rfl⟩
  rw [if_neg (show ¬ (1048576 : Int) < n by omega)]
  go_wp2_with fail
  refine (szFracsFrom w VA m vc (1048576 - n) hm ⟨by omega, by omega⟩).mono ?_
  rintro e w' ⟨rfl, rfl⟩
  rw [if_neg (show ¬ (1048576 : Int) - n < m by omega)]
  go_wp2_with fail
  refine (toNodes w A n c N hd (by omega)).mono ?_
  rintro e w1 ⟨g1, rfl, rowg1, lowg1, hb1⟩
  have hs1 := hb1.size
  replace hd := (hd.below hb1).more hs1
  replace hv := (hv.below hb1).more hs1
  have hB1 : Below w.heap.size w w1 := (Below.refl w.heap.size w).trans (hb1.mono (Nat.le_refl _))
  have ltg1 := rowg1.lt
  have hg1 : RdNo w1 w1.heap.size (some ⟨g1, 0, none⟩) n N := RdNo.row rowg1 ltg1 (Nat.le_refl _) (by omega)
  go_wp2_with fail
  refine (toFracs w1 VA m vc V hv (by omega)).mono ?_
  rintro e w2 ⟨g2, rfl, rowg2, lowg2, hb2⟩
  have hs2 := hb2.size
  replace hd := (hd.below hb2).more hs2
  replace hv := (hv.below hb2).more hs2
  replace hg1 := (hg1.below hb2).more hs2
  have hB2 : Below w.heap.size w w2 := hB1.trans (hb2.mono hB1.size)
  have ltg2 := rowg2.lt
  have hg2 : RdFr w2 w2.heap.size (some ⟨g2, 0, none⟩) m V := RdFr.row rowg2 ltg2 (Nat.le_refl _) (by omega)
  go_wp2_with fail
  refine (Cs w2 g1 g2 hg1 hg2).mono ?_
  rintro e w3 ⟨rfl, hb3⟩
  have hs3 := hb3.size
  replace hd := (hd.below hb3).more hs3
  replace hv := (hv.below hb3).more hs3
  replace hg1 := (hg1.below hb3).more hs3
  replace hg2 := (hg2.below hb3).more hs3
  have hB3 : Below w.heap.size w w3 := hB2.trans (hb3.mono hB2.size)
  have hx3 : Below w3.heap.size w3 (w3.alloc (.cells #[.int .i64 (oN r), .int .i64 (oD r)] 39)) := (by (repeat (first | (with_reducible exact Below.refl _ _) | (with_reducible assumption) | (with_reducible refine Below.drew ?_) | (with_reducible refine below_drewN ?_ _) | ((with_reducible refine Below.setCell ?_ ?_ _); rotate_left; focus (first | (simp; done) | omega | (simp; omega))) | ((with_reducible refine Below.alloc ?_ ?_ _); rotate_left; focus (first | exact Nat.le_refl _ | omega | (simp; done) | (simp; omega))))))
  have hy3 := hx3.size
  replace hd := (hd.below hx3).more hy3
  replace hv := (hv.below hx3).more hy3
  have hA3 : Below w.heap.size w (w3.alloc (.cells #[.int .i64 (oN r), .int .i64 (oD r)] 39)) := hB3.trans (hx3.mono hB3.size)
  have pW : Whole (w3.alloc (.cells #[.int .i64 (oN r), .int .i64 (oD r)] 39)) (w3.heap.size) 39 #[.int .i64 (oN r), .int .i64 (oD r)] := (Whole.new w3 39 #[.int .i64 (oN r), .int .i64 (oD r)])
  obtain ⟨b3a, hbq3a⟩ : ∃ b, b = w3.heap.size := ⟨_, rfl⟩
  obtain ⟨u3, hu3⟩ : ∃ u, u = (w3.alloc (.cells #[.int .i64 (oN r), .int .i64 (oD r)] 39)) := ⟨_, rfl⟩
  rw [← hu3] at hd hv pW hA3 hy3
  rw [← hbq3a] at pW
  clear hx3
  go_upto_region 9 with fail
  rw [← hu3]
  rw [← hbq3a]
  clear hu3 hbq3a
  have pWq0 : u3.cell? ⟨b3a, 0, none⟩ = some (.int .i64 (oN r)) := pW.cell 0
  have pWq1 : u3.cell? ⟨b3a, 1, none⟩ = some (.int .i64 (oD r)) := pW.cell 1
  have pWz := pW.lt
  go_wp2_with fail
  refine (toNodes u3 A n c N hd (by omega)).mono ?_
  rintro e w4 ⟨g3, rfl, rowg3, lowg3, hb4⟩
  clear pWq0 pWq1 pWz
  have hs4 := hb4.size
  replace pW := pW.below hb4 pW.lt
  replace hd := (hd.below hb4).more hs4
  replace hv := (hv.below hb4).more hs4
  have hB4 : Below w.heap.size w w4 := hA3.trans (hb4.mono hA3.size)
  have ltg3 := rowg3.lt
  have hg3 : RdNo w4 w4.heap.size (some ⟨g3, 0, none⟩) n N := RdNo.row rowg3 ltg3 (Nat.le_refl _) (by omega)
  have pWq0 : w4.cell? ⟨b3a, 0, none⟩ = some (.int .i64 (oN r)) := pW.cell 0
  have pWq1 : w4.cell? ⟨b3a, 1, none⟩ = some (.int .i64 (oD r)) := pW.cell 1
  have pWz := pW.lt
  go_wp2_with fail
  refine (toFracs w4 VA m vc V hv (by omega)).mono ?_
  rintro e w5 ⟨g4, rfl, rowg4, lowg4, hb5⟩
  clear pWq0 pWq1 pWz
  have hs5 := hb5.size
  replace pW := pW.below hb5 pW.lt
  replace hd := (hd.below hb5).more hs5
  replace hv := (hv.below hb5).more hs5
  replace hg3 := (hg3.below hb5).more hs5
  have hB5 : Below w.heap.size w w5 := hB4.trans (hb5.mono hB4.size)
  have ltg4 := rowg4.lt
  have hg4 : RdFr w5 w5.heap.size (some ⟨g4, 0, none⟩) m V := RdFr.row rowg4 ltg4 (Nat.le_refl _) (by omega)
  have pWq0 : w5.cell? ⟨b3a, 0, none⟩ = some (.int .i64 (oN r)) := pW.cell 0
  have pWq1 : w5.cell? ⟨b3a, 1, none⟩ = some (.int .i64 (oD r)) := pW.cell 1
  have pWz := pW.lt
  go_wp2_with fail
  refine (Ci w5 g3 g4 hg3 hg4).mono ?_
  rintro e w6 ⟨rfl, hb6⟩
  clear pWq0 pWq1 pWz
  have hs6 := hb6.size
  replace pW := pW.below hb6 pW.lt
  replace hd := (hd.below hb6).more hs6
  replace hv := (hv.below hb6).more hs6
  replace hg3 := (hg3.below hb6).more hs6
  replace hg4 := (hg4.below hb6).more hs6
  have hB6 : Below w.heap.size w w6 := hB5.trans (hb6.mono hB5.size)
  have hx6 : Below w6.heap.size w6 (w6.alloc (.cells #[.int .i64 (oN r), .int .i64 (oD r)] 39)) := (by (repeat (first | (with_reducible exact Below.refl _ _) | (with_reducible assumption) | (with_reducible refine Below.drew ?_) | (with_reducible refine below_drewN ?_ _) | ((with_reducible refine Below.setCell ?_ ?_ _); rotate_left; focus (first | (simp; done) | omega | (simp; omega))) | ((with_reducible refine Below.alloc ?_ ?_ _); rotate_left; focus (first | exact Nat.le_refl _ | omega | (simp; done) | (simp; omega))))))
  have hy6 := hx6.size
  replace pW := pW.below hx6 pW.lt
  replace hd := (hd.below hx6).more hy6
  replace hv := (hv.below hx6).more hy6
  replace hg3 := (hg3.below hx6).more hy6
  replace hg4 := (hg4.below hx6).more hy6
  have hA6 : Below w.heap.size w (w6.alloc (.cells #[.int .i64 (oN r), .int .i64 (oD r)] 39)) := hB6.trans (hx6.mono hB6.size)
  have pG : Whole (w6.alloc (.cells #[.int .i64 (oN r), .int .i64 (oD r)] 39)) (w6.heap.size) 39 #[.int .i64 (oN r), .int .i64 (oD r)] := (Whole.new w6 39 #[.int .i64 (oN r), .int .i64 (oD r)])
  obtain ⟨b6a, hbq6a⟩ : ∃ b, b = w6.heap.size := ⟨_, rfl⟩
  obtain ⟨u6, hu6⟩ : ∃ u, u = (w6.alloc (.cells #[.int .i64 (oN r), .int .i64 (oD r)] 39)) := ⟨_, rfl⟩
  rw [← hu6] at pW hd hv hg3 hg4 pG hA6 hy6
  rw [← hbq6a] at pG
  clear hx6
  go_upto_region 12 with fail
  rw [← hu6]
  rw [← hbq6a]
  clear hu6 hbq6a
  have pWq0 : u6.cell? ⟨b3a, 0, none⟩ = some (.int .i64 (oN r)) := pW.cell 0
  have pWq1 : u6.cell? ⟨b3a, 1, none⟩ = some (.int .i64 (oD r)) := pW.cell 1
  have pWz := pW.lt
  have pGq0 : u6.cell? ⟨b6a, 0, none⟩ = some (.int .i64 (oN r)) := pG.cell 0
  have pGq1 : u6.cell? ⟨b6a, 1, none⟩ = some (.int .i64 (oD r)) := pG.cell 1
  have pGz := pG.lt
  go_wp2_with fail
  refine (eqFrac_same (oN r) (oD r) u6).mono ?_
  rintro e w7 ⟨rfl, hb7⟩
  clear pWq0 pWq1 pGq0 pGq1 pWz pGz
  have hs7 := hb7.size
  replace pW := pW.below hb7 pW.lt
  replace pG := pG.below hb7 pG.lt
  replace hd := (hd.below hb7).more hs7
  replace hv := (hv.below hb7).more hs7
  replace hg3 := (hg3.below hb7).more hs7
  replace hg4 := (hg4.below hb7).more hs7
  have hB7 : Below w.heap.size w w7 := hA6.trans (hb7.mono hA6.size)
  have pWq0 : w7.cell? ⟨b3a, 0, none⟩ = some (.int .i64 (oN r)) := pW.cell 0
  have pWq1 : w7.cell? ⟨b3a, 1, none⟩ = some (.int .i64 (oD r)) := pW.cell 1
  have pWz := pW.lt
  have pGq0 : w7.cell? ⟨b6a, 0, none⟩ = some (.int .i64 (oN r)) := pG.cell 0
  have pGq1 : w7.cell? ⟨b6a, 1, none⟩ = some (.int .i64 (oD r)) := pG.cell 1
  have pGz := pG.lt
  go_wp2_with fail
  refine (toNodes w7 A n c N hd (by omega)).mono ?_
  rintro e w8 ⟨g5, rfl, rowg5, lowg5, hb8⟩
  clear pWq0 pWq1 pGq0 pGq1 pWz pGz
  have hs8 := hb8.size
  replace pW := pW.below hb8 pW.lt
  replace pG := pG.below hb8 pG.lt
  replace hd := (hd.below hb8).more hs8
  replace hv := (hv.below hb8).more hs8
  replace hg3 := (hg3.below hb8).more hs8
  replace hg4 := (hg4.below hb8).more hs8
  have hB8 : Below w.heap.size w w8 := hB7.trans (hb8.mono hB7.size)
  have ltg5 := rowg5.lt
  have hg5 : RdNo w8 w8.heap.size (some ⟨g5, 0, none⟩) n N := RdNo.row rowg5 ltg5 (Nat.le_refl _) (by omega)
  have pWq0 : w8.cell? ⟨b3a, 0, none⟩ = some (.int .i64 (oN r)) := pW.cell 0
  have pWq1 : w8.cell? ⟨b3a, 1, none⟩ = some (.int .i64 (oD r)) := pW.cell 1
  have pWz := pW.lt
  have pGq0 : w8.cell? ⟨b6a, 0, none⟩ = some (.int .i64 (oN r)) := pG.cell 0
  have pGq1 : w8.cell? ⟨b6a, 1, none⟩ = some (.int .i64 (oD r)) := pG.cell 1
  have pGz := pG.lt
  go_wp2_with fail
  refine (eqNodes w8 (some ⟨g3, 0, none⟩) (some ⟨g5, 0, none⟩) n n n n _ _ hg3 hg5 ⟨rfl, fun _ _ => rfl⟩).mono ?_
  rintro e w9 ⟨rfl, hb9⟩
  clear pWq0 pWq1 pGq0 pGq1 pWz pGz
  have hs9 := hb9.size
  replace pW := pW.below hb9 pW.lt
  replace pG := pG.below hb9 pG.lt
  replace hd := (hd.below hb9).more hs9
  replace hv := (hv.below hb9).more hs9
  replace hg3 := (hg3.below hb9).more hs9
  replace hg4 := (hg4.below hb9).more hs9
  replace hg5 := (hg5.below hb9).more hs9
  have hB9 : Below w.heap.size w w9 := hB8.trans (hb9.mono hB8.size)
  have pWq0 : w9.cell? ⟨b3a, 0, none⟩ = some (.int .i64 (oN r)) := pW.cell 0
  have pWq1 : w9.cell? ⟨b3a, 1, none⟩ = some (.int .i64 (oD r)) := pW.cell 1
  have pWz := pW.lt
  have pGq0 : w9.cell? ⟨b6a, 0, none⟩ = some (.int .i64 (oN r)) := pG.cell 0
  have pGq1 : w9.cell? ⟨b6a, 1, none⟩ = some (.int .i64 (oD r)) := pG.cell 1
  have pGz := pG.lt
  go_wp2_with fail
  refine (toFracs w9 VA m vc V hv (by omega)).mono ?_
  rintro e w10 ⟨g6, rfl, rowg6, lowg6, hb10⟩
  clear pWq0 pWq1 pGq0 pGq1 pWz pGz
  have hs10 := hb10.size
  replace pW := pW.below hb10 pW.lt
  replace pG := pG.below hb10 pG.lt
  replace hd := (hd.below hb10).more hs10
  replace hv := (hv.below hb10).more hs10
  replace hg3 := (hg3.below hb10).more hs10
  replace hg4 := (hg4.below hb10).more hs10
  replace hg5 := (hg5.below hb10).more hs10
  have hB10 : Below w.heap.size w w10 := hB9.trans (hb10.mono hB9.size)
  have ltg6 := rowg6.lt
  have hg6 : RdFr w10 w10.heap.size (some ⟨g6, 0, none⟩) m V := RdFr.row rowg6 ltg6 (Nat.le_refl _) (by omega)
  have pWq0 : w10.cell? ⟨b3a, 0, none⟩ = some (.int .i64 (oN r)) := pW.cell 0
  have pWq1 : w10.cell? ⟨b3a, 1, none⟩ = some (.int .i64 (oD r)) := pW.cell 1
  have pWz := pW.lt
  have pGq0 : w10.cell? ⟨b6a, 0, none⟩ = some (.int .i64 (oN r)) := pG.cell 0
  have pGq1 : w10.cell? ⟨b6a, 1, none⟩ = some (.int .i64 (oD r)) := pG.cell 1
  have pGz := pG.lt
  go_wp2_with fail
  refine (eqFracs w10 (some ⟨g4, 0, none⟩) (some ⟨g6, 0, none⟩) m m m m _ _ hg4 hg6 ⟨rfl, fun _ _ => rfl⟩).mono ?_
  rintro e w11 ⟨rfl, hb11⟩
  clear pWq0 pWq1 pGq0 pGq1 pWz pGz
  have hs11 := hb11.size
  replace pW := pW.below hb11 pW.lt
  replace pG := pG.below hb11 pG.lt
  replace hd := (hd.below hb11).more hs11
  replace hv := (hv.below hb11).more hs11
  replace hg3 := (hg3.below hb11).more hs11
  replace hg4 := (hg4.below hb11).more hs11
  replace hg5 := (hg5.below hb11).more hs11
  replace hg6 := (hg6.below hb11).more hs11
  have hB11 : Below w.heap.size w w11 := hB10.trans (hb11.mono hB10.size)
  have pWq0 : w11.cell? ⟨b3a, 0, none⟩ = some (.int .i64 (oN r)) := pW.cell 0
  have pWq1 : w11.cell? ⟨b3a, 1, none⟩ = some (.int .i64 (oD r)) := pW.cell 1
  have pWz := pW.lt
  have pGq0 : w11.cell? ⟨b6a, 0, none⟩ = some (.int .i64 (oN r)) := pG.cell 0
  have pGq1 : w11.cell? ⟨b6a, 1, none⟩ = some (.int .i64 (oD r)) := pG.cell 1
  have pGz := pG.lt
  go_wp2_with fail
  go_ret
  exact ⟨rfl, hB11⟩

set_option maxRecDepth 8000 in
set_option maxHeartbeats 3200000 in
theorem walkEvalAll (A : Option Addr) (n c : Nat) (N : Nat → No) (VA : Option Addr) (m vc : Nat) (V : Nat → Fr) (w : World) (hd : RdNo w w.heap.size A n N) (hv : RdFr w w.heap.size VA m V) :
    Calls Try.prog 7 #[.slice A n c, .slice VA m vc] w fun e w' => e = .returned (.bool true) ∧ Below w.heap.size w w' := by
  have hn := hd.1
  have hm := hv.1
  by_cases t1 : (1048576 : Int) < n
  · go_enter Try.func7, Try.ntmps7
    go_wp2_with fail
    refine (szNodes w A n c hn).mono ?_
    rintro e w' ⟨rfl, rfl⟩
    rw [if_pos (show (1048576 : Int) < n by omega)]
    go_wp2_with fail
    go_ret
    exact ⟨rfl, Below.refl _ _⟩
  have t2 : ¬ (1048576 : Int) - n < 0 := by omega
  by_cases t3 : (1048576 : Int) - n < m
  · go_enter Try.func7, Try.ntmps7
    go_wp2_with fail
    refine (szNodes w A n c hn).mono ?_
    rintro e w' ⟨rfl, rfl⟩
    rw [if_neg (show ¬ (1048576 : Int) < n by omega)]
    go_wp2_with fail
    refine (szFracsFrom w VA m vc (1048576 - n) hm ⟨by omega, by omega⟩).mono ?_
    rintro e w' ⟨rfl, rfl⟩
    rw [if_pos (show (1048576 : Int) - n < m by omega)]
    go_wp2_with fail
    go_ret
    exact ⟨rfl, Below.refl _ _⟩
  have t4 : ¬ (1048576 : Int) - n - m < 0 := by omega
  obtain ⟨r, hr⟩ : ∃ r, r = evAll n m N V := ⟨_, rfl⟩
  obtain ⟨k, hk⟩ : ∃ k, k = evN r n := ⟨_, rfl⟩
  obtain ⟨K, hK⟩ : ∃ K, K = evK r := ⟨_, rfl⟩
  obtain ⟨bb, hbb⟩ : ∃ bb, bb = r.isSome := ⟨_, rfl⟩
  have hk2 : k ≤ 1048576 := by rw [hk, evN]; split <;> omega
  have Cs : ∀ (v : World) (g h : Nat), RdNo v v.heap.size (some ⟨g, 0, none⟩) n N → RdFr v v.heap.size (some ⟨h, 0, none⟩) m V → Calls Try.prog 19 #[.slice (some ⟨g, 0, none⟩) n n, .slice (some ⟨h, 0, none⟩) m m] v fun e w' => ∃ (B : Option Addr) (cc : Nat), e = .returned (.tuple #[.slice B k cc, .bool bb]) ∧ OwR w' v.heap.size 39 2 (.slice B k cc) k (frAt K) ∧ Below v.heap.size v w' := fun v g h h1 h2 => by rw [hk, hK, hbb, hr]; exact sEvalAll v _ _ n n m m N V h1 h2 (by omega)
  have Ci : ∀ (v : World) (g h : Nat), RdNo v v.heap.size (some ⟨g, 0, none⟩) n N → RdFr v v.heap.size (some ⟨h, 0, none⟩) m V → Calls Try.prog 18 #[.slice (some ⟨g, 0, none⟩) n n, .slice (some ⟨h, 0, none⟩) m m] v fun e w' => ∃ (B : Option Addr) (cc : Nat), e = .returned (.tuple #[.slice B k cc, .bool bb]) ∧ OwR w' v.heap.size 39 2 (.slice B k cc) k (frAt K) ∧ Below v.heap.size v w' := fun v g h h1 h2 => by rw [hk, hK, hbb, hr]; exact iEvalAll v _ _ n n m m N V h1 h2 (by omega)
  clear hr hk hK hbb
  go_enter Try.func7, Try.ntmps7
  go_wp2_with fail
  refine (szNodes w A n c hn).mono ?_
  rintro e w' ⟨rfl, rfl⟩
  rw [if_neg (show ¬ (1048576 : Int) < n by omega)]
  go_wp2_with fail
  refine (szFracsFrom w VA m vc (1048576 - n) hm ⟨by omega, by omega⟩).mono ?_
  rintro e w' ⟨rfl, rfl⟩
  rw [if_neg (show ¬ (1048576 : Int) - n < m by omega)]
  have hd0 := hd
  have hv0 := hv
  go_wp2_with fail
  refine (toNodes w A n c N hd (by omega)).mono ?_
  rintro e w1 ⟨g1, rfl, rowg1, lowg1, hb1⟩
  have hs1 := hb1.size
  replace hd := (hd.below hb1).more hs1
  replace hv := (hv.below hb1).more hs1
  have hB1 : Below w.heap.size w w1 := (Below.refl w.heap.size w).trans (hb1.mono (Nat.le_refl _))
  have ltg1 := rowg1.lt
  have hg1 : RdNo w1 w1.heap.size (some ⟨g1, 0, none⟩) n N := RdNo.row rowg1 ltg1 (Nat.le_refl _) (by omega)
  go_wp2_with fail
  refine (toFracs w1 VA m vc V hv (by omega)).mono ?_
  rintro e w2 ⟨g2, rfl, rowg2, lowg2, hb2⟩
  have hs2 := hb2.size
  replace hd := (hd.below hb2).more hs2
  replace hv := (hv.below hb2).more hs2
  replace hg1 := (hg1.below hb2).more hs2
  have hB2 : Below w.heap.size w w2 := hB1.trans (hb2.mono hB1.size)
  have ltg2 := rowg2.lt
  have hg2 : RdFr w2 w2.heap.size (some ⟨g2, 0, none⟩) m V := RdFr.row rowg2 ltg2 (Nat.le_refl _) (by omega)
  go_wp2_with fail
  refine (Cs w2 g1 g2 hg1 hg2).mono ?_
  rintro e w3 ⟨B, cB, rfl, ownW, hb3⟩
  have hs3 := hb3.size
  replace hd := (hd.below hb3).more hs3
  replace hv := (hv.below hb3).more hs3
  replace hg1 := (hg1.below hb3).more hs3
  replace hg2 := (hg2.below hb3).more hs3
  have hB3 : Below w.heap.size w w3 := hB2.trans (hb3.mono hB2.size)
  have hW := RdFr.own ownW
  have hW3 : RdFr w3 w3.heap.size B k K := hW
  clear ownW
  have hsp : w.heap.size ≤ w3.heap.size := hB3.size
  go_wp2_with fail
  refine (toNodes w3 A n c N hd (by omega)).mono ?_
  rintro e w4 ⟨g3, rfl, rowg3, lowg3, hb4⟩
  have hs4 := hb4.size
  replace hd := (hd.below hb4).more hs4
  replace hv := (hv.below hb4).more hs4
  replace hW := (hW.below hb4).more hs4
  replace hW3 := hW3.below (hb4.mono (by omega))
  have hB4 : Below w.heap.size w w4 := hB3.trans (hb4.mono hB3.size)
  have ltg3 := rowg3.lt
  have hg3 : RdNo w4 w4.heap.size (some ⟨g3, 0, none⟩) n N := RdNo.row rowg3 ltg3 (Nat.le_refl _) (by omega)
  have own3 : OwR w4 w3.heap.size 45 6 (.slice (some ⟨g3, 0, none⟩) n n) n (noAt N) := OwR.of_row rowg3 lowg3 (by unfold maxLen; omega)
  go_wp2_with fail
  refine (toFracs w4 VA m vc V hv (by omega)).mono ?_
  rintro e w5 ⟨g4, rfl, rowg4, lowg4, hb5⟩
  have hs5 := hb5.size
  replace hd := (hd.below hb5).more hs5
  replace hv := (hv.below hb5).more hs5
  replace hW := (hW.below hb5).more hs5
  replace hg3 := (hg3.below hb5).more hs5
  replace own3 := own3.all hb5
  replace hW3 := hW3.below (hb5.mono (by omega))
  have hB5 : Below w.heap.size w w5 := hB4.trans (hb5.mono hB4.size)
  have ltg4 := rowg4.lt
  have hg4 : RdFr w5 w5.heap.size (some ⟨g4, 0, none⟩) m V := RdFr.row rowg4 ltg4 (Nat.le_refl _) (by omega)
  have own4 : OwR w5 w4.heap.size 39 2 (.slice (some ⟨g4, 0, none⟩) m m) m (frAt V) := OwR.of_row rowg4 lowg4 (by unfold maxLen; omega)
  have h34 : g3 < g4 := by omega
  go_wp2_with fail
  refine (Ci w5 g3 g4 hg3 hg4).mono ?_
  rintro e w6 ⟨D, cD, rfl, ownG, hb6⟩
  have hs6 := hb6.size
  replace hd := (hd.below hb6).more hs6
  replace hv := (hv.below hb6).more hs6
  replace hW := (hW.below hb6).more hs6
  replace hg3 := (hg3.below hb6).more hs6
  replace hg4 := (hg4.below hb6).more hs6
  replace own3 := own3.all hb6
  replace own4 := own4.all hb6
  replace hW3 := hW3.below (hb6.mono (by omega))
  have hB6 : Below w.heap.size w w6 := hB5.trans (hb6.mono hB5.size)
  go_wp2_with fail
  refine (eqFracs w6 D B k k cD cB _ _ (RdFr.own ownG) hW ⟨rfl, fun _ _ => rfl⟩).mono ?_
  rintro e w7 ⟨rfl, hb7⟩
  have hs7 := hb7.size
  replace hd := (hd.below hb7).more hs7
  replace hv := (hv.below hb7).more hs7
  replace hW := (hW.below hb7).more hs7
  replace hg3 := (hg3.below hb7).more hs7
  replace hg4 := (hg4.below hb7).more hs7
  replace own3 := own3.all hb7
  replace own4 := own4.all hb7
  replace ownG := ownG.all hb7
  replace hW3 := hW3.below (hb7.mono (by omega))
  have hB7 : Below w.heap.size w w7 := hB6.trans (hb7.mono hB6.size)
  go_wp2_with fail
  refine (toNodes w7 A n c N hd (by omega)).mono ?_
  rintro e w8 ⟨g5, rfl, rowg5, lowg5, hb8⟩
  have hs8 := hb8.size
  replace hd := (hd.below hb8).more hs8
  replace hv := (hv.below hb8).more hs8
  replace hW := (hW.below hb8).more hs8
  replace hg3 := (hg3.below hb8).more hs8
  replace hg4 := (hg4.below hb8).more hs8
  replace own3 := own3.all hb8
  replace own4 := own4.all hb8
  replace ownG := ownG.all hb8
  replace hW3 := hW3.below (hb8.mono (by omega))
  have hB8 : Below w.heap.size w w8 := hB7.trans (hb8.mono hB7.size)
  have ltg5 := rowg5.lt
  have hg5 : RdNo w8 w8.heap.size (some ⟨g5, 0, none⟩) n N := RdNo.row rowg5 ltg5 (Nat.le_refl _) (by omega)
  go_wp2_with fail
  refine (eqNodes w8 (some ⟨g3, 0, none⟩) (some ⟨g5, 0, none⟩) n n n n _ _ hg3 hg5 ⟨rfl, fun _ _ => rfl⟩).mono ?_
  rintro e w9 ⟨rfl, hb9⟩
  have hs9 := hb9.size
  replace hd := (hd.below hb9).more hs9
  replace hv := (hv.below hb9).more hs9
  replace hW := (hW.below hb9).more hs9
  replace hg3 := (hg3.below hb9).more hs9
  replace hg4 := (hg4.below hb9).more hs9
  replace hg5 := (hg5.below hb9).more hs9
  replace own3 := own3.all hb9
  replace own4 := own4.all hb9
  replace ownG := ownG.all hb9
  replace hW3 := hW3.below (hb9.mono (by omega))
  have hB9 : Below w.heap.size w w9 := hB8.trans (hb9.mono hB8.size)
  go_wp2_with fail
  refine (toFracs w9 VA m vc V hv (by omega)).mono ?_
  rintro e w10 ⟨g6, rfl, rowg6, lowg6, hb10⟩
  have hs10 := hb10.size
  replace hd := (hd.below hb10).more hs10
  replace hv := (hv.below hb10).more hs10
  replace hW := (hW.below hb10).more hs10
  replace hg3 := (hg3.below hb10).more hs10
  replace hg4 := (hg4.below hb10).more hs10
  replace hg5 := (hg5.below hb10).more hs10
  replace own3 := own3.all hb10
  replace own4 := own4.all hb10
  replace ownG := ownG.all hb10
  replace hW3 := hW3.below (hb10.mono (by omega))
  have hB10 : Below w.heap.size w w10 := hB9.trans (hb10.mono hB9.size)
  have ltg6 := rowg6.lt
  have hg6 : RdFr w10 w10.heap.size (some ⟨g6, 0, none⟩) m V := RdFr.row rowg6 ltg6 (Nat.le_refl _) (by omega)
  go_wp2_with fail
  refine (eqFracs w10 (some ⟨g4, 0, none⟩) (some ⟨g6, 0, none⟩) m m m m _ _ hg4 hg6 ⟨rfl, fun _ _ => rfl⟩).mono ?_
  rintro e w11 ⟨rfl, hb11⟩
  have hs11 := hb11.size
  replace hd := (hd.below hb11).more hs11
  replace hv := (hv.below hb11).more hs11
  replace hW := (hW.below hb11).more hs11
  replace hg3 := (hg3.below hb11).more hs11
  replace hg4 := (hg4.below hb11).more hs11
  replace hg5 := (hg5.below hb11).more hs11
  replace hg6 := (hg6.below hb11).more hs11
  replace own3 := own3.all hb11
  replace own4 := own4.all hb11
  replace ownG := ownG.all hb11
  replace hW3 := hW3.below (hb11.mono (by omega))
  have hB11 : Below w.heap.size w w11 := hB10.trans (hb11.mono hB10.size)
  go_wp2_with fail
  refine (markNodes w11 w3.heap.size (some ⟨g3, 0, none⟩) n n _ 1 own3 (by omega) (by omega) (by omega)).mono ?_
  rintro e w12 ⟨rfl, -, hgr⟩
  have hgr : w11.grownBy w12 (some g3) := hgr
  have hs12 := hgr.size
  have hB12 : Below w.heap.size w w12 := hB11.grown hgr hB11.size (fun q hq => by injection hq; omega)
  have hC : Below w3.heap.size w11 w12 := (Below.refl w3.heap.size w11).grown hgr (by omega) (fun q hq => by injection hq; omega)
  replace hW3 := hW3.below hC
  replace own4 := own4.kept hgr (fun q hq e => by have h1 : g4 = q := (by simpa [Value.ownBlock] using hq); have h2 : g3 = q := (by simpa using e); omega)
  replace ownG := ownG.other hgr (by omega)
  clear own3 hgr hC
  go_wp2_with fail
  refine (markFracs w12 w3.heap.size (some ⟨g4, 0, none⟩) m m _ (1 + 6 * (n : Int)) (own4.less (by omega)) (by omega) (by omega) (by omega)).mono ?_
  rintro e w13 ⟨rfl, -, hgr⟩
  have hgr : w12.grownBy w13 (some g4) := hgr
  have hs13 := hgr.size
  have hB13 : Below w.heap.size w w13 := hB12.grown hgr hB12.size (fun q hq => by injection hq; omega)
  have hC : Below w3.heap.size w12 w13 := (Below.refl w3.heap.size w12).grown hgr (by omega) (fun q hq => by injection hq; omega)
  replace hW3 := hW3.below hC
  replace ownG := ownG.other hgr (by omega)
  clear own4 hgr hC
  have hk0 : ¬ (1 : Int) + 6 * (n : Int) + 2 * (m : Int) < 0 := by omega
  replace hd := (hd0.below hB13).more hB13.size
  replace hv := (hv0.below hB13).more hB13.size
  have hW := hW3.more (show w3.heap.size ≤ w13.heap.size by omega)
  go_wp2_with fail
  refine (eqFracs w13 D B k k cD cB _ _ (RdFr.own ownG) hW ⟨rfl, fun _ _ => rfl⟩).mono ?_
  rintro e w14 ⟨rfl, hb14⟩
  have hs14 := hb14.size
  replace hd := (hd.below hb14).more hs14
  replace hv := (hv.below hb14).more hs14
  replace hW := (hW.below hb14).more hs14
  replace ownG := ownG.all hb14
  replace hW3 := hW3.below (hb14.mono (by omega))
  have hB14 : Below w.heap.size w w14 := hB13.trans (hb14.mono hB13.size)
  go_wp2_with fail
  refine (markFracs w14 w5.heap.size D k cD _ 1 ownG (by omega) (by omega) (by omega)).mono ?_
  rintro e w15 ⟨rfl, ownM, hgr⟩
  have hs15 := hgr.size
  have hkm : ¬ (1 : Int) + 2 * (k : Int) < 0 := by omega
  have hlo := fun q (hq : (Value.slice D k cD).ownBlock = some q) => (ownG.lt q hq).1
  have hB15 : Below w.heap.size w w15 := hB14.grown hgr hB14.size (fun q hq => by have := hlo q hq; omega)
  have hC : Below w5.heap.size w14 w15 := (Below.refl w5.heap.size w14).grown hgr (by omega) (fun q hq => hlo q hq)
  replace hW3 := hW3.below (hC.mono (by omega))
  replace hd := (hd0.below hB15).more hB15.size
  replace hv := (hv0.below hB15).more hB15.size
  replace hW := hW3.more (show w3.heap.size ≤ w15.heap.size by omega)
  clear ownG hgr hC hlo
  go_wp2_with fail
  refine (heldFracs w15 D k cD 1 (RdFr.own ownM) (by omega) (by omega) (by omega)).mono ?_
  rintro e w' ⟨rfl, rfl⟩
  go_wp2_with fail
  refine (toNodes w15 A n c N hd (by omega)).mono ?_
  rintro e w16 ⟨g7, rfl, rowg7, lowg7, hb16⟩
  have hs16 := hb16.size
  replace hd := (hd.below hb16).more hs16
  replace hv := (hv.below hb16).more hs16
  replace hW := (hW.below hb16).more hs16
  replace ownM := ownM.all hb16
  replace hW3 := hW3.below (hb16.mono (by omega))
  have hB16 : Below w.heap.size w w16 := hB15.trans (hb16.mono hB15.size)
  have ltg7 := rowg7.lt
  have hg7 : RdNo w16 w16.heap.size (some ⟨g7, 0, none⟩) n N := RdNo.row rowg7 ltg7 (Nat.le_refl _) (by omega)
  go_wp2_with fail
  refine (toFracs w16 VA m vc V hv (by omega)).mono ?_
  rintro e w17 ⟨g8, rfl, rowg8, lowg8, hb17⟩
  have hs17 := hb17.size
  replace hd := (hd.below hb17).more hs17
  replace hv := (hv.below hb17).more hs17
  replace hW := (hW.below hb17).more hs17
  replace hg7 := (hg7.below hb17).more hs17
  replace ownM := ownM.all hb17
  replace hW3 := hW3.below (hb17.mono (by omega))
  have hB17 : Below w.heap.size w w17 := hB16.trans (hb17.mono hB16.size)
  have ltg8 := rowg8.lt
  have hg8 : RdFr w17 w17.heap.size (some ⟨g8, 0, none⟩) m V := RdFr.row rowg8 ltg8 (Nat.le_refl _) (by omega)
  go_wp2_with fail
  refine (Ci w17 g7 g8 hg7 hg8).mono ?_
  rintro e w18 ⟨H, cH, rfl, ownH, hb18⟩
  have hs18 := hb18.size
  replace hd := (hd.below hb18).more hs18
  replace hv := (hv.below hb18).more hs18
  replace hW := (hW.below hb18).more hs18
  replace hg7 := (hg7.below hb18).more hs18
  replace hg8 := (hg8.below hb18).more hs18
  replace ownM := ownM.all hb18
  replace hW3 := hW3.below (hb18.mono (by omega))
  have hB18 : Below w.heap.size w w18 := hB17.trans (hb18.mono hB17.size)
  go_wp2_with fail
  refine (eqFracs w18 H B k k cH cB _ _ (RdFr.own ownH) hW ⟨rfl, fun _ _ => rfl⟩).mono ?_
  rintro e w19 ⟨rfl, hb19⟩
  have hs19 := hb19.size
  replace hd := (hd.below hb19).more hs19
  replace hv := (hv.below hb19).more hs19
  replace hW := (hW.below hb19).more hs19
  replace ownM := ownM.all hb19
  replace ownH := ownH.all hb19
  replace hW3 := hW3.below (hb19.mono (by omega))
  have hB19 : Below w.heap.size w w19 := hB18.trans (hb19.mono hB18.size)
  go_wp2_with fail
  refine (heldFracs w19 D k cD 1 (RdFr.own ownM) (by omega) (by omega) (by omega)).mono ?_
  rintro e w' ⟨rfl, rfl⟩
  go_wp2_with fail
  go_ret
  exact ⟨rfl, hB19⟩
end Go.Proofs.Ytdccdoodmiihbaa
