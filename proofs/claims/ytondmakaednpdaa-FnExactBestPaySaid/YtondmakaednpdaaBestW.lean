/- The given statement of BestPay. No conditions. -/
import Derived.Test.YtondmakaednpdaaBestP
import Derived.Test.YtondmakaednpdaaStW
import Derived.Test.YtondmakaednpdaaEqF
namespace Go.Proofs.Ytondmakaednpdaa
open Go.RowKit

set_option maxRecDepth 4000 in
set_option maxHeartbeats 3200000 in
theorem walkBestPay (A : Option Addr) (n c : Nat) (L : Nat → Fa) (a b len known : Int) (w : World) (hd : RdFa w w.heap.size A n L) :
    Calls Try.prog 10 #[.agg #[.slice A n c], .int .i64 a, .int .i64 b, .int .i64 len, .int .i64 known] w fun e w' => e = .returned (.bool true) ∧ Below w.heap.size w w' := by
  have hn := hd.1
  by_cases t1 : (1048576 : Int) < n
  · go_enter Try.func10, Try.ntmps10
    go_wp2_with fail
    refine (szStore_any _ A n c hn).mono ?_
    rintro e w1 ⟨rfl, hb1⟩
    rw [if_pos (show (1048576 : Int) < n by omega)]
    go_wp2_with fail
    go_ret
    exact ⟨rfl, (Below.alloc (Below.refl w.heap.size w) (Nat.le_refl _) _).trans (hb1.mono (by simp))⟩
  obtain ⟨R, hR⟩ : ∃ R, R = bestL n L a b len known := ⟨_, rfl⟩
  have CS : ∀ (v : World) (g : Nat), RdFa v v.heap.size (some ⟨g, 0, none⟩) n L → Calls Try.prog 31 #[.agg #[.slice (some ⟨g, 0, none⟩) n n], .int .i64 a, .int .i64 b, .int .i64 len, .int .i64 known] v fun e w' => e = .returned (.tuple #[.agg #[.int .i64 (bN R), .int .i64 (bD R)], .int .i64 (bM R), .bool R.isSome]) ∧ Below v.heap.size v w' := fun v g hh => by rw [hR]; exact sBestPay v _ n n L a b len known hh
  have CI : ∀ (v : World) (g : Nat), RdFa v v.heap.size (some ⟨g, 0, none⟩) n L → Calls Try.prog 25 #[.agg #[.slice (some ⟨g, 0, none⟩) n n], .int .i64 a, .int .i64 b, .int .i64 len, .int .i64 known] v fun e w' => e = .returned (.tuple #[.agg #[.int .i64 (bN R), .int .i64 (bD R)], .int .i64 (bM R), .bool R.isSome]) ∧ Below v.heap.size v w' := fun v g hh => by rw [hR]; exact iBestPay v _ n n L a b len known hh
  clear hR
  generalize bN R = r1 at CS CI
  generalize bD R = r2 at CS CI
  generalize bM R = r3 at CS CI
  generalize R.isSome = rb at CS CI
  have t2 : (0 : Int) ≤ 1048576 - n := by omega
  have hn2 : n ≤ 1048576 := by omega
  go_enter Try.func10, Try.ntmps10
  go_wp2_with fail
  refine (szStore_any _ A n c hn).mono ?_
  rintro e w1 ⟨rfl, hb1⟩
  rw [if_neg (show ¬ (1048576 : Int) < n by omega)]
  obtain ⟨hc1, -⟩ := keepc hb1
  have c0 : w1.cell? ⟨w.heap.size, 0, none⟩ = some (.slice A n c) := by rw [hc1 _ _ (by simp)]; simp [go_sem]
  have hB1 : Below w.heap.size w w1 := (Below.alloc (Below.refl w.heap.size w) (Nat.le_refl _) _).trans (hb1.mono (by simp))
  have hz1 : w.heap.size < w1.heap.size := by have := hb1.size; simp at this; omega
  clear hc1 hb1
  go_wp2_with fail
  refine (toStore_any w1 A n c L ((hd.below hB1).more hB1.size) hn2).mono ?_
  rintro e w2 ⟨g2, rfl, row2, low2, hb2⟩
  obtain ⟨hc2, -⟩ := keepc hb2
  have hs2 := hb2.size
  have lt2 := row2.lt
  have hg2 : RdFa w2 w2.heap.size (some ⟨g2, 0, none⟩) n L := RdFa.row row2 lt2 (Nat.le_refl _) (by omega)
  have hB2 : Below w.heap.size w w2 := hB1.trans (hb2.mono (by omega))
  replace c0 : w2.cell? ⟨w.heap.size, 0, none⟩ = some (.slice A n c) := by rw [hc2 _ _ (by omega)]; exact c0
  go_wp2_with fail
  refine (CS w2 g2 hg2).mono ?_
  rintro e w3 ⟨rfl, hb3⟩
  obtain ⟨hc3, -⟩ := keepc hb3
  have hs3 := hb3.size
  have hB3 : Below w.heap.size w w3 := hB2.trans (hb3.mono (by omega))
  replace c0 : w3.cell? ⟨w.heap.size, 0, none⟩ = some (.slice A n c) := by rw [hc3 _ _ (by omega)]; exact c0
  have z3 : w.heap.size < w3.heap.size := by omega
  have z3n : ¬ w.heap.size = w3.heap.size := by omega
  clear hc3 hc2 hb2 hb3 hg2 row2 low2
  go_wp2_with fail
  have hbx3 : Below w3.heap.size w3 (w3.alloc (.cells #[.int .i64 r1, .int .i64 r2] 48)) := (Below.refl _ _).alloc (Nat.le_refl _) _
  refine (toStore_any _ A n c L ((hd.below (hB3.trans (hbx3.mono (by omega)))).more (by simp; omega)) hn2).mono ?_
  rintro e w4 ⟨g4, rfl, row4, low4, hb4⟩
  have hs4 := hb4.size
  simp at hs4
  obtain ⟨hc4, -⟩ := keepc hb4
  have lt4 := row4.lt
  have hg4 : RdFa w4 w4.heap.size (some ⟨g4, 0, none⟩) n L := RdFa.row row4 lt4 (Nat.le_refl _) (by omega)
  have q0 : w4.cell? ⟨w3.heap.size, 0, none⟩ = some (.int .i64 r1) := by rw [hc4 _ _ (by simp)]; simp [go_sem]
  have q1 : w4.cell? ⟨w3.heap.size, 1, none⟩ = some (.int .i64 r2) := by rw [hc4 _ _ (by simp)]; simp [go_sem]
  have hbl4 : Below w3.heap.size w3 w4 := hbx3.trans (hb4.mono (by simp))
  clear hc4
  obtain ⟨hc4, -⟩ := keepc hbl4
  replace c0 : w4.cell? ⟨w.heap.size, 0, none⟩ = some (.slice A n c) := by rw [hc4 _ _ (by omega)]; exact c0
  have hB4 : Below w.heap.size w w4 := hB3.trans (hbl4.mono (by omega))
  have z4 : w3.heap.size < w4.heap.size := by omega
  have z4n : ¬ w3.heap.size = w4.heap.size := by omega
  have z4w : w.heap.size < w4.heap.size := by omega
  have z4wn : ¬ w.heap.size = w4.heap.size := by omega
  clear hc4 hb4 hbl4 hbx3 row4 low4
  go_wp2_with fail
  have hbx : Below w4.heap.size w4 (w4.alloc (.cells #[.slice (some ⟨g4, 0, none⟩) n n] 26)) := (Below.refl _ _).alloc (Nat.le_refl _) _
  refine (CI _ g4 ((hg4.below hbx).more (by simp))).mono ?_
  rintro e w5 ⟨rfl, hb5⟩
  obtain ⟨hc5, -⟩ := keepc hb5
  have hs5 := hb5.size
  simp at hs5
  have d0 : w5.cell? ⟨w4.heap.size, 0, none⟩ = some (.slice (some ⟨g4, 0, none⟩) n n) := by rw [hc5 _ _ (by simp)]; simp [go_sem]
  have hbb := hbx.trans (hb5.mono (by simp))
  clear hc5
  obtain ⟨hc5, -⟩ := keepc hbb
  replace c0 : w5.cell? ⟨w.heap.size, 0, none⟩ = some (.slice A n c) := by rw [hc5 _ _ (by omega)]; exact c0
  replace q0 : w5.cell? ⟨w3.heap.size, 0, none⟩ = some (.int .i64 r1) := by rw [hc5 _ _ (by omega)]; exact q0
  replace q1 : w5.cell? ⟨w3.heap.size, 1, none⟩ = some (.int .i64 r2) := by rw [hc5 _ _ (by omega)]; exact q1
  have hB5 : Below w.heap.size w w5 := hB4.trans (hbb.mono (by omega))
  have hg5 := hg4.below hbb
  have ha5 := hd.below hB5
  have z5 : w4.heap.size < w5.heap.size := by omega
  have z5n : ¬ w4.heap.size = w5.heap.size := by omega
  have z5q : w3.heap.size < w5.heap.size := by omega
  have z5qn : ¬ w3.heap.size = w5.heap.size := by omega
  have z5w : w.heap.size < w5.heap.size := by omega
  have z5wn : ¬ w.heap.size = w5.heap.size := by omega
  clear hc5 hb5 hbb hbx hg4 hd
  go_wp2_with fail
  refine (eqFrac_same r1 r2 _).mono ?_
  rintro e w6 ⟨rfl, hb6⟩
  have hbb6 : Below w5.heap.size w5 w6 := ((Below.refl _ _).alloc (Nat.le_refl _) _).trans (hb6.mono (by simp))
  obtain ⟨hc6, -⟩ := keepc hbb6
  have hs6 := hbb6.size
  replace c0 : w6.cell? ⟨w.heap.size, 0, none⟩ = some (.slice A n c) := by rw [hc6 _ _ (by omega)]; exact c0
  replace d0 : w6.cell? ⟨w4.heap.size, 0, none⟩ = some (.slice (some ⟨g4, 0, none⟩) n n) := by rw [hc6 _ _ (by omega)]; exact d0
  have hB6 : Below w.heap.size w w6 := hB5.trans (hbb6.mono (by omega))
  replace hg5 := hg5.below (hbb6.mono (by omega))
  replace ha5 := ha5.below (hbb6.mono (by omega))
  have hz6 : w4.heap.size < w6.heap.size := by omega
  have hzw : w.heap.size < w6.heap.size := by omega
  clear hc6 hb6 q0 q1 z5 z5n z5q z5qn z5w z5wn z4 z4n z3 z3n
  go_wp2_with fail
  go_region_held3 (fun w' => w'.cell? ⟨w.heap.size, 0, none⟩ = some (.slice A n c) ∧ w'.cell? ⟨w4.heap.size, 0, none⟩ = some (.slice (some ⟨g4, 0, none⟩) n n) ∧ w.heap.size < w'.heap.size ∧ w4.heap.size < w'.heap.size ∧ RdFa w' w.heap.size A n L ∧ RdFa w' w4.heap.size (some ⟨g4, 0, none⟩) n L ∧ Below w.heap.size w w') (first | (with_reducible assumption) | (refine ⟨?_, ?_, ?_, ?_, ?_, ?_, ?_⟩ <;> first | (show RdFa _ _ _ _ _; assumption) | (with_reducible assumption) | omega | (simp [go_sem, *]; done) | (simp [*]; omega) | ((repeat (first | (with_reducible exact Below.refl _ _) | (with_reducible assumption) | (with_reducible refine Below.drew ?_) | (with_reducible refine below_drewN ?_ _) | ((with_reducible refine Below.setCell ?_ ?_ _); rotate_left; focus (first | (simp; done) | omega | (simp; omega))) | ((with_reducible refine Below.alloc ?_ ?_ _); rotate_left; focus (first | exact Nat.le_refl _ | omega | (simp; done) | (simp; omega))))); first | done | (simp [*]; done))))
    (first
    | (go_at_call 18; refine (toStore_any _ A n c L (RdFa.more (show RdFa w6.drew w.heap.size A n L from ha5) hB6.size) hn2).mono ?_; rintro e w7 ⟨g7, rfl, row7, low7, hb7⟩; have hbl7 : Below w6.heap.size w6 w7 := ⟨hb7.os, hb7.tape, hb7.output, hb7.size, hb7.block⟩; obtain ⟨hc7, -⟩ := keepc hbl7; have hs7 := hbl7.size; have lt7 := row7.lt; have hg7 : RdFa w7 w7.heap.size (some ⟨g7, 0, none⟩) n L := RdFa.row row7 lt7 (Nat.le_refl _) (by omega); have hx7 : RdFa w7 w7.heap.size (some ⟨g4, 0, none⟩) n L := (hg5.below (hbl7.mono (by omega))).more (by omega); have hS7 : ((fun w' => w'.cell? ⟨w.heap.size, 0, none⟩ = some (.slice A n c) ∧ w'.cell? ⟨w4.heap.size, 0, none⟩ = some (.slice (some ⟨g4, 0, none⟩) n n) ∧ w.heap.size < w'.heap.size ∧ w4.heap.size < w'.heap.size ∧ RdFa w' w.heap.size A n L ∧ RdFa w' w4.heap.size (some ⟨g4, 0, none⟩) n L ∧ Below w.heap.size w w')) w7 := ⟨by rw [hc7 _ _ (by omega)]; exact c0, by rw [hc7 _ _ (by omega)]; exact d0, by omega, by omega, ha5.below (hbl7.mono (by omega)), hg5.below (hbl7.mono (by omega)), hB6.trans (hbl7.mono (by omega))⟩; clear hc7 hb7 row7 low7)
    | (go_at_call 19; refine (eqStore_any _ _ _ n _ _ L hx7 hg7).mono ?_; rintro e w8 ⟨rfl, hb8⟩; have hbl8 : Below w6.heap.size w6 w8 := hbl7.trans (hb8.mono (by omega)); obtain ⟨hc8, -⟩ := keepc hbl8; have hs8 := hbl8.size; have hS8 : ((fun w' => w'.cell? ⟨w.heap.size, 0, none⟩ = some (.slice A n c) ∧ w'.cell? ⟨w4.heap.size, 0, none⟩ = some (.slice (some ⟨g4, 0, none⟩) n n) ∧ w.heap.size < w'.heap.size ∧ w4.heap.size < w'.heap.size ∧ RdFa w' w.heap.size A n L ∧ RdFa w' w4.heap.size (some ⟨g4, 0, none⟩) n L ∧ Below w.heap.size w w')) w8 := ⟨by rw [hc8 _ _ (by omega)]; exact c0, by rw [hc8 _ _ (by omega)]; exact d0, by omega, by omega, ha5.below (hbl8.mono (by omega)), hg5.below (hbl8.mono (by omega)), hB6.trans (hbl8.mono (by omega))⟩; clear hc8 hb8))
  go_wp2_with fail
  go_ret
  exact ⟨rfl, hS8.2.2.2.2.2.2⟩
end Go.Proofs.Ytondmakaednpdaa
