/- The given statement of RevaluedPay. No conditions. -/
import Derived.Test.YtondmakaednpdaaReval
import Derived.Test.YtondmakaednpdaaSzF
import Derived.Deep.DeepCutAuto
namespace Go.Proofs.Ytondmakaednpdaa
open Go.RowKit

set_option maxRecDepth 8000 in
set_option maxHeartbeats 3200000 in
theorem walkRevaluedPay (A : Option Addr) (n c : Nat) (L : Nat → Fa) (A2 : Option Addr) (q c2 : Nat) (P : Nat → Po) (fm tt known : Int) (w : World) (hd : RdFa w w.heap.size A n L) (hd2 : RdPo w w.heap.size A2 q P) :
    Calls Try.prog 9 #[.agg #[.slice A n c], .agg #[.slice A2 q c2], .int .i64 fm, .int .i64 tt, .int .i64 known] w fun e w' => e = .returned (.bool true) ∧ Below w.heap.size w w' := by
  have hn := hd.1
  have hn2 := hd2.1
  have hbb : Below w.heap.size w ((w.alloc (.cells #[.slice A n c] 39)).alloc (.cells #[.slice A2 q c2] 59)) := ((Below.refl _ _).alloc (Nat.le_refl _) _).alloc (by simp) _
  by_cases t1 : (1048576 : Int) < n
  · go_enter Try.func9, Try.ntmps9
    go_wp2_with fail
    refine (szStoreFrom _ A n c 1048576 hn ⟨by omega, by omega⟩).mono ?_
    rintro e w1 ⟨rfl, hb1⟩
    rw [if_pos (show (1048576 : Int) < n by omega)]
    go_wp2_with fail
    go_ret
    exact ⟨rfl, hbb.trans (hb1.mono (by simp; omega))⟩
  have t2 : ¬ (1048576 : Int) - n < 0 := by omega
  have hn3 : n ≤ 1048576 := by omega
  by_cases t3 : (1048576 : Int) - n < q
  · go_enter Try.func9, Try.ntmps9
    go_wp2_with fail
    refine (szStoreFrom _ A n c 1048576 hn ⟨by omega, by omega⟩).mono ?_
    rintro e w1 ⟨rfl, hb1⟩
    rw [if_neg (show ¬ (1048576 : Int) < n by omega)]
    obtain ⟨hc1, -⟩ := keepc hb1
    have c0 : w1.cell? ⟨w.heap.size, 0, none⟩ = some (.slice A n c) := by rw [hc1 _ _ (by simp <;> omega)]; simp [go_sem]
    have c1 : w1.cell? ⟨w.heap.size + 1, 0, none⟩ = some (.slice A2 q c2) := by rw [hc1 _ _ (by simp <;> omega)]; simp [go_sem]
    have hz1 : w.heap.size + 1 < w1.heap.size := by have := hb1.size; simp at this; omega
    have hB1 : Below w.heap.size w w1 := hbb.trans (hb1.mono (by simp; omega))
    clear hc1 hb1
    go_wp2_with fail
    refine (szSeriesFrom w1 A2 q c2 (1048576 - n) hn2 ⟨by omega, by omega⟩).mono ?_
    rintro e w2 ⟨rfl, hb2⟩
    rw [if_pos (show (1048576 : Int) - n < q by omega)]
    go_wp2_with fail
    go_ret
    exact ⟨rfl, hB1.trans (hb2.mono (by omega))⟩
  have t4 : ¬ (1048576 : Int) - n - q < 0 := by omega
  have hn4 : q ≤ 1048576 := by omega
  obtain ⟨R, hR⟩ : ∃ R, R = revalL n L q P fm tt known := ⟨_, rfl⟩
  have CS : ∀ (v : World) (g h : Nat), RdFa v v.heap.size (some ⟨g, 0, none⟩) n L → RdPo v v.heap.size (some ⟨h, 0, none⟩) q P → Calls Try.prog 28 #[.agg #[.slice (some ⟨g, 0, none⟩) n n], .agg #[.slice (some ⟨h, 0, none⟩) q q], .int .i64 fm, .int .i64 tt, .int .i64 known] v fun e w' => e = .returned (.int .i64 R) ∧ Below v.heap.size v w' := fun v g h a b => by rw [hR]; exact sRevaluedPay v _ n n L _ q q P fm tt known a b
  have CI : ∀ (v : World) (g h : Nat), RdFa v v.heap.size (some ⟨g, 0, none⟩) n L → RdPo v v.heap.size (some ⟨h, 0, none⟩) q P → Calls Try.prog 20 #[.agg #[.slice (some ⟨g, 0, none⟩) n n], .agg #[.slice (some ⟨h, 0, none⟩) q q], .int .i64 fm, .int .i64 tt, .int .i64 known] v fun e w' => e = .returned (.int .i64 R) ∧ Below v.heap.size v w' := fun v g h a b => by rw [hR]; exact iRevaluedPay v _ n n L _ q q P fm tt known a b
  clear hR
  go_enter Try.func9, Try.ntmps9
  go_wp2_with fail
  refine (szStoreFrom _ A n c 1048576 hn ⟨by omega, by omega⟩).mono ?_
  rintro e w1 ⟨rfl, hb1⟩
  rw [if_neg (show ¬ (1048576 : Int) < n by omega)]
  obtain ⟨hc1, -⟩ := keepc hb1
  have c0 : w1.cell? ⟨w.heap.size, 0, none⟩ = some (.slice A n c) := by rw [hc1 _ _ (by simp <;> omega)]; simp [go_sem]
  have c1 : w1.cell? ⟨w.heap.size + 1, 0, none⟩ = some (.slice A2 q c2) := by rw [hc1 _ _ (by simp <;> omega)]; simp [go_sem]
  have hz1 : w.heap.size + 1 < w1.heap.size := by have := hb1.size; simp at this; omega
  have hB1 : Below w.heap.size w w1 := hbb.trans (hb1.mono (by simp; omega))
  clear hc1 hb1
  go_wp2_with fail
  refine (szSeriesFrom w1 A2 q c2 (1048576 - n) hn2 ⟨by omega, by omega⟩).mono ?_
  rintro e w2 ⟨rfl, hb2⟩
  rw [if_neg (show ¬ (1048576 : Int) - n < q by omega)]
  obtain ⟨hc2, -⟩ := keepc hb2
  replace c0 : w2.cell? ⟨w.heap.size, 0, none⟩ = some (.slice A n c) := by rw [hc2 _ _ (by omega)]; exact c0
  replace c1 : w2.cell? ⟨w.heap.size + 1, 0, none⟩ = some (.slice A2 q c2) := by rw [hc2 _ _ (by omega)]; exact c1
  have hs2 := hb2.size
  have hz2 : w.heap.size + 1 < w2.heap.size := by omega
  have hB2 : Below w.heap.size w w2 := hB1.trans (hb2.mono (by omega))
  have ha := hd.below hB2
  have hp := hd2.below hB2
  have hsd : w2.heap.size ≤ w2.drew.heap.size := Nat.le_refl _
  clear hc2 hb2
  go_upto_region 8 with fail
  go_cut [12] (fun s12 wx => s12 = .int .i64 R ∧ wx.cell? ⟨w.heap.size, 0, none⟩ = some (.slice A n c) ∧ wx.cell? ⟨w.heap.size + 1, 0, none⟩ = some (.slice A2 q c2) ∧ w.heap.size + 1 < wx.heap.size ∧ RdFa wx w.heap.size A n L ∧ RdPo wx w.heap.size A2 q P ∧ Below w.heap.size w wx)
  case first =>
    go_region_held3 (fun w' => w'.cell? ⟨w.heap.size, 0, none⟩ = some (.slice A n c) ∧ w'.cell? ⟨w.heap.size + 1, 0, none⟩ = some (.slice A2 q c2) ∧ w.heap.size + 1 < w'.heap.size ∧ RdFa w' w.heap.size A n L ∧ RdPo w' w.heap.size A2 q P ∧ Below w.heap.size w w') (first | (with_reducible assumption) | (refine ⟨?_, ?_, ?_, ?_, ?_, ?_⟩ <;> first | (show RdFa _ _ _ _ _; assumption) | (show RdPo _ _ _ _ _; assumption) | (with_reducible assumption) | omega | (simp [go_sem, *]; done) | (simp [*]; omega) | ((repeat (first | (with_reducible exact Below.refl _ _) | (with_reducible assumption) | (with_reducible refine Below.drew ?_) | (with_reducible refine below_drewN ?_ _) | ((with_reducible refine Below.setCell ?_ ?_ _); rotate_left; focus (first | (simp; done) | omega | (simp; omega))) | ((with_reducible refine Below.alloc ?_ ?_ _); rotate_left; focus (first | exact Nat.le_refl _ | omega | (simp; done) | (simp; omega))))); first | done | (simp [*]; done))))
      (first
        | (go_at_call 18; refine (toStore_any _ A n c L (by first | exact RdFa.more ha4 hBs4 | exact RdFa.more (show RdFa w2.drew w.heap.size A n L from ha) hB2.size) hn3).mono ?_; rintro e w3 ⟨g3, rfl, row3, low3, hb3⟩; have hbl3 : Below w2.heap.size w2 w3 := (by first | exact hbl4.trans (hb3.mono (by omega)) | exact ⟨hb3.os, hb3.tape, hb3.output, hb3.size, hb3.block⟩); obtain ⟨hc3, -⟩ := keepc hbl3; have hs3 := hbl3.size; have lt3 := row3.lt; have hg3 : RdFa w3 w3.heap.size (some ⟨g3, 0, none⟩) n L := RdFa.row row3 lt3 (Nat.le_refl _) (by omega); (try (have hg4b : RdPo w3 w3.heap.size (some ⟨g4, 0, none⟩) q P := (hg4.below hb3).more hb3.size)); have ha3 : RdFa w3 w.heap.size A n L := ha.below (hbl3.mono (by omega)); have hp3 : RdPo w3 w.heap.size A2 q P := hp.below (hbl3.mono (by omega)); have hBs3 : w.heap.size ≤ w3.heap.size := (by omega); have hS3 : ((fun w' => w'.cell? ⟨w.heap.size, 0, none⟩ = some (.slice A n c) ∧ w'.cell? ⟨w.heap.size + 1, 0, none⟩ = some (.slice A2 q c2) ∧ w.heap.size + 1 < w'.heap.size ∧ RdFa w' w.heap.size A n L ∧ RdPo w' w.heap.size A2 q P ∧ Below w.heap.size w w')) w3 := ⟨by rw [hc3 _ _ (by omega)]; exact c0, by rw [hc3 _ _ (by omega)]; exact c1, by omega, ha.below (hbl3.mono (by omega)), hp.below (hbl3.mono (by omega)), hB2.trans (hbl3.mono (by omega))⟩; clear hc3 row3 low3)
        | (go_at_call 29; refine (toSeries_any _ A2 q c2 P (by first | exact RdPo.more hp3 hBs3 | exact RdPo.more (show RdPo w2.drew w.heap.size A2 q P from hp) hB2.size) hn4).mono ?_; rintro e w4 ⟨g4, rfl, row4, low4, hb4⟩; have hbl4 : Below w2.heap.size w2 w4 := (by first | exact hbl3.trans (hb4.mono (by omega)) | exact ⟨hb4.os, hb4.tape, hb4.output, hb4.size, hb4.block⟩); obtain ⟨hc4, -⟩ := keepc hbl4; have hs4 := hbl4.size; have lt4 := row4.lt; have hg4 : RdPo w4 w4.heap.size (some ⟨g4, 0, none⟩) q P := RdPo.row row4 lt4 (Nat.le_refl _) (by omega); (try (have hg3b : RdFa w4 w4.heap.size (some ⟨g3, 0, none⟩) n L := (hg3.below hb4).more hb4.size)); have ha4 : RdFa w4 w.heap.size A n L := ha.below (hbl4.mono (by omega)); have hp4 : RdPo w4 w.heap.size A2 q P := hp.below (hbl4.mono (by omega)); have hBs4 : w.heap.size ≤ w4.heap.size := (by omega); have hS4 : ((fun w' => w'.cell? ⟨w.heap.size, 0, none⟩ = some (.slice A n c) ∧ w'.cell? ⟨w.heap.size + 1, 0, none⟩ = some (.slice A2 q c2) ∧ w.heap.size + 1 < w'.heap.size ∧ RdFa w' w.heap.size A n L ∧ RdPo w' w.heap.size A2 q P ∧ Below w.heap.size w w')) w4 := ⟨by rw [hc4 _ _ (by omega)]; exact c0, by rw [hc4 _ _ (by omega)]; exact c1, by omega, ha.below (hbl4.mono (by omega)), hp.below (hbl4.mono (by omega)), hB2.trans (hbl4.mono (by omega))⟩; clear hc4 row4 low4)
        | (go_at_call 28; refine (CS _ _ _ (by first | exact hg3 | exact hg3b) (by first | exact hg4 | exact hg4b)).mono ?_; rintro e w5 ⟨rfl, hb5⟩; have hbl5 : Below w2.heap.size w2 w5 := (by first | exact hbl4.trans (hb5.mono (by omega)) | exact hbl3.trans (hb5.mono (by omega)) | exact ⟨hb5.os, hb5.tape, hb5.output, hb5.size, hb5.block⟩); obtain ⟨hc5, -⟩ := keepc hbl5; have hs5 := hbl5.size; have hS5 : ((fun w' => w'.cell? ⟨w.heap.size, 0, none⟩ = some (.slice A n c) ∧ w'.cell? ⟨w.heap.size + 1, 0, none⟩ = some (.slice A2 q c2) ∧ w.heap.size + 1 < w'.heap.size ∧ RdFa w' w.heap.size A n L ∧ RdPo w' w.heap.size A2 q P ∧ Below w.heap.size w w')) w5 := ⟨by rw [hc5 _ _ (by omega)]; exact c0, by rw [hc5 _ _ (by omega)]; exact c1, by omega, ha.below (hbl5.mono (by omega)), hp.below (hbl5.mono (by omega)), hB2.trans (hbl5.mono (by omega))⟩; clear hc5))
    all_goals
      go_wp2_with fail
      go_meet
      exact ⟨rfl, hS5⟩
  case rest =>
    clear c0 c1 ha hp
    obtain ⟨rfl, c0, c1, hz5, ha, hp, hB5⟩ := hcut
    have hs5 := hB5.size
    go_wp2_with fail
    refine (toStore_any wc A n c L (ha.more hs5) hn3).mono ?_
    rintro e w6 ⟨g6, rfl, row6, low6, hb6⟩
    obtain ⟨hc6, -⟩ := keepc hb6
    have hs6 := hb6.size
    have lt6 := row6.lt
    have hg6 : RdFa w6 w6.heap.size (some ⟨g6, 0, none⟩) n L := RdFa.row row6 lt6 (Nat.le_refl _) (by omega)
    have hB6 : Below w.heap.size w w6 := hB5.trans (hb6.mono hs5)
    replace c0 : w6.cell? ⟨w.heap.size, 0, none⟩ = some (.slice A n c) := by rw [hc6 _ _ (by omega)]; exact c0
    replace c1 : w6.cell? ⟨w.heap.size + 1, 0, none⟩ = some (.slice A2 q c2) := by rw [hc6 _ _ (by omega)]; exact c1
    replace ha := ha.below (hb6.mono hs5)
    replace hp := hp.below (hb6.mono hs5)
    have hz60 : w.heap.size < w6.heap.size := by omega
    have hz61 : w.heap.size + 1 < w6.heap.size := by omega
    have hn60 : ¬ w.heap.size = w6.heap.size := by omega
    have hn61 : ¬ w.heap.size + 1 = w6.heap.size := by omega
    clear hc6 hb6 row6 low6
    go_wp2_with fail
    have hbx6 : Below w6.heap.size w6 (w6.alloc (.cells #[.slice (some ⟨g6, 0, none⟩) n n] 26)) := (Below.refl _ _).alloc (Nat.le_refl _) _
    refine (toSeries_any _ A2 q c2 P ((hp.below (hbx6.mono (by omega))).more (by simp; omega)) hn4).mono ?_
    rintro e w7 ⟨g7, rfl, row7, low7, hb7⟩
    obtain ⟨hc7, -⟩ := keepc hb7
    have hs7 := hb7.size
    simp at hs7
    have hz7 : w6.heap.size < w7.heap.size := by omega
    have lt7 := row7.lt
    have hg7 : RdPo w7 w7.heap.size (some ⟨g7, 0, none⟩) q P := RdPo.row row7 lt7 (Nat.le_refl _) (by omega)
    have d0 : w7.cell? ⟨w6.heap.size, 0, none⟩ = some (.slice (some ⟨g6, 0, none⟩) n n) := by rw [hc7 _ _ (by simp)]; simp [go_sem]
    have hbl7 : Below w6.heap.size w6 w7 := hbx6.trans (hb7.mono (by simp))
    clear hc7
    obtain ⟨hc7, -⟩ := keepc hbl7
    replace c0 : w7.cell? ⟨w.heap.size, 0, none⟩ = some (.slice A n c) := by rw [hc7 _ _ (by omega)]; exact c0
    replace c1 : w7.cell? ⟨w.heap.size + 1, 0, none⟩ = some (.slice A2 q c2) := by rw [hc7 _ _ (by omega)]; exact c1
    have hB7 : Below w.heap.size w w7 := hB6.trans (hbl7.mono (by omega))
    replace ha := ha.below (hbl7.mono (by omega))
    replace hp := hp.below (hbl7.mono (by omega))
    replace hg6 := hg6.below hbl7
    have hn76 : ¬ w6.heap.size = w7.heap.size := by omega
    clear hc7 hb7 hbl7 row7 low7 hbx6
    go_wp2_with fail
    have hbx7 : Below w7.heap.size w7 (w7.alloc (.cells #[.slice (some ⟨g7, 0, none⟩) q q] 29)) := (Below.refl _ _).alloc (Nat.le_refl _) _
    refine (CI _ _ _ ((hg6.below (hbx7.mono (by omega))).more (by simp; omega)) ((hg7.below hbx7).more (by simp))).mono ?_
    rintro e w8 ⟨rfl, hb8⟩
    obtain ⟨hc8, -⟩ := keepc hb8
    have hs8 := hb8.size
    simp at hs8
    have hz8 : w7.heap.size < w8.heap.size := by omega
    have e0 : w8.cell? ⟨w7.heap.size, 0, none⟩ = some (.slice (some ⟨g7, 0, none⟩) q q) := by rw [hc8 _ _ (by simp)]; simp [go_sem]
    have hbl8 : Below w7.heap.size w7 w8 := hbx7.trans (hb8.mono (by simp))
    clear hc8
    obtain ⟨hc8, -⟩ := keepc hbl8
    replace c0 : w8.cell? ⟨w.heap.size, 0, none⟩ = some (.slice A n c) := by rw [hc8 _ _ (by omega)]; exact c0
    replace c1 : w8.cell? ⟨w.heap.size + 1, 0, none⟩ = some (.slice A2 q c2) := by rw [hc8 _ _ (by omega)]; exact c1
    replace d0 : w8.cell? ⟨w6.heap.size, 0, none⟩ = some (.slice (some ⟨g6, 0, none⟩) n n) := by rw [hc8 _ _ (by omega)]; exact d0
    have hB8 : Below w.heap.size w w8 := hB7.trans (hbl8.mono (by omega))
    replace ha := ha.below (hbl8.mono (by omega))
    replace hp := hp.below (hbl8.mono (by omega))
    replace hg6 := hg6.below (hbl8.mono (by omega))
    replace hg7 := hg7.below hbl8
    have hwz : w.heap.size + 1 < w8.heap.size := by omega
    have hwz6 : w6.heap.size < w8.heap.size := by omega
    clear hc8 hb8 hbl8 hbx7
    go_wp2_with fail
    go_region_held3 (fun w' => w'.cell? ⟨w.heap.size, 0, none⟩ = some (.slice A n c) ∧ w'.cell? ⟨w.heap.size + 1, 0, none⟩ = some (.slice A2 q c2) ∧ w'.cell? ⟨w6.heap.size, 0, none⟩ = some (.slice (some ⟨g6, 0, none⟩) n n) ∧ w'.cell? ⟨w7.heap.size, 0, none⟩ = some (.slice (some ⟨g7, 0, none⟩) q q) ∧ w.heap.size + 1 < w'.heap.size ∧ w6.heap.size < w'.heap.size ∧ w7.heap.size < w'.heap.size ∧ RdFa w' w.heap.size A n L ∧ RdPo w' w.heap.size A2 q P ∧ RdFa w' w6.heap.size (some ⟨g6, 0, none⟩) n L ∧ RdPo w' w7.heap.size (some ⟨g7, 0, none⟩) q P ∧ Below w.heap.size w w') (first | (with_reducible assumption) | (refine ⟨?_, ?_, ?_, ?_, ?_, ?_, ?_, ?_, ?_, ?_, ?_, ?_⟩ <;> first | (show RdFa _ _ _ _ _; assumption) | (show RdPo _ _ _ _ _; assumption) | (with_reducible assumption) | omega | (simp [go_sem, *]; done) | (simp [*]; omega) | ((repeat (first | (with_reducible exact Below.refl _ _) | (with_reducible assumption) | (with_reducible refine Below.drew ?_) | (with_reducible refine below_drewN ?_ _) | ((with_reducible refine Below.setCell ?_ ?_ _); rotate_left; focus (first | (simp; done) | omega | (simp; omega))) | ((with_reducible refine Below.alloc ?_ ?_ _); rotate_left; focus (first | exact Nat.le_refl _ | omega | (simp; done) | (simp; omega))))); first | done | (simp [*]; done))))
      (first
      | (go_at_call 18; refine (toStore_any _ A n c L (RdFa.more (show RdFa w8.drew w.heap.size A n L from ha) hB8.size) hn3).mono ?_; rintro e w9 ⟨g9, rfl, row9, low9, hb9⟩; have hbl9 : Below w8.heap.size w8 w9 := (by first | exact ⟨hb9.os, hb9.tape, hb9.output, hb9.size, hb9.block⟩); obtain ⟨hc9, -⟩ := keepc hbl9; have hs9 := hbl9.size; have lt9 := row9.lt; have hg9 : RdFa w9 w9.heap.size (some ⟨g9, 0, none⟩) n L := RdFa.row row9 lt9 (Nat.le_refl _) (by omega); have hx9 : RdFa w9 w9.heap.size (some ⟨g6, 0, none⟩) n L := (hg6.below (hbl9.mono (by omega))).more (by omega); have hS9 : ((fun w' => w'.cell? ⟨w.heap.size, 0, none⟩ = some (.slice A n c) ∧ w'.cell? ⟨w.heap.size + 1, 0, none⟩ = some (.slice A2 q c2) ∧ w'.cell? ⟨w6.heap.size, 0, none⟩ = some (.slice (some ⟨g6, 0, none⟩) n n) ∧ w'.cell? ⟨w7.heap.size, 0, none⟩ = some (.slice (some ⟨g7, 0, none⟩) q q) ∧ w.heap.size + 1 < w'.heap.size ∧ w6.heap.size < w'.heap.size ∧ w7.heap.size < w'.heap.size ∧ RdFa w' w.heap.size A n L ∧ RdPo w' w.heap.size A2 q P ∧ RdFa w' w6.heap.size (some ⟨g6, 0, none⟩) n L ∧ RdPo w' w7.heap.size (some ⟨g7, 0, none⟩) q P ∧ Below w.heap.size w w')) w9 := ⟨by rw [hc9 _ _ (by omega)]; exact c0, by rw [hc9 _ _ (by omega)]; exact c1, by rw [hc9 _ _ (by omega)]; exact d0, by rw [hc9 _ _ (by omega)]; exact e0, by omega, by omega, by omega, ha.below (hbl9.mono (by omega)), hp.below (hbl9.mono (by omega)), hg6.below (hbl9.mono (by omega)), hg7.below (hbl9.mono (by omega)), hB8.trans (hbl9.mono (by omega))⟩; clear hc9 hb9 row9 low9)
      | (go_at_call 19; refine (eqStore_any _ _ _ n _ _ L hx9 hg9).mono ?_; rintro e w10 ⟨rfl, hb10⟩; have hbl10 : Below w8.heap.size w8 w10 := hbl9.trans (hb10.mono (by omega)); obtain ⟨hc10, -⟩ := keepc hbl10; have hs10 := hbl10.size; have hS10 : ((fun w' => w'.cell? ⟨w.heap.size, 0, none⟩ = some (.slice A n c) ∧ w'.cell? ⟨w.heap.size + 1, 0, none⟩ = some (.slice A2 q c2) ∧ w'.cell? ⟨w6.heap.size, 0, none⟩ = some (.slice (some ⟨g6, 0, none⟩) n n) ∧ w'.cell? ⟨w7.heap.size, 0, none⟩ = some (.slice (some ⟨g7, 0, none⟩) q q) ∧ w.heap.size + 1 < w'.heap.size ∧ w6.heap.size < w'.heap.size ∧ w7.heap.size < w'.heap.size ∧ RdFa w' w.heap.size A n L ∧ RdPo w' w.heap.size A2 q P ∧ RdFa w' w6.heap.size (some ⟨g6, 0, none⟩) n L ∧ RdPo w' w7.heap.size (some ⟨g7, 0, none⟩) q P ∧ Below w.heap.size w w')) w10 := ⟨by rw [hc10 _ _ (by omega)]; exact c0, by rw [hc10 _ _ (by omega)]; exact c1, by rw [hc10 _ _ (by omega)]; exact d0, by rw [hc10 _ _ (by omega)]; exact e0, by omega, by omega, by omega, ha.below (hbl10.mono (by omega)), hp.below (hbl10.mono (by omega)), hg6.below (hbl10.mono (by omega)), hg7.below (hbl10.mono (by omega)), hB8.trans (hbl10.mono (by omega))⟩; clear hc10 hb10))
    clear hS9 hx9 hg9 hbl9 hbl10 ha hp hg6 hg7 c0 c1 d0 e0 hs8 hz8 hwz hwz6
    obtain ⟨c0, c1, d0, e0, hz, hz6, hz7, ha, hp, hg6, hg7, hB10⟩ := hS10
    go_wp2_with fail
    go_region_held3 (fun w' => w'.cell? ⟨w.heap.size, 0, none⟩ = some (.slice A n c) ∧ w'.cell? ⟨w.heap.size + 1, 0, none⟩ = some (.slice A2 q c2) ∧ w'.cell? ⟨w6.heap.size, 0, none⟩ = some (.slice (some ⟨g6, 0, none⟩) n n) ∧ w'.cell? ⟨w7.heap.size, 0, none⟩ = some (.slice (some ⟨g7, 0, none⟩) q q) ∧ w.heap.size + 1 < w'.heap.size ∧ w6.heap.size < w'.heap.size ∧ w7.heap.size < w'.heap.size ∧ RdFa w' w.heap.size A n L ∧ RdPo w' w.heap.size A2 q P ∧ RdFa w' w6.heap.size (some ⟨g6, 0, none⟩) n L ∧ RdPo w' w7.heap.size (some ⟨g7, 0, none⟩) q P ∧ Below w.heap.size w w') (first | (with_reducible assumption) | (refine ⟨?_, ?_, ?_, ?_, ?_, ?_, ?_, ?_, ?_, ?_, ?_, ?_⟩ <;> first | (show RdFa _ _ _ _ _; assumption) | (show RdPo _ _ _ _ _; assumption) | (with_reducible assumption) | omega | (simp [go_sem, *]; done) | (simp [*]; omega) | ((repeat (first | (with_reducible exact Below.refl _ _) | (with_reducible assumption) | (with_reducible refine Below.drew ?_) | (with_reducible refine below_drewN ?_ _) | ((with_reducible refine Below.setCell ?_ ?_ _); rotate_left; focus (first | (simp; done) | omega | (simp; omega))) | ((with_reducible refine Below.alloc ?_ ?_ _); rotate_left; focus (first | exact Nat.le_refl _ | omega | (simp; done) | (simp; omega))))); first | done | (simp [*]; done))))
      (first
      | (go_at_call 29; refine (toSeries_any _ A2 q c2 P (RdPo.more (show RdPo w10.drew w.heap.size A2 q P from hp) hB10.size) hn4).mono ?_; rintro e w11 ⟨g11, rfl, row11, low11, hb11⟩; have hbl11 : Below w10.heap.size w10 w11 := (by first | exact ⟨hb11.os, hb11.tape, hb11.output, hb11.size, hb11.block⟩); obtain ⟨hc11, -⟩ := keepc hbl11; have hs11 := hbl11.size; have lt11 := row11.lt; have hg11 : RdPo w11 w11.heap.size (some ⟨g11, 0, none⟩) q P := RdPo.row row11 lt11 (Nat.le_refl _) (by omega); have hx11 : RdPo w11 w11.heap.size (some ⟨g7, 0, none⟩) q P := (hg7.below (hbl11.mono (by omega))).more (by omega); have hS11 : ((fun w' => w'.cell? ⟨w.heap.size, 0, none⟩ = some (.slice A n c) ∧ w'.cell? ⟨w.heap.size + 1, 0, none⟩ = some (.slice A2 q c2) ∧ w'.cell? ⟨w6.heap.size, 0, none⟩ = some (.slice (some ⟨g6, 0, none⟩) n n) ∧ w'.cell? ⟨w7.heap.size, 0, none⟩ = some (.slice (some ⟨g7, 0, none⟩) q q) ∧ w.heap.size + 1 < w'.heap.size ∧ w6.heap.size < w'.heap.size ∧ w7.heap.size < w'.heap.size ∧ RdFa w' w.heap.size A n L ∧ RdPo w' w.heap.size A2 q P ∧ RdFa w' w6.heap.size (some ⟨g6, 0, none⟩) n L ∧ RdPo w' w7.heap.size (some ⟨g7, 0, none⟩) q P ∧ Below w.heap.size w w')) w11 := ⟨by rw [hc11 _ _ (by omega)]; exact c0, by rw [hc11 _ _ (by omega)]; exact c1, by rw [hc11 _ _ (by omega)]; exact d0, by rw [hc11 _ _ (by omega)]; exact e0, by omega, by omega, by omega, ha.below (hbl11.mono (by omega)), hp.below (hbl11.mono (by omega)), hg6.below (hbl11.mono (by omega)), hg7.below (hbl11.mono (by omega)), hB10.trans (hbl11.mono (by omega))⟩; clear hc11 hb11 row11 low11)
      | (go_at_call 30; refine (eqSeries_any _ _ _ q _ _ P hx11 hg11).mono ?_; rintro e w12 ⟨rfl, hb12⟩; have hbl12 : Below w10.heap.size w10 w12 := hbl11.trans (hb12.mono (by omega)); obtain ⟨hc12, -⟩ := keepc hbl12; have hs12 := hbl12.size; have hS12 : ((fun w' => w'.cell? ⟨w.heap.size, 0, none⟩ = some (.slice A n c) ∧ w'.cell? ⟨w.heap.size + 1, 0, none⟩ = some (.slice A2 q c2) ∧ w'.cell? ⟨w6.heap.size, 0, none⟩ = some (.slice (some ⟨g6, 0, none⟩) n n) ∧ w'.cell? ⟨w7.heap.size, 0, none⟩ = some (.slice (some ⟨g7, 0, none⟩) q q) ∧ w.heap.size + 1 < w'.heap.size ∧ w6.heap.size < w'.heap.size ∧ w7.heap.size < w'.heap.size ∧ RdFa w' w.heap.size A n L ∧ RdPo w' w.heap.size A2 q P ∧ RdFa w' w6.heap.size (some ⟨g6, 0, none⟩) n L ∧ RdPo w' w7.heap.size (some ⟨g7, 0, none⟩) q P ∧ Below w.heap.size w w')) w12 := ⟨by rw [hc12 _ _ (by omega)]; exact c0, by rw [hc12 _ _ (by omega)]; exact c1, by rw [hc12 _ _ (by omega)]; exact d0, by rw [hc12 _ _ (by omega)]; exact e0, by omega, by omega, by omega, ha.below (hbl12.mono (by omega)), hp.below (hbl12.mono (by omega)), hg6.below (hbl12.mono (by omega)), hg7.below (hbl12.mono (by omega)), hB10.trans (hbl12.mono (by omega))⟩; clear hc12 hb12))
    go_wp2_with fail
    go_ret
    exact ⟨rfl, hS12.2.2.2.2.2.2.2.2.2.2.2⟩
end Go.Proofs.Ytondmakaednpdaa
