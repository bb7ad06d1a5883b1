/- The given statement of GapsIn. No conditions. -/
import Derived.Test.YtjnckhdmaebfdaaGaps
import Derived.Test.YtjnckhdmaebfdaaBookW
import Derived.Test.YtjnckhdmaebfdaaBook4
import Derived.Deep.Cut
namespace Go.Proofs.Ytjnckhdmaebfdaa
open Go.RowKit

set_option maxRecDepth 8000 in
set_option maxHeartbeats 6400000 in
theorem walkGapsIn (A : Option Addr) (m c : Nat) (R : Nat → Rn) (name jo a b : Int) (w : World) (hd : RdRu w w.heap.size A m R) :
    Calls Try.prog 10 #[.agg #[.slice A m c], .int .i64 name, .int .i64 jo, .int .i64 a, .int .i64 b] w fun e w' => e = .returned (.bool true) ∧ Below w.heap.size w w' := by
  have hmx := hd.1
  have hbx0 : Below w.heap.size w (w.alloc (.cells #[.slice A m c] 48)) := (Below.alloc (Below.refl w.heap.size w) (Nat.le_refl _) _)
  obtain ⟨W, hW⟩ : ∃ W : Nat, W = m + wtR R m := ⟨_, rfl⟩
  have SZ := fun (v : World) (hv : RdRu v v.heap.size A m R) => szBookFrom v A m c R 1048576 hv (by omega)
  simp only [← hW] at SZ
  by_cases t1 : (1048576 : Int) < (W : Int)
  · simp only [if_pos t1] at SZ
    go_enter Try.func10, Try.ntmps10
    go_wp2_with fail
    refine (SZ _ ((hd.below hbx0).more (by simp))).mono ?_
    rintro e w1 ⟨rfl, hb1⟩
    clear SZ
    go_wp2_with fail
    go_ret
    exact ⟨rfl, hbx0.trans (hb1.mono (by simp))⟩
  simp only [if_neg t1] at SZ
  have hm2 : m ≤ 1048576 := by omega
  have HWT := Lib.hid (show m + wtR R m ≤ 1048576 by omega)
  have HN := Lib.hid (show ∀ i, i < m → (R i).n ≤ 1048576 from fun i hi => by have := wtR_at R hi; omega)
  obtain ⟨xs, hxs⟩ : ∃ xs, xs = gapL m R name jo a b := ⟨_, rfl⟩
  obtain ⟨k, hk⟩ : ∃ k, k = xs.length := ⟨_, rfl⟩
  have hk2 : k ≤ 3600 := by rw [hk, hxs]; exact gapL_len m R name jo a b
  have CS : ∀ (v : World) (g : Nat) (G : Nat → Nat), RdRu v v.heap.size (some ⟨g, 0, none⟩) m (mkR R G) → Calls Try.prog 33 #[.agg #[.slice (some ⟨g, 0, none⟩) m m], .int .i64 name, .int .i64 jo, .int .i64 a, .int .i64 b] v fun e w' => ∃ (B : Option Addr) (cc : Nat), e = .returned (.slice B k cc) ∧ w'.ownsRow v.heap.size 3 1 (.slice B k cc) k (xs.map (Value.int .i64)) ∧ Below v.heap.size v w' := fun v g G hh => by
    rw [hk, hxs, ← gapL_same (sameR_mk R G m) name jo a b]
    exact sGapsIn v _ m m (mkR R G) name jo a b hh (Nat.le_refl _) (by omega) (fun i hi => Nat.le_trans (HN.out i hi) (by omega))
  have CI : ∀ (v : World) (g : Nat) (G : Nat → Nat), RdRu v v.heap.size (some ⟨g, 0, none⟩) m (mkR R G) → Calls Try.prog 24 #[.agg #[.slice (some ⟨g, 0, none⟩) m m], .int .i64 name, .int .i64 jo, .int .i64 a, .int .i64 b] v fun e w' => ∃ (B : Option Addr) (cc : Nat), e = .returned (.slice B k cc) ∧ w'.ownsRow v.heap.size 3 1 (.slice B k cc) k (xs.map (Value.int .i64)) ∧ Below v.heap.size v w' := fun v g G hh => by
    rw [hk, hxs, ← gapL_same (sameR_mk R G m) name jo a b]
    exact iGapsIn v _ m m (mkR R G) name jo a b hh (Nat.le_refl _) (by omega) (fun i hi => Nat.le_trans (HN.out i hi) (by omega))
  clear hxs hk
  obtain ⟨y, hy⟩ : ∃ y : Int, y = 1048576 - (W : Int) := ⟨_, rfl⟩
  rw [← hy] at SZ
  have t2 : ¬ y < 0 := by omega
  clear hy hW t1
  go_enter Try.func10, Try.ntmps10
  go_wp2_with fail
  refine (SZ _ ((hd.below hbx0).more (by simp))).mono ?_
  rintro e w1 ⟨rfl, hb1⟩
  clear SZ
  have pA : Whole w1 w.heap.size 48 #[.slice A m c] := (Whole.new w 48 #[.slice A m c]).below hb1 (by simp)
  have hB1 : Below w.heap.size w w1 := hbx0.trans (hb1.mono (by simp))
  clear hb1 hbx0
  have pAq : w1.cell? ⟨w.heap.size, 0, none⟩ = some (.slice A m c) := pA.cell 0
  have pAz := pA.lt
  go_wp2_with fail
  refine (toBook_any w1 A m c R ((hd.below hB1).more hB1.size) hm2 HN.out).mono ?_
  rintro e w2 ⟨g2, G2, rfl, cop2, low2, hb2⟩
  clear pAq pAz
  have hs2 := hb2.size
  replace pA := pA.below hb2 pA.lt
  have hB2 : Below w.heap.size w w2 := hB1.trans (hb2.mono (by have := hB1.size; omega))
  have hg2 := cop2.rd hm2 HN.out
  have pAq : w2.cell? ⟨w.heap.size, 0, none⟩ = some (.slice A m c) := pA.cell 0
  have pAz := pA.lt
  go_wp2_with fail
  refine (CS w2 g2 G2 hg2).mono ?_
  rintro e w3 ⟨B, cB, rfl, ownW, hb3⟩
  clear pAq pAz
  have hs3 := hb3.size
  replace pA := pA.below hb3 pA.lt
  have hB3 : Below w.heap.size w w3 := hB2.trans (hb3.mono (by have := hB2.size; omega))
  have hW := RdI.own ownW (by omega)
  have hW3 : RdI w3 w3.heap.size B k (fun i => xs.getD i 0) := hW
  have hzA : w.heap.size < w3.heap.size := pA.lt
  clear ownW hg2 cop2 CS hb2 low2 hb3
  have pAq : w3.cell? ⟨w.heap.size, 0, none⟩ = some (.slice A m c) := pA.cell 0
  have pAz := pA.lt
  go_wp2_with fail
  refine (toBook_any w3 A m c R ((hd.below hB3).more hB3.size) hm2 HN.out).mono ?_
  rintro e w4 ⟨g4, G4, rfl, cop4, low4, hb4⟩
  clear pAq pAz
  have hs4 := hb4.size
  replace pA := pA.below hb4 pA.lt
  replace hW := (hW.below hb4).more hs4
  have hB4 : Below w.heap.size w w4 := hB3.trans (hb4.mono (by have := hB3.size; omega))
  have hg4 := cop4.rd hm2 HN.out
  have hw34 : w3.heap.size ≤ w4.heap.size := hb4.size
  have hgh : g4 < w4.heap.size := cop4.1.lt
  have hGh : ∀ i, i < m → G4 i < w4.heap.size := fun i hi => (cop4.2.1 i hi).2.lt
  replace hW3 := hW3.below hb4
  have HGH := Lib.hid hGh
  clear hGh hb4
  have hbx : Below w4.heap.size w4 (w4.alloc (.cells #[.slice (some ⟨g4, 0, none⟩) m m] 37)) := (Below.refl _ _).alloc (Nat.le_refl _) _
  have pX : Whole (w4.alloc (.cells #[.slice (some ⟨g4, 0, none⟩) m m] 37)) w4.heap.size 37 #[.slice (some ⟨g4, 0, none⟩) m m] := Whole.new _ _ _
  replace pA := pA.alloc (.cells #[.slice (some ⟨g4, 0, none⟩) m m] 37)
  replace hW := (hW.below hbx).more hbx.size
  replace cop4 := cop4.below hbx
  replace hg4 := (hg4.below hbx).more hbx.size
  replace hW3 := hW3.below (hbx.mono hw34)
  have hB5 : Below w.heap.size w _ := hB4.trans (hbx.mono hB4.size)
  obtain ⟨w5, hw5⟩ : ∃ v, v = (w4.alloc (.cells #[.slice (some ⟨g4, 0, none⟩) m m] 37)) := ⟨_, rfl⟩
  have hs45 : w4.heap.size < w5.heap.size := by rw [hw5]; simp
  rw [← hw5] at pX pA hW hW3 cop4 hg4 hB5
  obtain ⟨b5, hb5q⟩ : ∃ b, b = w4.heap.size := ⟨_, rfl⟩
  rw [← hb5q] at pX
  clear hbx
  have hb5l : b5 = w4.heap.size := hb5q
  have HB5 := Lib.hid hb5l
  clear hb5l
  go_upto_region 7 with fail
  rw [← hw5]
  rw [← hb5q]
  clear hw5 hb5q
  have pAq : w5.cell? ⟨w.heap.size, 0, none⟩ = some (.slice A m c) := pA.cell 0
  have pAz := pA.lt
  have pXq : w5.cell? ⟨b5, 0, none⟩ = some (.slice (some ⟨g4, 0, none⟩) m m) := pX.cell 0
  have pXz := pX.lt
  go_wp2_with fail
  refine (CI w5 g4 G4 hg4).mono ?_
  rintro e w6 ⟨D, cD, rfl, ownG, hb6⟩
  clear pAq pAz pXq pXz
  have hs6 := hb6.size
  replace pA := pA.below hb6 pA.lt
  replace pX := pX.below hb6 pX.lt
  replace hW := (hW.below hb6).more hs6
  replace hg4 := (hg4.below hb6).more hs6
  have hB6 : Below w.heap.size w w6 := hB5.trans (hb6.mono (by have := hB5.size; omega))
  replace cop4 := cop4.below hb6
  replace hW3 := hW3.below (hb6.mono (by omega))
  have ownG := ownG
  clear hb6
  have pAq : w6.cell? ⟨w.heap.size, 0, none⟩ = some (.slice A m c) := pA.cell 0
  have pAz := pA.lt
  have pXq : w6.cell? ⟨b5, 0, none⟩ = some (.slice (some ⟨g4, 0, none⟩) m m) := pX.cell 0
  have pXz := pX.lt
  go_wp2_with fail
  refine (eqInts w6 D B k k cD cB _ _ (RdI.own ownG (by omega)) hW ⟨rfl, fun _ _ => rfl⟩).mono ?_
  rintro e w7 ⟨rfl, hb7⟩
  clear pAq pAz pXq pXz
  have hs7 := hb7.size
  replace pA := pA.below hb7 pA.lt
  replace pX := pX.below hb7 pX.lt
  replace hW := (hW.below hb7).more hs7
  replace hg4 := (hg4.below hb7).more hs7
  replace ownG := ownG.kept (grown_of_below hb7 none) (Classical.em _)
  have hB7 : Below w.heap.size w w7 := hB6.trans (hb7.mono (by have := hB6.size; omega))
  replace cop4 := cop4.below hb7
  replace hW3 := hW3.below (hb7.mono (by omega))
  clear hb7
  have hd7 := hd.below hB7
  have hA7 := hB7.size
  have pAq : w7.cell? ⟨w.heap.size, 0, none⟩ = some (.slice A m c) := pA.cell 0
  have pAz := pA.lt
  have pXq : w7.cell? ⟨b5, 0, none⟩ = some (.slice (some ⟨g4, 0, none⟩) m m) := pX.cell 0
  have pXz := pX.lt
  go_wp2_with fail
  go_region_held3 (fun w' => w'.cell? ⟨w.heap.size, 0, none⟩ = some (.slice A m c) ∧ w'.cell? ⟨b5, 0, none⟩ = some (.slice (some ⟨g4, 0, none⟩) m m) ∧ w.heap.size < w'.heap.size ∧ b5 < w'.heap.size ∧ RdRu w' w.heap.size A m R ∧ RdRu w' w7.heap.size (some ⟨g4, 0, none⟩) m (mkR R G4) ∧ Below w.heap.size w w') (first | (with_reducible assumption) | (refine ⟨?_, ?_, ?_, ?_, ?_, ?_, ?_⟩ <;> first | (show RdRu _ _ _ _ _; assumption) | (with_reducible assumption) | omega | (simp [go_sem, *]; done) | (simp [*]; omega) | ((repeat (first | (with_reducible exact Below.refl _ _) | (with_reducible assumption) | (with_reducible refine Below.drew ?_) | (with_reducible refine below_drewN ?_ _) | ((with_reducible refine Below.setCell ?_ ?_ _); rotate_left; focus (first | (simp; done) | omega | (simp; omega))) | ((with_reducible refine Below.alloc ?_ ?_ _); rotate_left; focus (first | exact Nat.le_refl _ | omega | (simp; done) | (simp; omega))))); first | done | (simp [*]; done))))
    (first
    | (go_at_call 29; refine (toBook_any _ A m c R (RdRu.more (show RdRu w7.drew w.heap.size A m R from hd7) hB7.size) hm2 HN.out).mono ?_; rintro e w8 ⟨g8, G8, rfl, cop8, low8, hb8⟩; have hbl8 : Below w7.heap.size w7 w8 := ⟨hb8.os, hb8.tape, hb8.output, hb8.size, hb8.block⟩; obtain ⟨hc8, -⟩ := keepc hbl8; have hs8 := hbl8.size; have hg8 := cop8.rd hm2 HN.out; have hx8 : RdRu w8 w8.heap.size (some ⟨g4, 0, none⟩) m (mkR R G4) := (hg4.below hbl8).more hs8; have hS8 : ((fun w' => w'.cell? ⟨w.heap.size, 0, none⟩ = some (.slice A m c) ∧ w'.cell? ⟨b5, 0, none⟩ = some (.slice (some ⟨g4, 0, none⟩) m m) ∧ w.heap.size < w'.heap.size ∧ b5 < w'.heap.size ∧ RdRu w' w.heap.size A m R ∧ RdRu w' w7.heap.size (some ⟨g4, 0, none⟩) m (mkR R G4) ∧ Below w.heap.size w w')) w8 := ⟨by rw [hc8 _ _ (by omega)]; exact pAq, by rw [hc8 _ _ (by omega)]; exact pXq, by omega, by omega, hd7.below (hbl8.mono (by omega)), hg4.below hbl8, hB7.trans (hbl8.mono (by omega))⟩; clear hc8 hb8 low8 cop8)
    | (go_at_call 30; refine (eqBook_any _ _ _ m _ _ (mkR R G4) (mkR R G8) hx8 hg8 (fun _ _ => ⟨rfl, rfl, rfl⟩)).mono ?_; rintro e w9 ⟨rfl, hb9⟩; have hbl9 : Below w7.heap.size w7 w9 := hbl8.trans (hb9.mono (by omega)); obtain ⟨hc9, -⟩ := keepc hbl9; have hs9 := hbl9.size; have hS9 : ((fun w' => w'.cell? ⟨w.heap.size, 0, none⟩ = some (.slice A m c) ∧ w'.cell? ⟨b5, 0, none⟩ = some (.slice (some ⟨g4, 0, none⟩) m m) ∧ w.heap.size < w'.heap.size ∧ b5 < w'.heap.size ∧ RdRu w' w.heap.size A m R ∧ RdRu w' w7.heap.size (some ⟨g4, 0, none⟩) m (mkR R G4) ∧ Below w.heap.size w w')) w9 := ⟨by rw [hc9 _ _ (by omega)]; exact pAq, by rw [hc9 _ _ (by omega)]; exact pXq, by omega, by omega, hd7.below (hbl9.mono (by omega)), hg4.below hbl9, hB7.trans (hbl9.mono (by omega))⟩; clear hc9 hb9))
  clear pAq pAz pXq pXz hS8 hS9 hg8 hx8 hd7 hbl8
  replace pA := pA.below hbl9 pA.lt
  replace pX := pX.below hbl9 pX.lt
  replace hW := (hW.below hbl9).more hs9
  replace ownG := ownG.kept (grown_of_below hbl9 none) (Classical.em _)
  replace cop4 := cop4.below hbl9
  replace hW3 := hW3.below (hbl9.mono (by omega))
  have hB9 : Below w.heap.size w w9 := hB7.trans (hbl9.mono hA7)
  clear hbl9 hg4
  have pAq : w9.cell? ⟨w.heap.size, 0, none⟩ = some (.slice A m c) := pA.cell 0
  have pAz := pA.lt
  have pXq : w9.cell? ⟨b5, 0, none⟩ = some (.slice (some ⟨g4, 0, none⟩) m m) := pX.cell 0
  have pXz := pX.lt
  go_wp2_with fail
  refine (markBook w9 w3.heap.size w4.heap.size g4 m R G4 1 cop4 low4 hgh HGH.out (by have := hB9.size; have := HB5.out; omega) HWT.out (by omega) (by omega)).mono ?_
  rintro e w10 ⟨⟨s, rfl, hs0⟩, hm10⟩
  clear pAq pAz pXq pXz
  have hk0 : ¬ s < 0 := by omega
  have hs10 := hm10.1.size
  have hB10 : Below w.heap.size w w10 := hB9.trans (hm10.1.mono (by have := hB3.size; omega))
  replace ownG := Mid.own ownG hm10 (by omega)
  replace hW3 := hW3.below hm10.1
  replace hW := hW3.more (show w3.heap.size ≤ w10.heap.size by omega)
  replace pA := pA.below hm10.1 (by have := hB3.size; have := hzA; omega)
  clear hm10 cop4 pX
  have pAq : w10.cell? ⟨w.heap.size, 0, none⟩ = some (.slice A m c) := pA.cell 0
  have pAz := pA.lt
  go_wp2_with fail
  refine (eqInts w10 D B k k cD cB _ _ (RdI.own ownG (by omega)) hW ⟨rfl, fun _ _ => rfl⟩).mono ?_
  rintro e w11 ⟨rfl, hb11⟩
  have hs11 := hb11.size
  replace hW := (hW.below hb11).more hs11
  replace ownG := ownG.kept (grown_of_below hb11 none) (Classical.em _)
  have hB11 : Below w.heap.size w w11 := hB10.trans (hb11.mono (by have := hB10.size; omega))
  clear pAq pAz
  replace pA := pA.below hb11 pA.lt
  replace hW3 := hW3.below (hb11.mono (by omega))
  have pAq : w11.cell? ⟨w.heap.size, 0, none⟩ = some (.slice A m c) := pA.cell 0
  have pAz := pA.lt
  go_wp2_with fail
  refine (markInts w11 w5.heap.size D k cD _ 1 ownG (by omega) (by omega) (by omega)).mono ?_
  rintro e w12 ⟨rfl, ownM, hgr12⟩
  clear pAq pAz
  have hs12 := hgr12.size
  have hk12 : ¬ (1 : Int) + (k : Int) < 0 := by omega
  have hlo := fun q (hq : (Value.slice D k cD).ownBlock = some q) => (ownG.lt q hq).1
  have hB12 : Below w.heap.size w w12 := hB11.grown hgr12 hB11.size (fun q hq => by have := hlo q hq; have := hB5.size; omega)
  have hC12 : Below w5.heap.size w11 w12 := (Below.refl w5.heap.size w11).grown hgr12 (by omega) (fun q hq => hlo q hq)
  replace hW3 := hW3.below (hC12.mono (by omega))
  replace hW := hW3.more (show w3.heap.size ≤ w12.heap.size by omega)
  replace pA := pA.below hC12 (by have := hB5.size; have := hzA; omega)
  clear ownG hgr12 hlo hC12
  have pAq : w12.cell? ⟨w.heap.size, 0, none⟩ = some (.slice A m c) := pA.cell 0
  have pAz := pA.lt
  go_wp2_with fail
  refine (heldInts w12 _ D k cD 1 ownM (by omega) (by omega) (by omega)).mono ?_
  rintro e w' ⟨rfl, rfl⟩
  clear pAq pAz
  have pAq : w12.cell? ⟨w.heap.size, 0, none⟩ = some (.slice A m c) := pA.cell 0
  have pAz := pA.lt
  go_wp2_with fail
  refine (toBook_any w12 A m c R ((hd.below hB12).more hB12.size) hm2 HN.out).mono ?_
  rintro e w13 ⟨g13, G13, rfl, cop13, low13, hb13⟩
  have hs13 := hb13.size
  replace hW := (hW.below hb13).more hs13
  replace ownM := ownM.kept (grown_of_below hb13 none) (Classical.em _)
  have hB13 : Below w.heap.size w w13 := hB12.trans (hb13.mono (by have := hB12.size; omega))
  have hg13 := cop13.rd hm2 HN.out
  clear pAq pAz cop13
  replace pA := pA.below hb13 pA.lt
  replace hW3 := hW3.below (hb13.mono (by omega))
  have pAq : w13.cell? ⟨w.heap.size, 0, none⟩ = some (.slice A m c) := pA.cell 0
  have pAz := pA.lt
  go_wp2_with fail
  refine (CI w13 g13 G13 hg13).mono ?_
  rintro e w14 ⟨H, cH, rfl, ownH, hb14⟩
  have hs14 := hb14.size
  replace hW := (hW.below hb14).more hs14
  replace ownM := ownM.kept (grown_of_below hb14 none) (Classical.em _)
  have hB14 : Below w.heap.size w w14 := hB13.trans (hb14.mono (by have := hB13.size; omega))
  clear pAq pAz
  replace pA := pA.below hb14 pA.lt
  replace hW3 := hW3.below (hb14.mono (by omega))
  have pAq : w14.cell? ⟨w.heap.size, 0, none⟩ = some (.slice A m c) := pA.cell 0
  have pAz := pA.lt
  go_wp2_with fail
  refine (eqInts w14 H B k k cH cB _ _ (RdI.own ownH (by omega)) hW ⟨rfl, fun _ _ => rfl⟩).mono ?_
  rintro e w15 ⟨rfl, hb15⟩
  have hs15 := hb15.size
  replace hW := (hW.below hb15).more hs15
  replace ownM := ownM.kept (grown_of_below hb15 none) (Classical.em _)
  have hB15 : Below w.heap.size w w15 := hB14.trans (hb15.mono (by have := hB14.size; omega))
  clear pAq pAz
  replace pA := pA.below hb15 pA.lt
  replace hW3 := hW3.below (hb15.mono (by omega))
  have pAq : w15.cell? ⟨w.heap.size, 0, none⟩ = some (.slice A m c) := pA.cell 0
  have pAz := pA.lt
  go_wp2_with fail
  refine (heldInts w15 _ D k cD 1 ownM (by omega) (by omega) (by omega)).mono ?_
  rintro e w' ⟨rfl, rfl⟩
  clear pAq pAz
  go_wp2_with fail
  go_ret
  exact ⟨rfl, hB15⟩
end Go.Proofs.Ytjnckhdmaebfdaa
