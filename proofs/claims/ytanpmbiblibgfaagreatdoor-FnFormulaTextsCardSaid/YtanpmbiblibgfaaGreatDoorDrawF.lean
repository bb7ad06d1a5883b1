/- The formulas that a draw gives. Conditions: the cursor is whole. -/
import Derived.Test.YtanpmbiblibgfaaGreatDoorDraw
import Derived.Test.YtanpmbiblibgfaaGreatDoorGb
import Derived.Test.YtanpmbiblibgfaaGreatDoorFormOk
import Derived.Test.YtanpmbiblibgfaaGreatDoorSFrac3
import Derived.Test.YtanpmbiblibgfaaGreatDoorFracM
import Derived.Test.YtanpmbiblibgfaaGreatDoorPlaces
import Derived.Deep.DeepCutAuto
namespace Go.Proofs.YtanpmbiblibgfaaGreatDoor
open Go.RowKit

set_option linter.unusedVariables false
theorem grown_fresh {a b : World} {row : Option Nat} (h : a.grownBy b row) {p : Addr} (hp : a.heap.size ≤ p.block) (u : Value) : a.grownBy (b.setCell p u) row :=
  ⟨h.os, h.tape, h.output, by simpa [World.setCell] using h.size, fun i hi hn => (Below.heap_setCell b p u i (by omega)).trans (h.block i hi hn)⟩
theorem Cur.lt {w : World} {B g n c : Nat} {A : Option Addr} (h : Cur w B g A n c) : g < w.heap.size ∧ B ≤ g ∧ B ≤ w.heap.size := by
  obtain ⟨_, _, h1, _, _, h2, h3, _⟩ := h
  exact ⟨h1.lt, h2, h3⟩
/-- A cursor that was drawn from, and nothing else turned but what is new. -/
def Dr (w : World) (B g : Nat) (A : Option Addr) (n c : Nat) (w' : World) : Prop := Cur w' B g A n c ∧ w.grownBy w' (some g)
section
variable {w w1 w2 : World} {B g n c : Nat} {A : Option Addr}
theorem Dr.start (h : Cur w B g A n c) : Dr w B g A n c w := ⟨h, grown_refl _ _⟩
theorem Dr.draw (h : Dr w B g A n c w1) (hc : Cur w2 B g A n c) (hg : w1.grownBy w2 (some g)) : Dr w B g A n c w2 := ⟨hc, grown_trans h.2 hg⟩
theorem Dr.below (h : Dr w B g A n c w1) (hb : Below w1.heap.size w1 w2) : Dr w B g A n c w2 := ⟨h.1.grown (grown_of_below hb none) (by simp) (by simp), grown_trans h.2 (grown_of_below hb (some g))⟩
theorem Dr.alloc (h : Dr w B g A n c w1) (o : Obj) : Dr w B g A n c (w1.alloc o) := h.below ((Below.refl _ _).alloc (Nat.le_refl _) _)
theorem Dr.drew (h : Dr w B g A n c w1) : Dr w B g A n c w1.drew := h.below (Below.drew (Below.refl _ _))
theorem Dr.set (h : Dr w B g A n c w1) {p : Addr} (hp : w.heap.size ≤ p.block) (hne : p.block ≠ g) (hB : B ≤ w.heap.size) (u : Value) : Dr w B g A n c (w1.setCell p u) :=
  ⟨h.1.grown (row := some p.block) (grown_setCell (grown_refl _ _) rfl u) (by intro e; injection e with e; exact hne e.symm) (by intro k hk; injection hk with hk; omega), grown_fresh h.2 hp u⟩
theorem Dr.grown (h : Dr w B g A n c w1) {row : Option Nat} (hg : w1.grownBy w2 row) (hr : ∀ k, row = some k → w.heap.size ≤ k ∧ k ≠ g) (hB : B ≤ w.heap.size) : Dr w B g A n c w2 :=
  ⟨h.1.grown hg (by intro e; exact (hr g e.symm).2 rfl) (fun k hk => by have := (hr k hk).1; omega),
   ⟨hg.os.trans h.2.os, hg.tape.trans h.2.tape, hg.output.trans h.2.output, Nat.le_trans h.2.size hg.size, fun i hi hn => (hg.block i (Nat.lt_of_lt_of_le hi h.2.size) (by intro e; have := (hr i e.symm).1; omega)).trans (h.2.block i hi hn)⟩⟩
end

set_option maxRecDepth 4000 in
set_option maxHeartbeats 6400000 in
theorem sNode8 (w : World) (B g : Nat) (A : Option Addr) (n c : Nat) (at0 : Nat) (hat : at0 ≤ 30) (hc : Cur w B g A n c) :
    Calls Tryz.prog 21 #[.pointer (some ⟨g, 0, none⟩), .int .i64 (at0 : Int)] w fun e w' => ∃ s : No, e = .returned s.val ∧ nodeB s (at0 : Int) = true ∧ Dr w B g A n c w' := by
  have hBw := hc.lt.2.2
  have hgl := hc.lt.1
  have dr0 : Dr w B g A n c (w.alloc (.cells #[.int .i64 0, .int .i64 0, .int .i64 0, .int .i64 0, .int .i64 0, .int .i64 0] 46)) := (Dr.start hc).alloc _
  have pR0 : Whole (w.alloc (.cells #[.int .i64 0, .int .i64 0, .int .i64 0, .int .i64 0, .int .i64 0, .int .i64 0] 46)) w.heap.size 46 #[.int .i64 0, .int .i64 0, .int .i64 0, .int .i64 0, .int .i64 0, .int .i64 0] := Whole.new _ _ _
  go_enter Tryz.func21, Tryz.ntmps21
  go_wp2_with fail
  refine (sBelow _ B g A n c 12 (by omega) dr0.1).mono ?_
  rintro e w1 ⟨x1, rfl, ⟨lx, vx, -⟩, hc1, hg1⟩
  have vx2 := vx (by omega)
  have pR := pR0.grown hg1 (by intro e; injection e with e; omega)
  have dr := dr0.draw hc1 hg1
  clear vx dr0 pR0 hc1 hg1
  have e1 : IntKind.i64.wrap (1 + x1) = 1 + x1 := IntWalk.i64_in _ ⟨by omega, by omega⟩
  have e2 : IntKind.i64.wrap (1 + x1 - 7) = 1 + x1 - 7 := IntWalk.i64_in _ ⟨by omega, by omega⟩
  go_upto_if 12 with fail
  go_cut [5] (fun s5 wx => ∃ K : Int, s5 = .int .i64 K ∧ 1 ≤ K ∧ K ≤ 9 ∧ Whole wx w.heap.size 46 #[.int .i64 0, .int .i64 0, .int .i64 0, .int .i64 0, .int .i64 0, .int .i64 0] ∧ Dr w B g A n c wx)
  case first =>
    by_cases h9 : 9 < 1 + x1
    · go_wp2_with fail
      go_meet
      exact ⟨_, rfl, by omega, by omega, pR, dr⟩
    · go_wp2_with fail
      go_meet
      exact ⟨_, rfl, by omega, by omega, pR, dr⟩
  case rest =>
    clear pR dr e1 e2
    obtain ⟨K0, rfl, hk1, hk9, pR, dr⟩ := hcut
    have em : K0.tmod 2 = K0 % 2 := Int.tmod_eq_emod_of_nonneg (by omega)
    have e3 : IntKind.i64.wrap (1 + K0 % 2) = 1 + K0 % 2 := IntWalk.i64_in _ ⟨by omega, by omega⟩
    go_upto_if 16 with fail
    go_cut [5] (fun s5 wx => ∃ K : Int, s5 = .int .i64 K ∧ 1 ≤ K ∧ K ≤ 9 ∧ (at0 = 0 → K ≤ 2) ∧ Whole wx w.heap.size 46 #[.int .i64 0, .int .i64 0, .int .i64 0, .int .i64 0, .int .i64 0, .int .i64 0] ∧ Dr w B g A n c wx)
    case first =>
      by_cases h0 : at0 = 0
      · have ta : ((at0 : Int) == 0) = true := by simp; omega
        go_wp2_with fail
        go_meet
        exact ⟨_, rfl, by omega, by omega, fun _ => by omega, pR, dr⟩
      · have ta : ((at0 : Int) == 0) = false := by simp; omega
        go_wp2_with fail
        go_meet
        exact ⟨_, rfl, by omega, by omega, fun h => absurd h h0, pR, dr⟩
    case rest =>
      clear pR dr em e3
      obtain ⟨K, rfl, hK1, hK9, hK0, pR, dr⟩ := hcut
      clear hk1 hk9 K0 lx vx2 x1
      have HK0 := Lib.hid hK0
      clear hK0
      skip
      by_cases k1 : K = 1
      · have HKK : Hid (K = 1) := Lib.hid (by omega)
        have ht : ¬ (K == 1) = false := by simp [k1]
        clear ht
        have b1 : (K == 1) = true := by simp; omega
        clear k1
        have r0 : wc.cell? ⟨w.heap.size, 0, none⟩ = some (.int .i64 0) := pR.cell 0
        have r1 : wc.cell? ⟨w.heap.size, 1, none⟩ = some (.int .i64 0) := pR.cell 1
        have r2 : wc.cell? ⟨w.heap.size, 2, none⟩ = some (.int .i64 0) := pR.cell 2
        have r3 : wc.cell? ⟨w.heap.size, 3, none⟩ = some (.int .i64 0) := pR.cell 3
        have r4 : wc.cell? ⟨w.heap.size, 4, none⟩ = some (.int .i64 0) := pR.cell 4
        have r5 : wc.cell? ⟨w.heap.size, 5, none⟩ = some (.int .i64 0) := pR.cell 5
        have f0 := pR.free 0
        have f1 := pR.free 1
        have f2 := pR.free 2
        have f3 := pR.free 3
        have f4 := pR.free 4
        have f5 := pR.free 5
        have hgw := dr.1.lt.1
        go_wp2_with fail
        refine (sBelow _ B g A n c 41 (by omega) dr.1).mono ?_
        rintro e w2 ⟨y1, rfl, ⟨ly1, vy1, -⟩, hc2, hg2⟩
        clear r0 f0 r1 f1 r2 f2 r3 f3 r4 f4 r5 f5 hgw
        replace dr := dr.draw hc2 hg2
        replace pR := pR.grown hg2 (by intro e; injection e with e; omega)
        clear hc2 hg2
        have r0 : w2.cell? ⟨w.heap.size, 0, none⟩ = some (.int .i64 0) := pR.cell 0
        have r1 : w2.cell? ⟨w.heap.size, 1, none⟩ = some (.int .i64 0) := pR.cell 1
        have r2 : w2.cell? ⟨w.heap.size, 2, none⟩ = some (.int .i64 0) := pR.cell 2
        have r3 : w2.cell? ⟨w.heap.size, 3, none⟩ = some (.int .i64 0) := pR.cell 3
        have r4 : w2.cell? ⟨w.heap.size, 4, none⟩ = some (.int .i64 0) := pR.cell 4
        have r5 : w2.cell? ⟨w.heap.size, 5, none⟩ = some (.int .i64 0) := pR.cell 5
        have f0 := pR.free 0
        have f1 := pR.free 1
        have f2 := pR.free 2
        have f3 := pR.free 3
        have f4 := pR.free 4
        have f5 := pR.free 5
        have hgw := dr.1.lt.1
        go_wp2_with fail
        refine (sBelow _ B g A n c 6 (by omega) dr.1).mono ?_
        rintro e w3 ⟨y2, rfl, ⟨ly2, vy2, -⟩, hc3, hg3⟩
        clear r0 f0 r1 f1 r2 f2 r3 f3 r4 f4 r5 f5 hgw
        replace dr := dr.draw hc3 hg3
        replace pR := pR.grown hg3 (by intro e; injection e with e; omega)
        clear hc3 hg3
        have vy1b := vy1 (by omega)
        have vy2b := vy2 (by omega)
        clear vy1 vy2
        obtain ⟨p, q, eR, okR, -, -, -, -⟩ := redL_parts (n := y1 - 10) (d := 1 + y2) (by omega) (by omega) (by omega) (by omega)
        have hN : fracNewL (y1 - 10) (1 + y2) = some (p, q) := by rw [fracNewL, if_pos (by simp [inB]; omega)]; exact eR
        have CC := fun (v : World) => sFracNew (y1 - 10) (1 + y2) v
        rw [hN] at CC
        simp only [vOpt, oN_some, oD_some, oB_some] at CC
        have e3 : IntKind.i64.wrap (y1 - 10) = y1 - 10 := IntWalk.i64_in _ ⟨by omega, by omega⟩
        have e4 : IntKind.i64.wrap (1 + y2) = 1 + y2 := IntWalk.i64_in _ ⟨by omega, by omega⟩
        clear hN eR
        have r0 : w3.cell? ⟨w.heap.size, 0, none⟩ = some (.int .i64 0) := pR.cell 0
        have r1 : w3.cell? ⟨w.heap.size, 1, none⟩ = some (.int .i64 0) := pR.cell 1
        have r2 : w3.cell? ⟨w.heap.size, 2, none⟩ = some (.int .i64 0) := pR.cell 2
        have r3 : w3.cell? ⟨w.heap.size, 3, none⟩ = some (.int .i64 0) := pR.cell 3
        have r4 : w3.cell? ⟨w.heap.size, 4, none⟩ = some (.int .i64 0) := pR.cell 4
        have r5 : w3.cell? ⟨w.heap.size, 5, none⟩ = some (.int .i64 0) := pR.cell 5
        have f0 := pR.free 0
        have f1 := pR.free 1
        have f2 := pR.free 2
        have f3 := pR.free 3
        have f4 := pR.free 4
        have f5 := pR.free 5
        have hgw := dr.1.lt.1
        go_wp2_with fail
        refine (CC _).mono ?_
        rintro e w9 ⟨rfl, hb9⟩
        clear r0 f0 r1 f1 r2 f2 r3 f3 r4 f4 r5 f5 hgw
        replace dr := dr.below hb9
        replace pR := pR.below hb9 pR.lt
        clear hb9 CC
        have hsz := pR.lt
        have hnz : ¬ w9.heap.size = w.heap.size := by omega
        have hnz2 : ¬ w.heap.size = w9.heap.size := by omega
        have r0 : w9.cell? ⟨w.heap.size, 0, none⟩ = some (.int .i64 0) := pR.cell 0
        have r1 : w9.cell? ⟨w.heap.size, 1, none⟩ = some (.int .i64 0) := pR.cell 1
        have r2 : w9.cell? ⟨w.heap.size, 2, none⟩ = some (.int .i64 0) := pR.cell 2
        have r3 : w9.cell? ⟨w.heap.size, 3, none⟩ = some (.int .i64 0) := pR.cell 3
        have r4 : w9.cell? ⟨w.heap.size, 4, none⟩ = some (.int .i64 0) := pR.cell 4
        have r5 : w9.cell? ⟨w.heap.size, 5, none⟩ = some (.int .i64 0) := pR.cell 5
        have f0 := pR.free 0
        have f1 := pR.free 1
        have f2 := pR.free 2
        have f3 := pR.free 3
        have f4 := pR.free 4
        have f5 := pR.free 5
        have hgw := dr.1.lt.1
        have hne : ¬ w.heap.size = g := by omega
        go_wp2_with fail
        refine bodyPost_ret (v := No.val ⟨K, 0, 0, 0, p, q⟩) (by simp [results, Tryz.results21, go_sem, r0, r1, r2, r3, r4, r5, hsz]) rfl ⟨⟨K, 0, 0, 0, p, q⟩, rfl, (by rw [nodeB, if_pos HKK.out]; simp [okR]), ?_⟩
        · with_reducible exact ((((((dr.set (Nat.le_refl _) hne hBw _).set (Nat.le_refl _) hne hBw _).set (Nat.le_refl _) hne hBw _).set (Nat.le_refl _) hne hBw _).set (Nat.le_refl _) hne hBw _).set (Nat.le_refl _) hne hBw _).alloc _
      · by_cases k2 : K = 2
        · have HKK : Hid (K = 2) := Lib.hid (by omega)
          have b1 : (K == 1) = false := by simp; omega
          have b2 : (K == 2) = true := by simp; omega
          clear k1 k2
          have r0 : wc.cell? ⟨w.heap.size, 0, none⟩ = some (.int .i64 0) := pR.cell 0
          have r1 : wc.cell? ⟨w.heap.size, 1, none⟩ = some (.int .i64 0) := pR.cell 1
          have r2 : wc.cell? ⟨w.heap.size, 2, none⟩ = some (.int .i64 0) := pR.cell 2
          have r3 : wc.cell? ⟨w.heap.size, 3, none⟩ = some (.int .i64 0) := pR.cell 3
          have r4 : wc.cell? ⟨w.heap.size, 4, none⟩ = some (.int .i64 0) := pR.cell 4
          have r5 : wc.cell? ⟨w.heap.size, 5, none⟩ = some (.int .i64 0) := pR.cell 5
          have f0 := pR.free 0
          have f1 := pR.free 1
          have f2 := pR.free 2
          have f3 := pR.free 3
          have f4 := pR.free 4
          have f5 := pR.free 5
          have hgw := dr.1.lt.1
          go_wp2_with fail
          refine (sBelow _ B g A n c 8 (by omega) dr.1).mono ?_
          rintro e w2 ⟨y1, rfl, ⟨ly1, vy1, -⟩, hc2, hg2⟩
          clear r0 f0 r1 f1 r2 f2 r3 f3 r4 f4 r5 f5 hgw
          replace dr := dr.draw hc2 hg2
          replace pR := pR.grown hg2 (by intro e; injection e with e; omega)
          clear hc2 hg2
          have vy1b := vy1 (by omega)
          clear vy1
          have r0 : w2.cell? ⟨w.heap.size, 0, none⟩ = some (.int .i64 0) := pR.cell 0
          have r1 : w2.cell? ⟨w.heap.size, 1, none⟩ = some (.int .i64 0) := pR.cell 1
          have r2 : w2.cell? ⟨w.heap.size, 2, none⟩ = some (.int .i64 0) := pR.cell 2
          have r3 : w2.cell? ⟨w.heap.size, 3, none⟩ = some (.int .i64 0) := pR.cell 3
          have r4 : w2.cell? ⟨w.heap.size, 4, none⟩ = some (.int .i64 0) := pR.cell 4
          have r5 : w2.cell? ⟨w.heap.size, 5, none⟩ = some (.int .i64 0) := pR.cell 5
          have f0 := pR.free 0
          have f1 := pR.free 1
          have f2 := pR.free 2
          have f3 := pR.free 3
          have f4 := pR.free 4
          have f5 := pR.free 5
          have hgw := dr.1.lt.1
          have hne : ¬ w.heap.size = g := by omega
          go_wp2_with fail
          refine bodyPost_ret (v := No.val ⟨K, y1, 0, 0, 0, 0⟩) (by simp [results, Tryz.results21, go_sem, r0, r1, r2, r3, r4, r5]) rfl ⟨⟨K, y1, 0, 0, 0, 0⟩, rfl, (by rw [nodeB, if_neg (show ¬ K = 1 by have := HKK.out; omega), if_pos HKK.out, inB_t ly1 (by omega)]; rfl), ?_⟩
          · with_reducible exact ((((((dr.set (Nat.le_refl _) hne hBw _).set (Nat.le_refl _) hne hBw _).set (Nat.le_refl _) hne hBw _).set (Nat.le_refl _) hne hBw _).set (Nat.le_refl _) hne hBw _).set (Nat.le_refl _) hne hBw _)
        · by_cases k9 : K = 9
          · have HKK : Hid (K = 9) := Lib.hid (by omega)
            have hap : (0 : Int) < at0 := by rcases Nat.eq_zero_or_pos at0 with h | h; (have := HK0.out h; omega); omega
            have b1 : (K == 1) = false := by simp; omega
            have b2 : (K == 2) = false := by simp; omega
            have b9 : (K == 9) = true := by simp; omega
            clear k9
            have r0 : wc.cell? ⟨w.heap.size, 0, none⟩ = some (.int .i64 0) := pR.cell 0
            have r1 : wc.cell? ⟨w.heap.size, 1, none⟩ = some (.int .i64 0) := pR.cell 1
            have r2 : wc.cell? ⟨w.heap.size, 2, none⟩ = some (.int .i64 0) := pR.cell 2
            have r3 : wc.cell? ⟨w.heap.size, 3, none⟩ = some (.int .i64 0) := pR.cell 3
            have r4 : wc.cell? ⟨w.heap.size, 4, none⟩ = some (.int .i64 0) := pR.cell 4
            have r5 : wc.cell? ⟨w.heap.size, 5, none⟩ = some (.int .i64 0) := pR.cell 5
            have f0 := pR.free 0
            have f1 := pR.free 1
            have f2 := pR.free 2
            have f3 := pR.free 3
            have f4 := pR.free 4
            have f5 := pR.free 5
            have hgw := dr.1.lt.1
            go_wp2_with fail
            refine (sBelow _ B g A n c (at0 : Int) (by omega) dr.1).mono ?_
            rintro e w2 ⟨y1, rfl, ⟨ly1, vy1, -⟩, hc2, hg2⟩
            clear r0 f0 r1 f1 r2 f2 r3 f3 r4 f4 r5 f5 hgw
            replace dr := dr.draw hc2 hg2
            replace pR := pR.grown hg2 (by intro e; injection e with e; omega)
            clear hc2 hg2
            have r0 : w2.cell? ⟨w.heap.size, 0, none⟩ = some (.int .i64 0) := pR.cell 0
            have r1 : w2.cell? ⟨w.heap.size, 1, none⟩ = some (.int .i64 0) := pR.cell 1
            have r2 : w2.cell? ⟨w.heap.size, 2, none⟩ = some (.int .i64 0) := pR.cell 2
            have r3 : w2.cell? ⟨w.heap.size, 3, none⟩ = some (.int .i64 0) := pR.cell 3
            have r4 : w2.cell? ⟨w.heap.size, 4, none⟩ = some (.int .i64 0) := pR.cell 4
            have r5 : w2.cell? ⟨w.heap.size, 5, none⟩ = some (.int .i64 0) := pR.cell 5
            have f0 := pR.free 0
            have f1 := pR.free 1
            have f2 := pR.free 2
            have f3 := pR.free 3
            have f4 := pR.free 4
            have f5 := pR.free 5
            have hgw := dr.1.lt.1
            go_wp2_with fail
            refine (sBelow _ B g A n c (at0 : Int) (by omega) dr.1).mono ?_
            rintro e w3 ⟨y2, rfl, ⟨ly2, vy2, -⟩, hc3, hg3⟩
            clear r0 f0 r1 f1 r2 f2 r3 f3 r4 f4 r5 f5 hgw
            replace dr := dr.draw hc3 hg3
            replace pR := pR.grown hg3 (by intro e; injection e with e; omega)
            clear hc3 hg3
            have r0 : w3.cell? ⟨w.heap.size, 0, none⟩ = some (.int .i64 0) := pR.cell 0
            have r1 : w3.cell? ⟨w.heap.size, 1, none⟩ = some (.int .i64 0) := pR.cell 1
            have r2 : w3.cell? ⟨w.heap.size, 2, none⟩ = some (.int .i64 0) := pR.cell 2
            have r3 : w3.cell? ⟨w.heap.size, 3, none⟩ = some (.int .i64 0) := pR.cell 3
            have r4 : w3.cell? ⟨w.heap.size, 4, none⟩ = some (.int .i64 0) := pR.cell 4
            have r5 : w3.cell? ⟨w.heap.size, 5, none⟩ = some (.int .i64 0) := pR.cell 5
            have f0 := pR.free 0
            have f1 := pR.free 1
            have f2 := pR.free 2
            have f3 := pR.free 3
            have f4 := pR.free 4
            have f5 := pR.free 5
            have hgw := dr.1.lt.1
            go_wp2_with fail
            refine (sBelow _ B g A n c (at0 : Int) (by omega) dr.1).mono ?_
            rintro e w4 ⟨y3, rfl, ⟨ly3, vy3, -⟩, hc4, hg4⟩
            clear r0 f0 r1 f1 r2 f2 r3 f3 r4 f4 r5 f5 hgw
            replace dr := dr.draw hc4 hg4
            replace pR := pR.grown hg4 (by intro e; injection e with e; omega)
            clear hc4 hg4
            have u1 := vy1 (by omega)
            have u2 := vy2 (by omega)
            have u3 := vy3 (by omega)
            clear vy1 vy2 vy3
            have r0 : w4.cell? ⟨w.heap.size, 0, none⟩ = some (.int .i64 0) := pR.cell 0
            have r1 : w4.cell? ⟨w.heap.size, 1, none⟩ = some (.int .i64 0) := pR.cell 1
            have r2 : w4.cell? ⟨w.heap.size, 2, none⟩ = some (.int .i64 0) := pR.cell 2
            have r3 : w4.cell? ⟨w.heap.size, 3, none⟩ = some (.int .i64 0) := pR.cell 3
            have r4 : w4.cell? ⟨w.heap.size, 4, none⟩ = some (.int .i64 0) := pR.cell 4
            have r5 : w4.cell? ⟨w.heap.size, 5, none⟩ = some (.int .i64 0) := pR.cell 5
            have f0 := pR.free 0
            have f1 := pR.free 1
            have f2 := pR.free 2
            have f3 := pR.free 3
            have f4 := pR.free 4
            have f5 := pR.free 5
            have hgw := dr.1.lt.1
            have hne : ¬ w.heap.size = g := by omega
            go_wp2_with fail
            refine bodyPost_ret (v := No.val ⟨K, y1, y2, y3, 0, 0⟩) (by simp [results, Tryz.results21, go_sem, r0, r1, r2, r3, r4, r5]) rfl ⟨⟨K, y1, y2, y3, 0, 0⟩, rfl, (by rw [nodeB, if_neg (show ¬ K = 1 by have := HKK.out; omega), if_neg (show ¬ K = 2 by have := HKK.out; omega), if_neg (show ¬ (3 ≤ K ∧ K ≤ 8) by have := HKK.out; omega), if_pos HKK.out]; simp [atB]; omega), ?_⟩
            · with_reducible exact ((((((dr.set (Nat.le_refl _) hne hBw _).set (Nat.le_refl _) hne hBw _).set (Nat.le_refl _) hne hBw _).set (Nat.le_refl _) hne hBw _).set (Nat.le_refl _) hne hBw _).set (Nat.le_refl _) hne hBw _)
          · have hk : 3 ≤ K ∧ K ≤ 8 := by omega
            have hap : (0 : Int) < at0 := by rcases Nat.eq_zero_or_pos at0 with h | h; (have := HK0.out h; omega); omega
            have b1 : (K == 1) = false := by simp; omega
            have b2 : (K == 2) = false := by simp; omega
            have b9 : (K == 9) = false := by simp; omega
            have r0 : wc.cell? ⟨w.heap.size, 0, none⟩ = some (.int .i64 0) := pR.cell 0
            have r1 : wc.cell? ⟨w.heap.size, 1, none⟩ = some (.int .i64 0) := pR.cell 1
            have r2 : wc.cell? ⟨w.heap.size, 2, none⟩ = some (.int .i64 0) := pR.cell 2
            have r3 : wc.cell? ⟨w.heap.size, 3, none⟩ = some (.int .i64 0) := pR.cell 3
            have r4 : wc.cell? ⟨w.heap.size, 4, none⟩ = some (.int .i64 0) := pR.cell 4
            have r5 : wc.cell? ⟨w.heap.size, 5, none⟩ = some (.int .i64 0) := pR.cell 5
            have f0 := pR.free 0
            have f1 := pR.free 1
            have f2 := pR.free 2
            have f3 := pR.free 3
            have f4 := pR.free 4
            have f5 := pR.free 5
            have hgw := dr.1.lt.1
            go_wp2_with fail
            refine (sBelow _ B g A n c (at0 : Int) (by omega) dr.1).mono ?_
            rintro e w2 ⟨y1, rfl, ⟨ly1, vy1, -⟩, hc2, hg2⟩
            clear r0 f0 r1 f1 r2 f2 r3 f3 r4 f4 r5 f5 hgw
            replace dr := dr.draw hc2 hg2
            replace pR := pR.grown hg2 (by intro e; injection e with e; omega)
            clear hc2 hg2
            have r0 : w2.cell? ⟨w.heap.size, 0, none⟩ = some (.int .i64 0) := pR.cell 0
            have r1 : w2.cell? ⟨w.heap.size, 1, none⟩ = some (.int .i64 0) := pR.cell 1
            have r2 : w2.cell? ⟨w.heap.size, 2, none⟩ = some (.int .i64 0) := pR.cell 2
            have r3 : w2.cell? ⟨w.heap.size, 3, none⟩ = some (.int .i64 0) := pR.cell 3
            have r4 : w2.cell? ⟨w.heap.size, 4, none⟩ = some (.int .i64 0) := pR.cell 4
            have r5 : w2.cell? ⟨w.heap.size, 5, none⟩ = some (.int .i64 0) := pR.cell 5
            have f0 := pR.free 0
            have f1 := pR.free 1
            have f2 := pR.free 2
            have f3 := pR.free 3
            have f4 := pR.free 4
            have f5 := pR.free 5
            have hgw := dr.1.lt.1
            go_wp2_with fail
            refine (sBelow _ B g A n c (at0 : Int) (by omega) dr.1).mono ?_
            rintro e w3 ⟨y2, rfl, ⟨ly2, vy2, -⟩, hc3, hg3⟩
            clear r0 f0 r1 f1 r2 f2 r3 f3 r4 f4 r5 f5 hgw
            replace dr := dr.draw hc3 hg3
            replace pR := pR.grown hg3 (by intro e; injection e with e; omega)
            clear hc3 hg3
            have u1 := vy1 (by omega)
            have u2 := vy2 (by omega)
            clear vy1 vy2
            have r0 : w3.cell? ⟨w.heap.size, 0, none⟩ = some (.int .i64 0) := pR.cell 0
            have r1 : w3.cell? ⟨w.heap.size, 1, none⟩ = some (.int .i64 0) := pR.cell 1
            have r2 : w3.cell? ⟨w.heap.size, 2, none⟩ = some (.int .i64 0) := pR.cell 2
            have r3 : w3.cell? ⟨w.heap.size, 3, none⟩ = some (.int .i64 0) := pR.cell 3
            have r4 : w3.cell? ⟨w.heap.size, 4, none⟩ = some (.int .i64 0) := pR.cell 4
            have r5 : w3.cell? ⟨w.heap.size, 5, none⟩ = some (.int .i64 0) := pR.cell 5
            have f0 := pR.free 0
            have f1 := pR.free 1
            have f2 := pR.free 2
            have f3 := pR.free 3
            have f4 := pR.free 4
            have f5 := pR.free 5
            have hgw := dr.1.lt.1
            have hne : ¬ w.heap.size = g := by omega
            go_wp2_with fail
            refine bodyPost_ret (v := No.val ⟨K, y1, y2, 0, 0, 0⟩) (by simp [results, Tryz.results21, go_sem, r0, r1, r2, r3, r4, r5]) rfl ⟨⟨K, y1, y2, 0, 0, 0⟩, rfl, (by rw [nodeB, if_neg (show ¬ K = 1 by omega), if_neg (show ¬ K = 2 by omega), if_pos hk]; simp [atB]; omega), ?_⟩
            · with_reducible exact ((((((dr.set (Nat.le_refl _) hne hBw _).set (Nat.le_refl _) hne hBw _).set (Nat.le_refl _) hne hBw _).set (Nat.le_refl _) hne hBw _).set (Nat.le_refl _) hne hBw _).set (Nat.le_refl _) hne hBw _)

theorem getD_old' {α : Type} (xs : List α) (x d : α) {i : Nat} (h : i < xs.length) : (xs ++ [x]).getD i d = xs.getD i d := by
  rw [List.getD_eq_getElem?_getD, List.getD_eq_getElem?_getD, List.getElem?_append_left h]
theorem getD_new' {α : Type} (xs : List α) (x d : α) {i : Nat} (h : i = xs.length) : (xs ++ [x]).getD i d = x := by
  subst h
  rw [List.getD_eq_getElem?_getD, List.getElem?_append_right (Nat.le_refl _)]
  simp
theorem no_cells_new (w : World) (xs : List Value) (t : TypeId) : ∀ j u, xs[j]? = some u → (w.alloc (.cells xs.toArray t)).cell? ((⟨w.heap.size, 0, none⟩ : Addr).add j) = some u := by
  intro j u hj
  have ha : Addr.add ⟨w.heap.size, 0, none⟩ j = ⟨w.heap.size, j, none⟩ := by unfold Addr.add; split <;> simp_all
  rw [ha, (Whole.new w t xs.toArray).cell j, List.getElem?_toArray, hj]
/-- Nodes that are good, each behind those before it. -/
def noChain (xs : List No) : Prop := ∀ i, i < xs.length → nodeB (xs.getD i No.zero) (i : Int) = true
theorem noChain.more {xs : List No} {s : No} (h : noChain xs) (hs : nodeB s (xs.length : Int) = true) : noChain (xs ++ [s]) := by
  intro i hi
  rw [List.length_append] at hi
  by_cases e : i < xs.length
  · rw [getD_old' xs s No.zero e]
    exact h i e
  · have e2 : i = xs.length := by simp at hi; omega
    rw [getD_new' xs s No.zero e2, e2]
    exact hs
theorem noChain.ok {xs : List No} (h : noChain xs) (h1 : 1 ≤ xs.length) (h2 : xs.length ≤ 30) : formB xs.length (fun i => xs.getD i No.zero) = true := by
  rw [formB, allUp_mk (P := fun i => nodeB (xs.getD i No.zero) (i : Int)) h, inB_t (by omega) (by omega)]
  rfl

set_option maxRecDepth 4000 in
set_option maxHeartbeats 1600000 in
theorem sFormula8 (w : World) (B g : Nat) (A : Option Addr) (n c : Nat) (hc : Cur w B g A n c) :
    Calls Tryz.prog 11 #[.pointer (some ⟨g, 0, none⟩)] w fun e w' => ∃ (v : Value) (k : Nat) (xs : List No), e = .returned v ∧ 1 ≤ k ∧ k ≤ 9 ∧ xs.length = k ∧ formB k (fun i => xs.getD i No.zero) = true ∧ w'.ownsRow w.heap.size 46 6 v k (xs.flatMap No.cells) ∧ Dr w B g A n c w' := by
  obtain ⟨i0, hi, hz0, hz1, hz2⟩ := info_parts no_inf
  have hBw := hc.lt.2.2
  have hgl := hc.lt.1
  go_enter Tryz.func11, Tryz.ntmps11
  go_wp2_with fail
  go_loopw [3, 4] (fun v i wr => ∃ (k : Nat) (xs : List No), k ≤ 9 ∧ i = .int .i64 k ∧ Hid (xs.length = k ∧ noChain xs) ∧ wr.ownsRow w.heap.size 46 6 v k (xs.flatMap No.cells) ∧ Dr w B g A n c wr) (fun _ i _ => 10 - (intOf i).toNat)
  case atStart => exact ⟨0, [], by omega, rfl, Lib.hid ⟨rfl, fun i hi => absurd hi (Nat.not_lt_zero i)⟩, own_empty _ _ _ _ (Nat.le_refl _), (Dr.start hc).alloc _⟩
  case round =>
    obtain ⟨k, xs, hk, rfl, hok, hown, dr⟩ := hrel
    have e1 : IntKind.i64.wrap ((k : Int) + 1) = (k : Int) + 1 := IntWalk.i64_in _ ⟨by omega, by omega⟩
    go_wp2_with fail
    refine (sBelow _ B g A n c 9 (by omega) dr.1).mono ?_
    rintro e w2 ⟨x, rfl, ⟨lx, vx, -⟩, hc2, hg2⟩
    have ux := vx (by omega)
    clear vx
    replace hown := own_drawn hown dr.1 hg2 (by decide)
    replace dr := dr.draw hc2 hg2
    clear hc2 hg2
    have e2 : IntKind.i64.wrap (1 + x) = 1 + x := IntWalk.i64_in _ ⟨by omega, by omega⟩
    by_cases hlt : (k : Int) < 1 + x
    · go_wp2_with fail
      refine (sNode8 _ B g A n c k (by omega) dr.1).mono ?_
      rintro e w3 ⟨s, rfl, hs, dr3⟩
      have hs3 := Nat.le_trans dr.2.size dr3.2.size
      replace hown := own_drawn hown dr.1 dr3.2 (by decide)
      replace dr := dr.draw dr3.1 dr3.2
      clear dr3
      go_wp2_with (at_builtin; refine wpList_append_own_at _ rfl _ _ 24 rfl w.heap.size 46 i0 (.agg #[.int .i64 0, .int .i64 0, .int .i64 0, .int .i64 0, .int .i64 0, .int .i64 0]) 6 48 Tryz.underlying24 hi hz0 hz1 hz2 rfl (by decide) _ _ _ rfl (hown.alloc _) ⟨w3.heap.size, 0, none⟩ 1 1 [.int .i64 s.k, .int .i64 s.a, .int .i64 s.b, .int .i64 s.c, .int .i64 s.p, .int .i64 s.q] rfl rfl (no_cells_new _ [.int .i64 s.k, .int .i64 s.a, .int .i64 s.b, .int .i64 s.c, .int .i64 s.p, .int .i64 s.q] _) ?c2 ?c3 ?c4 ?c5 ?_)
      case c2 => (first | rfl | (intro u hu; simp at hu; rcases hu with rfl | rfl | rfl | rfl | rfl | rfl <;> rfl))
      case c3 => unfold maxLen; omega
      case c4 => omega
      case c5 => simp; omega
      intro v' w5 hown5 hg5 _ hat5
      have hgt := dr.1.lt.1
      replace dr := (dr.alloc (.cells #[.int .i64 s.k, .int .i64 s.a, .int .i64 s.b, .int .i64 s.c, .int .i64 s.p, .int .i64 s.q] 46)).grown hg5 (fun q hq => ⟨(hown.lt q hq).1, by have := (hown.lt q hq).1; omega⟩) hBw
      go_wp2
      go_roundw
      case rel =>
        refine ⟨k + 1, xs ++ [s], by omega, by go_num, Lib.hid ⟨by rw [List.length_append, hok.out.1]; rfl, hok.out.2.more (by rw [hok.out.1]; exact hs)⟩, ?_, dr⟩
        rw [List.flatMap_append]
        exact hown5
      case measure => simp [intOf]; omega
    · go_wp2_with fail
      go_ret
      have hl := hok.out.1
      exact ⟨_, k, xs, rfl, by omega, hk, hl, by have := hok.out.2.ok (by omega) (by omega); rw [hl] at this; exact this, hown, dr⟩
end Go.Proofs.YtanpmbiblibgfaaGreatDoor
