/- The rules and the book that a draw gives. Conditions: the cursor is whole. -/
import Derived.Test.YtjnckhdmaebfdaaDrawF
import Derived.Test.YtjnckhdmaebfdaaAddR
import Derived.Test.YtjnckhdmaebfdaaPick
import Derived.Deep.RegionWith
namespace Go.Proofs.Ytjnckhdmaebfdaa
open Go.RowKit

set_option linter.unusedVariables false
/-- A rule that a draw gives. -/
def drawnR (r : Rn) : Prop := ruleB r.s r.n r.N = true ∧ 1 ≤ r.s.nm ∧ r.s.nm ≤ 3 ∧ 0 ≤ r.s.ra ∧ r.s.ra ≤ 3 ∧ 1 ≤ r.n ∧ r.n ≤ 9

set_option maxRecDepth 4000 in
set_option maxHeartbeats 3200000 in
theorem sOne (w : World) (B g : Nat) (A : Option Addr) (n c : Nat) (hc : Cur w B g A n c) :
    Calls Try.prog 88 #[.pointer (some ⟨g, 0, none⟩)] w fun e w' => ∃ r : Rn, e = .returned r.val ∧ drawnR r ∧ OwR w' w.heap.size 65 6 (nsl r) r.n (noAt r.N) ∧ Dr w B g A n c w' := by
  have hBw := hc.lt.2.2
  have hgl := hc.lt.1
  obtain ⟨w0, hw0⟩ : ∃ v, v = w.alloc (.cells #[.int .i64 0, .int .i64 0, .int .i64 0, .int .i64 0, .int .i64 0, .int .i64 0, .slice none 0 0] 29) := ⟨_, rfl⟩
  have dr : Dr w B g A n c w0 := by rw [hw0]; exact (Dr.start hc).alloc _
  have pR : Whole w0 w.heap.size 29 #[.int .i64 0, .int .i64 0, .int .i64 0, .int .i64 0, .int .i64 0, .int .i64 0, .slice none 0 0] := by rw [hw0]; exact Whole.new _ _ _
  go_enter Try.func88, Try.ntmps88
  go_upto_region 1 with fail
  rw [← hw0]
  clear hw0
  have pRq0 : w0.cell? ⟨w.heap.size, 0, none⟩ = some (.int .i64 0) := pR.cell 0
  have pRq1 : w0.cell? ⟨w.heap.size, 1, none⟩ = some (.int .i64 0) := pR.cell 1
  have pRq2 : w0.cell? ⟨w.heap.size, 2, none⟩ = some (.int .i64 0) := pR.cell 2
  have pRq3 : w0.cell? ⟨w.heap.size, 3, none⟩ = some (.int .i64 0) := pR.cell 3
  have pRq4 : w0.cell? ⟨w.heap.size, 4, none⟩ = some (.int .i64 0) := pR.cell 4
  have pRq5 : w0.cell? ⟨w.heap.size, 5, none⟩ = some (.int .i64 0) := pR.cell 5
  have pRq6 : w0.cell? ⟨w.heap.size, 6, none⟩ = some (.slice none 0 0) := pR.cell 6
  have pRz := pR.lt
  have pRf0 := pR.free 0
  have pRf1 := pR.free 1
  have pRf2 := pR.free 2
  have pRf3 := pR.free 3
  have pRf4 := pR.free 4
  have pRf5 := pR.free 5
  have pRf6 := pR.free 6
  go_wp2_with fail
  refine (sBelow _ B g A n c 80 (by omega) dr.1).mono ?_
  rintro e w1 ⟨x1, rfl, ⟨lx1, vx1, -⟩, hc1, hg1⟩
  have ux1 := vx1 (by omega)
  clear vx1
  clear pRq0 pRf0 pRq1 pRf1 pRq2 pRf2 pRq3 pRf3 pRq4 pRf4 pRq5 pRf5 pRq6 pRf6 pRz
  replace pR := pR.grown hg1 (by intro e; injection e with e; omega)
  replace dr := dr.draw hc1 hg1
  clear hc1 hg1
  have pRq0 : w1.cell? ⟨w.heap.size, 0, none⟩ = some (.int .i64 0) := pR.cell 0
  have pRq1 : w1.cell? ⟨w.heap.size, 1, none⟩ = some (.int .i64 0) := pR.cell 1
  have pRq2 : w1.cell? ⟨w.heap.size, 2, none⟩ = some (.int .i64 0) := pR.cell 2
  have pRq3 : w1.cell? ⟨w.heap.size, 3, none⟩ = some (.int .i64 0) := pR.cell 3
  have pRq4 : w1.cell? ⟨w.heap.size, 4, none⟩ = some (.int .i64 0) := pR.cell 4
  have pRq5 : w1.cell? ⟨w.heap.size, 5, none⟩ = some (.int .i64 0) := pR.cell 5
  have pRq6 : w1.cell? ⟨w.heap.size, 6, none⟩ = some (.slice none 0 0) := pR.cell 6
  have pRz := pR.lt
  have pRf0 := pR.free 0
  have pRf1 := pR.free 1
  have pRf2 := pR.free 2
  have pRf3 := pR.free 3
  have pRf4 := pR.free 4
  have pRf5 := pR.free 5
  have pRf6 := pR.free 6
  go_wp2_with fail
  refine (sBelow _ B g A n c 3 (by omega) dr.1).mono ?_
  rintro e w2 ⟨x2, rfl, ⟨lx2, vx2, -⟩, hc2, hg2⟩
  have ux2 := vx2 (by omega)
  clear vx2
  clear pRq0 pRf0 pRq1 pRf1 pRq2 pRf2 pRq3 pRf3 pRq4 pRf4 pRq5 pRf5 pRq6 pRf6 pRz
  replace pR := pR.grown hg2 (by intro e; injection e with e; omega)
  replace dr := dr.draw hc2 hg2
  clear hc2 hg2
  have pRq0 : w2.cell? ⟨w.heap.size, 0, none⟩ = some (.int .i64 0) := pR.cell 0
  have pRq1 : w2.cell? ⟨w.heap.size, 1, none⟩ = some (.int .i64 0) := pR.cell 1
  have pRq2 : w2.cell? ⟨w.heap.size, 2, none⟩ = some (.int .i64 0) := pR.cell 2
  have pRq3 : w2.cell? ⟨w.heap.size, 3, none⟩ = some (.int .i64 0) := pR.cell 3
  have pRq4 : w2.cell? ⟨w.heap.size, 4, none⟩ = some (.int .i64 0) := pR.cell 4
  have pRq5 : w2.cell? ⟨w.heap.size, 5, none⟩ = some (.int .i64 0) := pR.cell 5
  have pRq6 : w2.cell? ⟨w.heap.size, 6, none⟩ = some (.slice none 0 0) := pR.cell 6
  have pRz := pR.lt
  have pRf0 := pR.free 0
  have pRf1 := pR.free 1
  have pRf2 := pR.free 2
  have pRf3 := pR.free 3
  have pRf4 := pR.free 4
  have pRf5 := pR.free 5
  have pRf6 := pR.free 6
  go_wp2_with fail
  refine (sBelow _ B g A n c 80 (by omega) dr.1).mono ?_
  rintro e w3 ⟨x3, rfl, ⟨lx3, vx3, -⟩, hc3, hg3⟩
  have ux3 := vx3 (by omega)
  clear vx3
  clear pRq0 pRf0 pRq1 pRf1 pRq2 pRf2 pRq3 pRf3 pRq4 pRf4 pRq5 pRf5 pRq6 pRf6 pRz
  replace pR := pR.grown hg3 (by intro e; injection e with e; omega)
  replace dr := dr.draw hc3 hg3
  clear hc3 hg3
  have pRq0 : w3.cell? ⟨w.heap.size, 0, none⟩ = some (.int .i64 0) := pR.cell 0
  have pRq1 : w3.cell? ⟨w.heap.size, 1, none⟩ = some (.int .i64 0) := pR.cell 1
  have pRq2 : w3.cell? ⟨w.heap.size, 2, none⟩ = some (.int .i64 0) := pR.cell 2
  have pRq3 : w3.cell? ⟨w.heap.size, 3, none⟩ = some (.int .i64 0) := pR.cell 3
  have pRq4 : w3.cell? ⟨w.heap.size, 4, none⟩ = some (.int .i64 0) := pR.cell 4
  have pRq5 : w3.cell? ⟨w.heap.size, 5, none⟩ = some (.int .i64 0) := pR.cell 5
  have pRq6 : w3.cell? ⟨w.heap.size, 6, none⟩ = some (.slice none 0 0) := pR.cell 6
  have pRz := pR.lt
  have pRf0 := pR.free 0
  have pRf1 := pR.free 1
  have pRf2 := pR.free 2
  have pRf3 := pR.free 3
  have pRf4 := pR.free 4
  have pRf5 := pR.free 5
  have pRf6 := pR.free 6
  go_wp2_with fail
  refine (sBelow _ B g A n c 4 (by omega) dr.1).mono ?_
  rintro e w4 ⟨x4, rfl, ⟨lx4, vx4, -⟩, hc4, hg4⟩
  have ux4 := vx4 (by omega)
  clear vx4
  clear pRq0 pRf0 pRq1 pRf1 pRq2 pRf2 pRq3 pRf3 pRq4 pRf4 pRq5 pRf5 pRq6 pRf6 pRz
  replace pR := pR.grown hg4 (by intro e; injection e with e; omega)
  replace dr := dr.draw hc4 hg4
  clear hc4 hg4
  have pRq0 : w4.cell? ⟨w.heap.size, 0, none⟩ = some (.int .i64 0) := pR.cell 0
  have pRq1 : w4.cell? ⟨w.heap.size, 1, none⟩ = some (.int .i64 0) := pR.cell 1
  have pRq2 : w4.cell? ⟨w.heap.size, 2, none⟩ = some (.int .i64 0) := pR.cell 2
  have pRq3 : w4.cell? ⟨w.heap.size, 3, none⟩ = some (.int .i64 0) := pR.cell 3
  have pRq4 : w4.cell? ⟨w.heap.size, 4, none⟩ = some (.int .i64 0) := pR.cell 4
  have pRq5 : w4.cell? ⟨w.heap.size, 5, none⟩ = some (.int .i64 0) := pR.cell 5
  have pRq6 : w4.cell? ⟨w.heap.size, 6, none⟩ = some (.slice none 0 0) := pR.cell 6
  have pRz := pR.lt
  have pRf0 := pR.free 0
  have pRf1 := pR.free 1
  have pRf2 := pR.free 2
  have pRf3 := pR.free 3
  have pRf4 := pR.free 4
  have pRf5 := pR.free 5
  have pRf6 := pR.free 6
  go_wp2_with fail
  refine (sBelow _ B g A n c 4 (by omega) dr.1).mono ?_
  rintro e w5 ⟨x5, rfl, ⟨lx5, vx5, -⟩, hc5, hg5⟩
  have ux5 := vx5 (by omega)
  clear vx5
  clear pRq0 pRf0 pRq1 pRf1 pRq2 pRf2 pRq3 pRf3 pRq4 pRf4 pRq5 pRf5 pRq6 pRf6 pRz
  replace pR := pR.grown hg5 (by intro e; injection e with e; omega)
  replace dr := dr.draw hc5 hg5
  clear hc5 hg5
  have e1 : IntKind.i64.wrap (1 + x2) = 1 + x2 := IntWalk.i64_in _ ⟨by omega, by omega⟩
  have e2 : IntKind.i64.wrap (x1 + 10) = x1 + 10 := IntWalk.i64_in _ ⟨by omega, by omega⟩
  have e3 : IntKind.i64.wrap (x1 + 10 + x3) = x1 + 10 + x3 := IntWalk.i64_in _ ⟨by omega, by omega⟩
  have e4 : IntKind.i64.wrap (1 + x5) = 1 + x5 := IntWalk.i64_in _ ⟨by omega, by omega⟩
  have pRq0 : w5.cell? ⟨w.heap.size, 0, none⟩ = some (.int .i64 0) := pR.cell 0
  have pRq1 : w5.cell? ⟨w.heap.size, 1, none⟩ = some (.int .i64 0) := pR.cell 1
  have pRq2 : w5.cell? ⟨w.heap.size, 2, none⟩ = some (.int .i64 0) := pR.cell 2
  have pRq3 : w5.cell? ⟨w.heap.size, 3, none⟩ = some (.int .i64 0) := pR.cell 3
  have pRq4 : w5.cell? ⟨w.heap.size, 4, none⟩ = some (.int .i64 0) := pR.cell 4
  have pRq5 : w5.cell? ⟨w.heap.size, 5, none⟩ = some (.int .i64 0) := pR.cell 5
  have pRq6 : w5.cell? ⟨w.heap.size, 6, none⟩ = some (.slice none 0 0) := pR.cell 6
  have pRz := pR.lt
  have pRf0 := pR.free 0
  have pRf1 := pR.free 1
  have pRf2 := pR.free 2
  have pRf3 := pR.free 3
  have pRf4 := pR.free 4
  have pRf5 := pR.free 5
  have pRf6 := pR.free 6
  go_wp2_with fail
  refine (sFormula8 _ B g A n c dr.1).mono ?_
  rintro e w6 ⟨v, k, xs, rfl, hk1, hk9, hl, hf, hown, dr6⟩
  clear pRq0 pRf0 pRq1 pRf1 pRq2 pRf2 pRq3 pRf3 pRq4 pRf4 pRq5 pRf5 pRq6 pRf6 pRz
  replace pR := pR.grown dr6.2 (by intro e; injection e with e; omega)
  have hsw := dr.2.size
  have ow : OwR w6 w.heap.size 65 6 v k (noAt fun i => xs.getD i No.zero) := (OwNo.list hown hl).less hsw
  replace dr := dr.draw dr6.1 dr6.2
  clear dr6 hown
  obtain ⟨C, cc, rfl⟩ := ow.form
  obtain ⟨N, hN⟩ : ∃ N, N = fun i => xs.getD i No.zero := ⟨_, rfl⟩
  rw [← hN] at hf ow
  clear hN hl
  have hlo : ∀ q, (Value.slice C k cc).ownBlock = some q → q < w6.heap.size := fun q hq => (ow.lt q hq).2
  obtain ⟨u6, hu6⟩ : ∃ v, v = w6.alloc (.cells #[.int .i64 (1 + x2), .int .i64 x1, .int .i64 (x1 + 10 + x3), .int .i64 3600, .int .i64 x4, .int .i64 (1 + x5), .slice C k cc] 29) := ⟨_, rfl⟩
  obtain ⟨bo, hbo⟩ : ∃ b, b = w6.heap.size := ⟨_, rfl⟩
  have hbx : Below w6.heap.size w6 u6 := by rw [hu6]; exact (Below.refl _ _).alloc (Nat.le_refl _) _
  have pO : Whole u6 bo 29 #[.int .i64 (1 + x2), .int .i64 x1, .int .i64 (x1 + 10 + x3), .int .i64 3600, .int .i64 x4, .int .i64 (1 + x5), .slice C k cc] := by rw [hu6, hbo]; exact Whole.new _ _ _
  have hbw : w.heap.size < bo := by have := pR.lt; omega
  replace pR := pR.below hbx pR.lt
  replace ow := ow.all hbx
  have hgb : g < bo := by have := dr.1.lt.1; omega
  replace dr := dr.below hbx
  have hob : ∀ q, (Value.slice C k cc).ownBlock = some q → q < bo := fun q hq => by rw [hbo]; exact (hlo q hq)
  clear hbx
  have HLO := Lib.hid hob
  clear hob hlo
  go_upto_region 3 with fail
  rw [← hu6]
  rw [← hbo]
  clear hu6 hbo e1 e2 e3 e4
  have pRq0 : u6.cell? ⟨w.heap.size, 0, none⟩ = some (.int .i64 0) := pR.cell 0
  have pRq1 : u6.cell? ⟨w.heap.size, 1, none⟩ = some (.int .i64 0) := pR.cell 1
  have pRq2 : u6.cell? ⟨w.heap.size, 2, none⟩ = some (.int .i64 0) := pR.cell 2
  have pRq3 : u6.cell? ⟨w.heap.size, 3, none⟩ = some (.int .i64 0) := pR.cell 3
  have pRq4 : u6.cell? ⟨w.heap.size, 4, none⟩ = some (.int .i64 0) := pR.cell 4
  have pRq5 : u6.cell? ⟨w.heap.size, 5, none⟩ = some (.int .i64 0) := pR.cell 5
  have pRq6 : u6.cell? ⟨w.heap.size, 6, none⟩ = some (.slice none 0 0) := pR.cell 6
  have pRz := pR.lt
  have pRf0 := pR.free 0
  have pRf1 := pR.free 1
  have pRf2 := pR.free 2
  have pRf3 := pR.free 3
  have pRf4 := pR.free 4
  have pRf5 := pR.free 5
  have pRf6 := pR.free 6
  have pOq0 : u6.cell? ⟨bo, 0, none⟩ = some (.int .i64 (1 + x2)) := pO.cell 0
  have pOq1 : u6.cell? ⟨bo, 1, none⟩ = some (.int .i64 x1) := pO.cell 1
  have pOq2 : u6.cell? ⟨bo, 2, none⟩ = some (.int .i64 (x1 + 10 + x3)) := pO.cell 2
  have pOq3 : u6.cell? ⟨bo, 3, none⟩ = some (.int .i64 3600) := pO.cell 3
  have pOq4 : u6.cell? ⟨bo, 4, none⟩ = some (.int .i64 x4) := pO.cell 4
  have pOq5 : u6.cell? ⟨bo, 5, none⟩ = some (.int .i64 (1 + x5)) := pO.cell 5
  have pOq6 : u6.cell? ⟨bo, 6, none⟩ = some (.slice C k cc) := pO.cell 6
  have pOz := pO.lt
  have pOf0 := pO.free 0
  have pOf1 := pO.free 1
  have pOf2 := pO.free 2
  have pOf3 := pO.free 3
  have pOf4 := pO.free 4
  have pOf5 := pO.free 5
  have pOf6 := pO.free 6
  go_wp2_with fail
  refine (sOnce _ B g A n c 3 (by omega) dr.1).mono ?_
  rintro e w7 ⟨vb, rfl, hc7, hg7⟩
  clear pRq0 pRf0 pRq1 pRf1 pRq2 pRf2 pRq3 pRf3 pRq4 pRf4 pRq5 pRf5 pRq6 pRf6 pOq0 pOf0 pOq1 pOf1 pOq2 pOf2 pOq3 pOf3 pOq4 pOf4 pOq5 pOf5 pOq6 pOf6 pRz pOz
  replace ow := ow.kept hg7 (fun q hq e => by have := (ow.lt q hq).1; injection e; omega)
  replace pR := pR.grown hg7 (by intro e; injection e with e; omega)
  replace pO := pO.grown hg7 (by intro e; injection e with e; omega)
  replace dr := dr.draw hc7 hg7
  clear hc7 hg7
  cases vb with
  | false =>
    have hk : drawnR ⟨⟨1 + x2, x1, x1 + 10 + x3, 3600, x4, 1 + x5⟩, C, k, cc, N⟩ := ⟨by show (inB (1 + x2) 1 20 && (spanB x1 (x1 + 10 + x3) && (inB 3600 1 3600 && (inB x4 0 9 && (inB (1 + x5) 1 4 && formB k N))))) = true; rw [hf, inB_t (n := 1 + x2) (by omega) (by omega), spanB_iff.2 ⟨lx1, by omega, by omega⟩, inB_t (n := 3600) (by omega) (by omega), inB_t (n := x4) (by omega) (by omega), inB_t (n := 1 + x5) (by omega) (by omega)]; rfl, by show 1 ≤ 1 + x2; omega, by show 1 + x2 ≤ 3; omega, lx4, by show x4 ≤ 3; omega, hk1, hk9⟩
    have HK := Lib.hid hk
    clear hk
    have hne : ¬ w.heap.size = g := by omega
    have hn0 : ∀ q, (Value.slice C k cc).ownBlock = some q → w.heap.size ≠ q := fun q hq e => owr_apart ow pR (by decide) q hq (by rw [e])
    have HN0 := Lib.hid hn0
    clear hn0 hf
    have pRq0 : w7.cell? ⟨w.heap.size, 0, none⟩ = some (.int .i64 0) := pR.cell 0
    have pRq1 : w7.cell? ⟨w.heap.size, 1, none⟩ = some (.int .i64 0) := pR.cell 1
    have pRq2 : w7.cell? ⟨w.heap.size, 2, none⟩ = some (.int .i64 0) := pR.cell 2
    have pRq3 : w7.cell? ⟨w.heap.size, 3, none⟩ = some (.int .i64 0) := pR.cell 3
    have pRq4 : w7.cell? ⟨w.heap.size, 4, none⟩ = some (.int .i64 0) := pR.cell 4
    have pRq5 : w7.cell? ⟨w.heap.size, 5, none⟩ = some (.int .i64 0) := pR.cell 5
    have pRq6 : w7.cell? ⟨w.heap.size, 6, none⟩ = some (.slice none 0 0) := pR.cell 6
    have pRz := pR.lt
    have pRf0 := pR.free 0
    have pRf1 := pR.free 1
    have pRf2 := pR.free 2
    have pRf3 := pR.free 3
    have pRf4 := pR.free 4
    have pRf5 := pR.free 5
    have pRf6 := pR.free 6
    have pOq0 : w7.cell? ⟨bo, 0, none⟩ = some (.int .i64 (1 + x2)) := pO.cell 0
    have pOq1 : w7.cell? ⟨bo, 1, none⟩ = some (.int .i64 x1) := pO.cell 1
    have pOq2 : w7.cell? ⟨bo, 2, none⟩ = some (.int .i64 (x1 + 10 + x3)) := pO.cell 2
    have pOq3 : w7.cell? ⟨bo, 3, none⟩ = some (.int .i64 3600) := pO.cell 3
    have pOq4 : w7.cell? ⟨bo, 4, none⟩ = some (.int .i64 x4) := pO.cell 4
    have pOq5 : w7.cell? ⟨bo, 5, none⟩ = some (.int .i64 (1 + x5)) := pO.cell 5
    have pOq6 : w7.cell? ⟨bo, 6, none⟩ = some (.slice C k cc) := pO.cell 6
    have pOz := pO.lt
    have pOf0 := pO.free 0
    have pOf1 := pO.free 1
    have pOf2 := pO.free 2
    have pOf3 := pO.free 3
    have pOf4 := pO.free 4
    have pOf5 := pO.free 5
    have pOf6 := pO.free 6
    go_wp2_with fail
    refine bodyPost_ret (v := Rn.val ⟨⟨1 + x2, x1, x1 + 10 + x3, 3600, x4, 1 + x5⟩, C, k, cc, N⟩) (by simp [results, Try.results88, go_sem, pRq0, pRq1, pRq2, pRq3, pRq4, pRq5, pRq6]) rfl ⟨_, rfl, HK.out, ?_, ?_⟩
    · with_reducible exact (((((((ow.put' (HN0.out) _).put' (HN0.out) _).put' (HN0.out) _).put' (HN0.out) _).put' (HN0.out) _).put' (HN0.out) _).put' (HN0.out) _)
    · with_reducible exact (((((((dr.set (Nat.le_refl _) hne hBw _).set (Nat.le_refl _) hne hBw _).set (Nat.le_refl _) hne hBw _).set (Nat.le_refl _) hne hBw _).set (Nat.le_refl _) hne hBw _).set (Nat.le_refl _) hne hBw _).set (Nat.le_refl _) hne hBw _)
  | true =>
    have pRq0 : w7.cell? ⟨w.heap.size, 0, none⟩ = some (.int .i64 0) := pR.cell 0
    have pRq1 : w7.cell? ⟨w.heap.size, 1, none⟩ = some (.int .i64 0) := pR.cell 1
    have pRq2 : w7.cell? ⟨w.heap.size, 2, none⟩ = some (.int .i64 0) := pR.cell 2
    have pRq3 : w7.cell? ⟨w.heap.size, 3, none⟩ = some (.int .i64 0) := pR.cell 3
    have pRq4 : w7.cell? ⟨w.heap.size, 4, none⟩ = some (.int .i64 0) := pR.cell 4
    have pRq5 : w7.cell? ⟨w.heap.size, 5, none⟩ = some (.int .i64 0) := pR.cell 5
    have pRq6 : w7.cell? ⟨w.heap.size, 6, none⟩ = some (.slice none 0 0) := pR.cell 6
    have pRz := pR.lt
    have pRf0 := pR.free 0
    have pRf1 := pR.free 1
    have pRf2 := pR.free 2
    have pRf3 := pR.free 3
    have pRf4 := pR.free 4
    have pRf5 := pR.free 5
    have pRf6 := pR.free 6
    have pOq0 : w7.cell? ⟨bo, 0, none⟩ = some (.int .i64 (1 + x2)) := pO.cell 0
    have pOq1 : w7.cell? ⟨bo, 1, none⟩ = some (.int .i64 x1) := pO.cell 1
    have pOq2 : w7.cell? ⟨bo, 2, none⟩ = some (.int .i64 (x1 + 10 + x3)) := pO.cell 2
    have pOq3 : w7.cell? ⟨bo, 3, none⟩ = some (.int .i64 3600) := pO.cell 3
    have pOq4 : w7.cell? ⟨bo, 4, none⟩ = some (.int .i64 x4) := pO.cell 4
    have pOq5 : w7.cell? ⟨bo, 5, none⟩ = some (.int .i64 (1 + x5)) := pO.cell 5
    have pOq6 : w7.cell? ⟨bo, 6, none⟩ = some (.slice C k cc) := pO.cell 6
    have pOz := pO.lt
    have pOf0 := pO.free 0
    have pOf1 := pO.free 1
    have pOf2 := pO.free 2
    have pOf3 := pO.free 3
    have pOf4 := pO.free 4
    have pOf5 := pO.free 5
    have pOf6 := pO.free 6
    go_wp2_with fail
    refine (sBelow _ B g A n c 60 (by omega) dr.1).mono ?_
    rintro e w8 ⟨x6, rfl, ⟨lx6, vx6, -⟩, hc8, hg8⟩
    have ux6 := vx6 (by omega)
    clear vx6
    clear pRq0 pRf0 pRq1 pRf1 pRq2 pRf2 pRq3 pRf3 pRq4 pRf4 pRq5 pRf5 pRq6 pRf6 pOq0 pOf0 pOq1 pOf1 pOq2 pOf2 pOq3 pOf3 pOq4 pOf4 pOq5 pOf5 pOq6 pOf6 pRz pOz
    replace ow := ow.kept hg8 (fun q hq e => by have := (ow.lt q hq).1; injection e; omega)
    replace pR := pR.grown hg8 (by intro e; injection e with e; omega)
    replace pO := pO.grown hg8 (by intro e; injection e with e; omega)
    replace dr := dr.draw hc8 hg8
    clear hc8 hg8
    have e6 : IntKind.i64.wrap (1 + x6) = 1 + x6 := IntWalk.i64_in _ ⟨by omega, by omega⟩
    have hk : drawnR ⟨⟨1 + x2, x1, x1 + 10 + x3, (1 + x6), x4, 1 + x5⟩, C, k, cc, N⟩ := ⟨by show (inB (1 + x2) 1 20 && (spanB x1 (x1 + 10 + x3) && (inB (1 + x6) 1 3600 && (inB x4 0 9 && (inB (1 + x5) 1 4 && formB k N))))) = true; rw [hf, inB_t (n := 1 + x2) (by omega) (by omega), spanB_iff.2 ⟨lx1, by omega, by omega⟩, inB_t (n := (1 + x6)) (by omega) (by omega), inB_t (n := x4) (by omega) (by omega), inB_t (n := 1 + x5) (by omega) (by omega)]; rfl, by show 1 ≤ 1 + x2; omega, by show 1 + x2 ≤ 3; omega, lx4, by show x4 ≤ 3; omega, hk1, hk9⟩
    have HK := Lib.hid hk
    clear hk
    have hne : ¬ w.heap.size = g := by omega
    have hn0 : ∀ q, (Value.slice C k cc).ownBlock = some q → w.heap.size ≠ q := fun q hq e => owr_apart ow pR (by decide) q hq (by rw [e])
    have HN0 := Lib.hid hn0
    clear hn0 hf
    have hn1 : ¬ w.heap.size = bo := by omega
    have hn2 : ¬ bo = w.heap.size := by omega
    have hn3 : ¬ bo = g := by omega
    have HN1 : ∀ q, (Value.slice C k cc).ownBlock = some q → bo ≠ q := fun q hq e => by have := HLO.out q hq; omega
    have HN1H := Lib.hid HN1
    clear HN1
    have pRq0 : w8.cell? ⟨w.heap.size, 0, none⟩ = some (.int .i64 0) := pR.cell 0
    have pRq1 : w8.cell? ⟨w.heap.size, 1, none⟩ = some (.int .i64 0) := pR.cell 1
    have pRq2 : w8.cell? ⟨w.heap.size, 2, none⟩ = some (.int .i64 0) := pR.cell 2
    have pRq3 : w8.cell? ⟨w.heap.size, 3, none⟩ = some (.int .i64 0) := pR.cell 3
    have pRq4 : w8.cell? ⟨w.heap.size, 4, none⟩ = some (.int .i64 0) := pR.cell 4
    have pRq5 : w8.cell? ⟨w.heap.size, 5, none⟩ = some (.int .i64 0) := pR.cell 5
    have pRq6 : w8.cell? ⟨w.heap.size, 6, none⟩ = some (.slice none 0 0) := pR.cell 6
    have pRz := pR.lt
    have pRf0 := pR.free 0
    have pRf1 := pR.free 1
    have pRf2 := pR.free 2
    have pRf3 := pR.free 3
    have pRf4 := pR.free 4
    have pRf5 := pR.free 5
    have pRf6 := pR.free 6
    have pOq0 : w8.cell? ⟨bo, 0, none⟩ = some (.int .i64 (1 + x2)) := pO.cell 0
    have pOq1 : w8.cell? ⟨bo, 1, none⟩ = some (.int .i64 x1) := pO.cell 1
    have pOq2 : w8.cell? ⟨bo, 2, none⟩ = some (.int .i64 (x1 + 10 + x3)) := pO.cell 2
    have pOq3 : w8.cell? ⟨bo, 3, none⟩ = some (.int .i64 3600) := pO.cell 3
    have pOq4 : w8.cell? ⟨bo, 4, none⟩ = some (.int .i64 x4) := pO.cell 4
    have pOq5 : w8.cell? ⟨bo, 5, none⟩ = some (.int .i64 (1 + x5)) := pO.cell 5
    have pOq6 : w8.cell? ⟨bo, 6, none⟩ = some (.slice C k cc) := pO.cell 6
    have pOz := pO.lt
    have pOf0 := pO.free 0
    have pOf1 := pO.free 1
    have pOf2 := pO.free 2
    have pOf3 := pO.free 3
    have pOf4 := pO.free 4
    have pOf5 := pO.free 5
    have pOf6 := pO.free 6
    go_wp2_with fail
    refine bodyPost_ret (v := Rn.val ⟨⟨1 + x2, x1, x1 + 10 + x3, 1 + x6, x4, 1 + x5⟩, C, k, cc, N⟩) (by simp [results, Try.results88, go_sem, pRq0, pRq1, pRq2, pRq3, pRq4, pRq5, pRq6]) rfl ⟨_, rfl, HK.out, ?_, ?_⟩
    · with_reducible exact ((((((((ow.put' (HN1H.out) _).put' (HN0.out) _).put' (HN0.out) _).put' (HN0.out) _).put' (HN0.out) _).put' (HN0.out) _).put' (HN0.out) _).put' (HN0.out) _)
    · with_reducible exact ((((((((dr.set (by show w.heap.size ≤ bo; omega) hn3 hBw _).set (Nat.le_refl _) hne hBw _).set (Nat.le_refl _) hne hBw _).set (Nat.le_refl _) hne hBw _).set (Nat.le_refl _) hne hBw _).set (Nat.le_refl _) hne hBw _).set (Nat.le_refl _) hne hBw _).set (Nat.le_refl _) hne hBw _)

theorem owr_nil {w : World} {base size n c : Nat} {e : TypeId} {F : Nat → Value} {A : Option Addr} (h : OwR w base e size (.slice A n c) n F) : A = none → n = 0 ∧ c = 0 := by
  rintro rfl
  rcases h with ⟨hv, h0⟩ | ⟨g, cap, G, hv, _⟩
  · injection hv with _ h1 h2
    exact ⟨h1, h2⟩
  · cases hv
theorem bookB_n {m : Nat} {R : Nat → Rn} (h : bookB m R = true) (i : Nat) (hi : i < m) : (R i).n ≤ 30 := by
  have k := bookB_rule h i hi
  simp only [ruleB, Bool.and_eq_true] at k
  exact (formB_len k.2.2.2.2.2).2
theorem addR_sameR (R : Nat → Rn) (m : Nat) (r : Rn) : sameR R (addR R m r) m := fun i hi => by rw [addR_lt R r hi]; exact ⟨rfl, rfl, rfl⟩
theorem addN_ge (R : Nat → Rn) (m : Nat) (r : Rn) : m ≤ addN R m r ∧ addN R m r ≤ m + 1 := by
  rw [addN]
  split <;> omega
theorem added_ok {R : Nat → Rn} {m : Nat} {r : Rn} {ys : List Rn} (hR : bookB m R = true) (hl : ys.length = addN R m r) (hs : sameL (addR R m r) ys) : bookB ys.length (fun i => ys.getD i Rn.zero) = true := by
  have h1 := bookB_same hs.same
  rw [h1, hl, addN]
  cases e : addOk R m r
  · rw [if_neg (by simp), bookB_same (addR_sameR R m r)]
    exact hR
  · rw [if_pos rfl]
    simp only [addOk, Bool.and_eq_true] at e
    exact e.2
theorem added_first {R : Nat → Rn} {r : Rn} (hr : ruleB r.s r.n r.N = true) : addN R 0 r = 1 := by
  have h1 : bookGood (addR R 0 r) 0 = true := by simp [bookGood, addR, hr, allUp]
  rw [addN, addOk]
  have h2 : bookB 0 R = true := rfl
  have h3 : bookB (0 + 1) (addR R 0 r) = true := by simp [bookB, allUp, h1]
  rw [h2, h3]
  rfl
/-- The rules of a book that a draw gives. -/
def drawnL (xs : List Rn) : Prop := bookB xs.length (fun i => xs.getD i Rn.zero) = true ∧ ∀ i, i < xs.length → 1 ≤ (xs.getD i Rn.zero).s.nm ∧ (xs.getD i Rn.zero).s.nm ≤ 3 ∧ 0 ≤ (xs.getD i Rn.zero).s.ra ∧ (xs.getD i Rn.zero).s.ra ≤ 3
theorem drawnL.add {xs ys : List Rn} {r : Rn} (h : drawnL xs) (hr : drawnR r) (hl : ys.length = addN (fun i => xs.getD i Rn.zero) xs.length r) (hs : sameL (addR (fun i => xs.getD i Rn.zero) xs.length r) ys) : drawnL ys :=
  ⟨added_ok h.1 hl hs, fun i hi => by
    rw [(hs i hi).1]
    by_cases e : i = xs.length
    · rw [e, addR_same]
      exact ⟨hr.2.1, hr.2.2.1, hr.2.2.2.1, hr.2.2.2.2.1⟩
    · have := (addN_ge (fun i => xs.getD i Rn.zero) xs.length r).2
      rw [addR_lt _ r (by omega)]
      exact h.2 i (by omega)⟩
theorem OwB.cur {w w' : World} {base : Nat} {v : Value} {xs : List Rn} {B g n c : Nat} {A : Option Addr} (h : OwB w base v xs) (hc : Cur w B g A n c) (hg : w.grownBy w' (some g)) : OwB w' base v xs := by
  obtain ⟨_, _, hw, _⟩ := hc
  exact h.far hg hw (by decide) (by decide)

set_option maxRecDepth 4000 in
set_option maxHeartbeats 3200000 in
theorem sBook (w : World) (B g : Nat) (A : Option Addr) (n c : Nat) (hc : Cur w B g A n c) :
    Calls Try.prog 59 #[.pointer (some ⟨g, 0, none⟩)] w fun e w' => ∃ (xs : List Rn) (D : Option Addr) (cd : Nat), e = .returned (.agg #[.slice D xs.length cd]) ∧ drawnL xs ∧ (1 ≤ xs.length ∧ xs.length ≤ 6) ∧ OwB w' w.heap.size (.slice D xs.length cd) xs ∧ Dr w B g A n c w' := by
  have hBw := hc.lt.2.2
  have hgl := hc.lt.1
  have dr0 : Dr w B g A n c ((w.alloc (.cells #[.slice none 0 0] 37)).alloc (.cells #[.slice none 0 0] 37)) := ((Dr.start hc).alloc _).alloc _
  have pR0 : Whole ((w.alloc (.cells #[.slice none 0 0] 37)).alloc (.cells #[.slice none 0 0] 37)) w.heap.size 37 #[.slice none 0 0] := (Whole.new w _ _).alloc _
  have pB0 : Whole ((w.alloc (.cells #[.slice none 0 0] 37)).alloc (.cells #[.slice none 0 0] 37)) (w.heap.size + 1) 37 #[.slice none 0 0] := by have k := Whole.new (w.alloc (.cells #[.slice none 0 0] 37)) 37 #[.slice none 0 0]; simpa using k
  go_enter Try.func59, Try.ntmps59
  go_wp2_with fail
  go_loopw [4] (fun i wr => ∃ (k : Nat) (xs : List Rn) (D : Option Addr) (cd : Nat), k ≤ 6 ∧ i = .int .i64 k ∧ Whole wr w.heap.size 37 #[.slice none 0 0] ∧ Whole wr (w.heap.size + 1) 37 #[.slice D xs.length cd] ∧ OwB wr w.heap.size (.slice D xs.length cd) xs ∧ Hid (drawnL xs ∧ ((0 < k → 1 ≤ xs.length) ∧ xs.length ≤ k)) ∧ Dr w B g A n c wr) (fun i _ => 7 - (intOf i).toNat)
  case atStart => exact ⟨0, [], none, 0, by omega, rfl, pR0, pB0, OwB.nil _ _, Lib.hid ⟨⟨rfl, fun i hi => absurd hi (Nat.not_lt_zero i)⟩, by omega, Nat.le_refl _⟩, dr0⟩
  case round =>
    clear pR0 pB0 dr0
    obtain ⟨k, xs, D, cd, hk, rfl, pR, pB, own, hxs, dr⟩ := hrel
    have e1 : IntKind.i64.wrap ((k : Int) + 1) = (k : Int) + 1 := IntWalk.i64_in _ ⟨by omega, by omega⟩
    have pRq0 : wr.cell? ⟨w.heap.size, 0, none⟩ = some (.slice none 0 0) := pR.cell 0
    have pRz := pR.lt
    have pRf0 := pR.free 0
    have pBq0 : wr.cell? ⟨w.heap.size + 1, 0, none⟩ = some (.slice D xs.length cd) := pB.cell 0
    have pBz := pB.lt
    have pBf0 := pB.free 0
    go_wp2_with fail
    refine (sBelow _ B g A n c 6 (by omega) dr.1).mono ?_
    rintro e w2 ⟨x, rfl, ⟨lx, vx, -⟩, hc2, hg2⟩
    have ux := vx (by omega)
    clear vx
    clear pRq0 pRf0 pBq0 pBf0 pRz pBz
    replace own := own.cur dr.1 hg2
    replace pR := pR.grown hg2 (by intro e; injection e with e; omega)
    replace pB := pB.grown hg2 (by intro e; injection e with e; omega)
    replace dr := dr.draw hc2 hg2
    clear hc2 hg2
    have e2 : IntKind.i64.wrap (1 + x) = 1 + x := IntWalk.i64_in _ ⟨by omega, by omega⟩
    by_cases hlt : (k : Int) < 1 + x
    · have pRq0 : w2.cell? ⟨w.heap.size, 0, none⟩ = some (.slice none 0 0) := pR.cell 0
      have pRz := pR.lt
      have pRf0 := pR.free 0
      have pBq0 : w2.cell? ⟨w.heap.size + 1, 0, none⟩ = some (.slice D xs.length cd) := pB.cell 0
      have pBz := pB.lt
      have pBf0 := pB.free 0
      have dB2 : w2.drew.cell? ⟨w.heap.size + 1, 0, none⟩ = some (.slice D xs.length cd) := pB.cell 0
      go_wp2_with fail
      go_region_with (first
      | (go_at_call 88; refine (sOne _ B g A n c (show Cur w2.drew B g A n c from dr.1)).mono ?_; rintro e w3 ⟨r, rfl, hr, ow3, drd⟩; have dr3 : Dr w2 B g A n c w3 := ⟨drd.1, ⟨drd.2.os, drd.2.tape, drd.2.output, drd.2.size, drd.2.block⟩⟩; clear drd; have ow3' : OwR w3 w2.heap.size 65 6 (nsl r) r.n (noAt r.N) := ow3; have own3 := own.cur dr.1 dr3.2; have pR3 := pR.grown dr3.2 (by intro e; injection e with e; omega); have pB3 := pB.grown dr3.2 (by intro e; injection e with e; omega); have drX := dr.draw dr3.1 dr3.2; have cB3 : w3.cell? ⟨w.heap.size + 1, 0, none⟩ = some (.slice D xs.length cd) := pB3.cell 0; have hs3 := dr3.2.size; clear ow3)
      | (go_at_call 38; refine (sAddRule w3 D xs.length cd (fun i => xs.getD i Rn.zero) r own3.rd (RdNo.own ow3') (by have := bookB_len hxs.out.1.1; omega) own3.cap.1 (by have := own3.cap.2; unfold maxLen at this; omega) (fun i hi => Nat.le_trans (bookB_n hxs.out.1.1 i hi) (by omega)) (by have := hr.2.2.2.2.2.2; omega) (fun i hi => owr_nil (own3.2.1 i hi)) (owr_nil ow3')).mono ?_; rintro e w4 ⟨ys, E, ce, rfl, hyl, hys, owny, hb4⟩; have pR4 := pR3.below hb4 pR3.lt; have pB4 := pB3.below hb4 pB3.lt; have drY := drX.below hb4; have HYL := Lib.hid hyl; have HYS := Lib.hid hys; clear hyl hys; have cB4 : w4.cell? ⟨w.heap.size + 1, 0, none⟩ = some (.slice D xs.length cd) := pB4.cell 0; have fB4 := pB4.free 0; have zB4 := pB4.lt; have hw3 : w.heap.size ≤ w3.heap.size := drX.2.size))
      all_goals
        go_wp2_with fail
        go_roundw
        case rel => exact ⟨k + 1, ys, E, ce, by omega, by go_num, pR4.far (p := ⟨w.heap.size + 1, 0, none⟩) (by show ¬ w.heap.size = w.heap.size + 1; omega) _, by simpa using pB4.put 0 (.slice E ys.length ce), (owny.put pB4 (by decide) (by decide) 0 _).less hw3, Lib.hid ⟨hxs.out.1.add hr HYL.out HYS.out, fun _ => by rw [HYL.out]; have h1 := (addN_ge (fun i => xs.getD i Rn.zero) xs.length r).1; rcases Nat.eq_zero_or_pos xs.length with h0 | h0; (rw [h0, added_first hr.1]; exact Nat.le_refl _); omega, by rw [HYL.out]; have h2 := (addN_ge (fun i => xs.getD i Rn.zero) xs.length r).2; have h3 := hxs.out.2.2; omega⟩, drY.set (by show w.heap.size ≤ w.heap.size + 1; omega) (by show ¬ w.heap.size + 1 = g; omega) hBw _⟩
        case measure => simp [intOf]; omega
    · have pRq0 : w2.cell? ⟨w.heap.size, 0, none⟩ = some (.slice none 0 0) := pR.cell 0
      have pRz := pR.lt
      have pRf0 := pR.free 0
      have pBq0 : w2.cell? ⟨w.heap.size + 1, 0, none⟩ = some (.slice D xs.length cd) := pB.cell 0
      have pBz := pB.lt
      have pBf0 := pB.free 0
      have h1k : Hid (0 < k) := Lib.hid (by omega)
      go_wp2_with fail
      refine bodyPost_ret (v := .agg #[.slice D xs.length cd]) (by simp [results, Try.results59, go_sem, pRq0]) rfl ⟨xs, D, cd, rfl, hxs.out.1, ⟨hxs.out.2.1 h1k.out, Nat.le_trans hxs.out.2.2 hk⟩, own.put pR (by decide) (by decide) 0 _, dr.set (Nat.le_refl _) (by show ¬ w.heap.size = g; omega) hBw _⟩

theorem OwB.rule {w : World} {base c b off : Nat} {xs : List Rn} (h : OwB w base (.slice (some ⟨b, off, none⟩) xs.length c) xs) (i : Nat) (hi : i < xs.length) : b < w.heap.size ∧ w.cell? ⟨b, off + i * 7, none⟩ = some (.int .i64 (xs.getD i Rn.zero).s.nm) ∧ w.cell? ⟨b, off + i * 7 + 1, none⟩ = some (.int .i64 (xs.getD i Rn.zero).s.fr) ∧ w.cell? ⟨b, off + i * 7 + 2, none⟩ = some (.int .i64 (xs.getD i Rn.zero).s.to) ∧ w.cell? ⟨b, off + i * 7 + 3, none⟩ = some (.int .i64 (xs.getD i Rn.zero).s.jo) ∧ w.cell? ⟨b, off + i * 7 + 4, none⟩ = some (.int .i64 (xs.getD i Rn.zero).s.ra) ∧ w.cell? ⟨b, off + i * 7 + 5, none⟩ = some (.int .i64 (xs.getD i Rn.zero).s.mo) ∧ w.cell? ⟨b, off + i * 7 + 6, none⟩ = some (.slice (xs.getD i Rn.zero).A (xs.getD i Rn.zero).n (xs.getD i Rn.zero).c) := by
  obtain ⟨⟨b', off', he, hb, h0, h1, h2, h3, h4, h5, h6⟩, -⟩ := h.rd.2 i hi
  obtain ⟨rfl, rfl⟩ : b = b' ∧ off = off' := by injection he with e; injection e with e1 e2; exact ⟨e1, e2⟩
  exact ⟨hb, h0, h1, h2, h3, h4, h5, h6⟩

set_option maxRecDepth 8000 in
set_option maxHeartbeats 3200000 in
theorem sDrawBook (w : World) (A : Option Addr) (n c : Nat) (hb : Bys w w.heap.size A n) :
    Calls Try.prog 21 #[.slice A n c] w fun e w' => ∃ (xs : List Rn) (D : Option Addr) (cd : Nat) (mo nm : Int), e = .returned (.tuple #[.agg #[.slice D xs.length cd], .int .i64 mo, .int .i64 nm]) ∧ drawnL xs ∧ (1 ≤ xs.length ∧ xs.length ≤ 6) ∧ (∃ i, i < xs.length ∧ (xs.getD i Rn.zero).s.nm = nm ∧ (xs.getD i Rn.zero).s.fr ≤ mo ∧ mo < (xs.getD i Rn.zero).s.to) ∧ OwB w' w.heap.size (.slice D xs.length cd) xs ∧ Below w.heap.size w w' := by
  have hb0 : Below w.heap.size w (w.alloc (.cells #[.slice none 0 0] 37)) := (Below.refl _ _).alloc (Nat.le_refl _) _
  have pR0 : Whole (w.alloc (.cells #[.slice none 0 0] 37)) w.heap.size 37 #[.slice none 0 0] := Whole.new _ _ _
  go_enter Try.func21, Try.ntmps21
  go_wp2_with fail
  refine (sNew _ w.heap.size A n c hb0.size (hb.below hb0)).mono ?_
  rintro e w1 ⟨g, rfl, hc1, hb1, hg1⟩
  have pR1 := pR0.below hb1 pR0.lt
  have hB1 : Below w.heap.size w w1 := hb0.trans (hb1.mono hb0.size)
  simp at hg1
  clear pR0 hb0 hb hb1
  have c1 : w1.cell? ⟨w.heap.size, 0, none⟩ = some (.slice none 0 0) := pR1.cell 0
  have z1 := pR1.lt
  go_wp2_with fail
  refine (sBook _ w.heap.size g A n c hc1).mono ?_
  rintro e w2 ⟨xs, D, cd, rfl, hxs, hx1, own, dr⟩
  clear c1 z1
  have hgl := hc1.lt.1
  have hne : ¬ w.heap.size = g := by omega
  have pR2 := pR1.grown dr.2 (by intro e; injection e with e; omega)
  have hB2 : Below w.heap.size w w2 := hB1.grown dr.2 hB1.size (fun q hq => by injection hq; omega)
  have hsz := dr.2.size
  have hz0 := pR1.lt
  obtain ⟨u2, hu2⟩ : ∃ v, v = w2.alloc (.cells #[.slice D xs.length cd] 37) := ⟨_, rfl⟩
  obtain ⟨bt, hbt⟩ : ∃ b, b = w2.heap.size := ⟨_, rfl⟩
  have hbx : Below w2.heap.size w2 u2 := by rw [hu2]; exact (Below.refl _ _).alloc (Nat.le_refl _) _
  have pT : Whole u2 bt 37 #[.slice D xs.length cd] := by rw [hu2, hbt]; exact Whole.new _ _ _
  have pR := pR2.below hbx pR2.lt
  have ownU := (own.all hbx).less (base' := w.heap.size) (by omega)
  have hcu := (dr.below hbx).1
  have hBu := hB2.trans (hbx.mono hB2.size)
  have hgb : g < bt := by rw [hbt]; exact dr.1.lt.1
  have hwb : w.heap.size < bt := by omega
  clear pR1 pR2 hB1 hB2 own dr hbx hc1
  go_upto_region 3 with fail
  rw [← hu2]
  rw [← hbt]
  clear hu2 hbt hsz
  obtain ⟨⟨b, off, rfl, -⟩, -⟩ := ownU.rd.2 0 (by omega)
  have hml := bookB_len hxs.1
  obtain ⟨R, hR⟩ : ∃ R : Nat → Rn, R = fun i => xs.getD i Rn.zero := ⟨_, rfl⟩
  have hRule : ∀ (v : World) (c2 : Nat), OwB v w.heap.size (.slice (some ⟨b, off, none⟩) xs.length c2) xs → ∀ i, i < xs.length → b < v.heap.size ∧ v.cell? ⟨b, off + i * 7, none⟩ = some (.int .i64 (R i).s.nm) ∧ v.cell? ⟨b, off + i * 7 + 1, none⟩ = some (.int .i64 (R i).s.fr) ∧ v.cell? ⟨b, off + i * 7 + 2, none⟩ = some (.int .i64 (R i).s.to) ∧ v.cell? ⟨b, off + i * 7 + 3, none⟩ = some (.int .i64 (R i).s.jo) ∧ v.cell? ⟨b, off + i * 7 + 4, none⟩ = some (.int .i64 (R i).s.ra) ∧ v.cell? ⟨b, off + i * 7 + 5, none⟩ = some (.int .i64 (R i).s.mo) ∧ v.cell? ⟨b, off + i * 7 + 6, none⟩ = some (.slice (R i).A (R i).n (R i).c) := fun v c2 hv i hi => by rw [hR]; exact hv.rule i hi
  have HRR := Lib.hid hR
  clear hR
  have KU : ∀ v, Dr u2 w.heap.size g A n c v → (fun w' => w'.cell? ⟨bt, 0, none⟩ = some (.slice (some ⟨b, off, none⟩) xs.length cd) ∧ (∀ i, i < xs.length → w'.cell? ⟨b, off + i * 7, none⟩ = some (.int .i64 (R i).s.nm)) ∧ (∀ i, i < xs.length → w'.cell? ⟨b, off + i * 7 + 1, none⟩ = some (.int .i64 (R i).s.fr)) ∧ (∀ i, i < xs.length → w'.cell? ⟨b, off + i * 7 + 2, none⟩ = some (.int .i64 (R i).s.to)) ∧ (∀ i, i < xs.length → w'.cell? ⟨b, off + i * 7 + 3, none⟩ = some (.int .i64 (R i).s.jo)) ∧ (∀ i, i < xs.length → w'.cell? ⟨b, off + i * 7 + 4, none⟩ = some (.int .i64 (R i).s.ra)) ∧ (∀ i, i < xs.length → w'.cell? ⟨b, off + i * 7 + 5, none⟩ = some (.int .i64 (R i).s.mo)) ∧ (∀ i, i < xs.length → w'.cell? ⟨b, off + i * 7 + 6, none⟩ = some (.slice (R i).A (R i).n (R i).c))) v := fun v hv => by
    have pT3 := pT.grown hv.2 (by intro e; injection e with e; omega)
    have own3 := ownU.cur hcu hv.2
    exact ⟨pT3.cell 0, fun i hi => (hRule v cd own3 i hi).2.1, fun i hi => (hRule v cd own3 i hi).2.2.1, fun i hi => (hRule v cd own3 i hi).2.2.2.1, fun i hi => (hRule v cd own3 i hi).2.2.2.2.1, fun i hi => (hRule v cd own3 i hi).2.2.2.2.2.1, fun i hi => (hRule v cd own3 i hi).2.2.2.2.2.2.1, fun i hi => (hRule v cd own3 i hi).2.2.2.2.2.2.2⟩
  have hul : bt < u2.heap.size := pT.lt
  have hgu : g < u2.heap.size := hcu.lt.1
  have hq1 : ¬ u2.heap.size = g := by omega
  have hq2 : w.heap.size ≤ u2.heap.size := by omega
  have tT : u2.cell? ⟨bt, 0, none⟩ = some (.slice (some ⟨b, off, none⟩) xs.length cd) := pT.cell 0
  go_cut [7] (fun s7 wx => ∃ (bq i : Nat), s7 = .pointer (some ⟨bq, 0, none⟩) ∧ i < xs.length ∧ u2.heap.size ≤ bq ∧ Whole wx bq 29 #[.int .i64 (R i).s.nm, .int .i64 (R i).s.fr, .int .i64 (R i).s.to, .int .i64 (R i).s.jo, .int .i64 (R i).s.ra, .int .i64 (R i).s.mo, .slice (R i).A (R i).n (R i).c] ∧ Dr u2 w.heap.size g A n c wx)
  case first =>
    go_region_held3 (fun w' => w'.cell? ⟨bt, 0, none⟩ = some (.slice (some ⟨b, off, none⟩) xs.length cd) ∧ (∀ i, i < xs.length → w'.cell? ⟨b, off + i * 7, none⟩ = some (.int .i64 (R i).s.nm)) ∧ (∀ i, i < xs.length → w'.cell? ⟨b, off + i * 7 + 1, none⟩ = some (.int .i64 (R i).s.fr)) ∧ (∀ i, i < xs.length → w'.cell? ⟨b, off + i * 7 + 2, none⟩ = some (.int .i64 (R i).s.to)) ∧ (∀ i, i < xs.length → w'.cell? ⟨b, off + i * 7 + 3, none⟩ = some (.int .i64 (R i).s.jo)) ∧ (∀ i, i < xs.length → w'.cell? ⟨b, off + i * 7 + 4, none⟩ = some (.int .i64 (R i).s.ra)) ∧ (∀ i, i < xs.length → w'.cell? ⟨b, off + i * 7 + 5, none⟩ = some (.int .i64 (R i).s.mo)) ∧ (∀ i, i < xs.length → w'.cell? ⟨b, off + i * 7 + 6, none⟩ = some (.slice (R i).A (R i).n (R i).c))) (exact KU _ (by (repeat (first | (with_reducible assumption) | (with_reducible exact Dr.start hcu) | (with_reducible refine Dr.drew ?_) | (with_reducible refine Dr.alloc ?_ _) | (with_reducible refine Dr.set ?_ (Nat.le_refl _) hq1 hq2 _)))))
      (first
      | (go_at_call 60; refine (sBelow _ w.heap.size g A n c (xs.length : Int) (by omega) (by first | exact (show Cur u2.drew w.heap.size g A n c from hcu) | exact (show Cur (u2.alloc (.cells #[.int .i64 0, .int .i64 0, .int .i64 0, .int .i64 0, .int .i64 0, .int .i64 0, .slice none 0 0] 29)).drew w.heap.size g A n c from hcu.alloc _))).mono ?_; rintro e w3 ⟨x, rfl, ⟨lx, vx, -⟩, hc3, hg3⟩; have d3 : Dr u2 w.heap.size g A n c w3 := (by first | exact ((Dr.start hcu).drew).draw hc3 hg3 | exact (((Dr.start hcu).alloc (.cells #[.int .i64 0, .int .i64 0, .int .i64 0, .int .i64 0, .int .i64 0, .int .i64 0, .slice none 0 0] 29)).drew).draw hc3 hg3); (try (have pZ3 : Whole w3 u2.heap.size 29 #[.int .i64 0, .int .i64 0, .int .i64 0, .int .i64 0, .int .i64 0, .int .i64 0, .slice none 0 0] := (Whole.drew (Whole.new u2 29 #[.int .i64 0, .int .i64 0, .int .i64 0, .int .i64 0, .int .i64 0, .int .i64 0, .slice none 0 0])).grown hg3 (by intro e; injection e with e; omega); have zc0 : w3.cell? ⟨u2.heap.size, 0, none⟩ = some (.int .i64 0) := pZ3.cell 0; have zf0 := pZ3.free 0; have zc1 : w3.cell? ⟨u2.heap.size, 1, none⟩ = some (.int .i64 0) := pZ3.cell 1; have zf1 := pZ3.free 1; have zc2 : w3.cell? ⟨u2.heap.size, 2, none⟩ = some (.int .i64 0) := pZ3.cell 2; have zf2 := pZ3.free 2; have zc3 : w3.cell? ⟨u2.heap.size, 3, none⟩ = some (.int .i64 0) := pZ3.cell 3; have zf3 := pZ3.free 3; have zc4 : w3.cell? ⟨u2.heap.size, 4, none⟩ = some (.int .i64 0) := pZ3.cell 4; have zf4 := pZ3.free 4; have zc5 : w3.cell? ⟨u2.heap.size, 5, none⟩ = some (.int .i64 0) := pZ3.cell 5; have zf5 := pZ3.free 5; have zc6 : w3.cell? ⟨u2.heap.size, 6, none⟩ = some (.slice none 0 0) := pZ3.cell 6; have zf6 := pZ3.free 6)); have hs3 := d3.2.size; obtain ⟨i, rfl⟩ := Int.eq_ofNat_of_zero_le lx; have hi : i < xs.length := (by have := vx (by omega); omega); have hi2 : (i : Int) < xs.length := (by omega); clear vx hg3; have hS3 := KU _ d3))
    all_goals
      go_wp2_with fail
      go_meet
      first
      | exact ⟨_, i, rfl, hi, hs3, Whole.new _ _ _, by (repeat (first | (with_reducible assumption) | (with_reducible exact Dr.start hcu) | (with_reducible refine Dr.drew ?_) | (with_reducible refine Dr.alloc ?_ _) | (with_reducible refine Dr.set ?_ (Nat.le_refl _) hq1 hq2 _)))⟩
      | exact ⟨u2.heap.size, i, rfl, hi, Nat.le_refl _, by simpa using ((((((pZ3.put 0 _).put 1 _).put 2 _).put 3 _).put 4 _).put 5 _).put 6 _, by (repeat (first | (with_reducible assumption) | (with_reducible exact Dr.start hcu) | (with_reducible refine Dr.drew ?_) | (with_reducible refine Dr.alloc ?_ _) | (with_reducible refine Dr.set ?_ (Nat.le_refl _) hq1 hq2 _)))⟩
  case rest =>
    clear tT KU
    obtain ⟨bq, i, rfl, hi, hbq, pQ, d4⟩ := hcut
    have pT4 := pT.grown d4.2 (by intro e; injection e with e; omega)
    have pR4 := pR.grown d4.2 (by intro e; injection e with e; omega)
    have own4 := ownU.cur hcu d4.2
    have hB4 : Below w.heap.size w wc := hBu.grown d4.2 hBu.size (fun q hq => by injection hq; omega)
    have hc4 := d4.1
    have hgq : ¬ bq = g := by omega
    obtain ⟨sf, st, s5⟩ := rule_span (bookB_rule hxs.1 i hi)
    obtain ⟨q0, hq0⟩ : ∃ r : Rn, r = xs.getD i Rn.zero := ⟨_, rfl⟩
    have HQ0 := Lib.hid hq0
    rw [← hq0] at sf st s5
    rw [show R i = q0 by rw [HRR.out, hq0]] at pQ
    have n1 : ¬ bt = w.heap.size := by omega
    have n2 : ¬ bq = w.heap.size := by omega
    clear hq0 ownU pT pR hBu d4 hcu hul hgu hRule
    have e1 : IntKind.i64.wrap (q0.s.to - q0.s.fr) = q0.s.to - q0.s.fr := IntWalk.i64_in _ ⟨by omega, by omega⟩
    have t0 : wc.cell? ⟨bt, 0, none⟩ = some (.slice (some ⟨b, off, none⟩) xs.length cd) := pT4.cell 0
    have t1 : wc.cell? ⟨bq, 0, none⟩ = some (.int .i64 q0.s.nm) := pQ.cell 0
    have t2 : wc.cell? ⟨bq, 1, none⟩ = some (.int .i64 q0.s.fr) := pQ.cell 1
    have t3 : wc.cell? ⟨bq, 2, none⟩ = some (.int .i64 q0.s.to) := pQ.cell 2
    have hzb : w.heap.size < wc.heap.size := by have := pT4.lt; omega
    go_wp2_with fail
    go_region_held3 (fun w' => w'.cell? ⟨bt, 0, none⟩ = some (.slice (some ⟨b, off, none⟩) xs.length cd) ∧ w'.cell? ⟨bq, 0, none⟩ = some (.int .i64 q0.s.nm) ∧ w'.cell? ⟨bq, 1, none⟩ = some (.int .i64 q0.s.fr) ∧ w'.cell? ⟨bq, 2, none⟩ = some (.int .i64 q0.s.to)) (first | (with_reducible assumption) | (refine ⟨?_, ?_, ?_, ?_⟩ <;> first | (with_reducible assumption) | omega | (simp [go_sem, *]; done) | (simp [*]; omega) | ((repeat (first | (with_reducible exact Below.refl _ _) | (with_reducible assumption) | (with_reducible refine Below.drew ?_) | (with_reducible refine below_drewN ?_ _) | ((with_reducible refine Below.setCell ?_ ?_ _); rotate_left; focus (first | (simp; done) | omega | (simp; omega))) | ((with_reducible refine Below.alloc ?_ ?_ _); rotate_left; focus (first | exact Nat.le_refl _ | omega | (simp; done) | (simp; omega))))); first | done | (simp [*]; done))))
      (first
    | (go_at_call 60; refine (sBelow _ w.heap.size g A n c (q0.s.to - q0.s.fr) (by omega) (show Cur wc.drew w.heap.size g A n c from hc4)).mono ?_; rintro e w5 ⟨y, rfl, ⟨ly, vy, -⟩, hc5, hg5d⟩; have hg5 : wc.grownBy w5 (some g) := ⟨hg5d.os, hg5d.tape, hg5d.output, hg5d.size, hg5d.block⟩; clear hg5d; have uy := vy (by omega); clear vy; have pT5 := pT4.grown hg5 (by intro e; injection e with e; omega); have pQ5 := pQ.grown hg5 (by intro e; injection e with e; omega); have pR5 := pR4.grown hg5 (by intro e; injection e with e; omega); have own5 := own4.cur hc4 hg5; have hB5 : Below w.heap.size w w5 := hB4.grown hg5 hB4.size (fun q hq => by injection hq; omega); have e2 : IntKind.i64.wrap (q0.s.fr + y) = q0.s.fr + y := IntWalk.i64_in _ ⟨by omega, by omega⟩; have r5 : w5.cell? ⟨w.heap.size, 0, none⟩ = some (.slice none 0 0) := pR5.cell 0; have f5 := pR5.free 0; have z5 := pR5.lt; have hS5 : (fun w' => w'.cell? ⟨bt, 0, none⟩ = some (.slice (some ⟨b, off, none⟩) xs.length cd) ∧ w'.cell? ⟨bq, 0, none⟩ = some (.int .i64 q0.s.nm) ∧ w'.cell? ⟨bq, 1, none⟩ = some (.int .i64 q0.s.fr) ∧ w'.cell? ⟨bq, 2, none⟩ = some (.int .i64 q0.s.to)) w5 := ⟨pT5.cell 0, pQ5.cell 0, pQ5.cell 1, pQ5.cell 2⟩))
    go_wp2_with fail
    refine bodyPost_ret (v := .tuple #[.agg #[.slice (some ⟨b, off, none⟩) xs.length cd], .int .i64 (q0.s.fr + y), .int .i64 q0.s.nm]) (by simp [results, Try.results21, go_sem, r5]) rfl ⟨xs, _, cd, _, _, rfl, hxs, hx1, ⟨i, hi, by rw [← HQ0.out], by rw [← HQ0.out]; omega, by rw [← HQ0.out]; omega⟩, own5.put pR5 (by decide) (by decide) 0 _, hB5.setCell (Nat.le_refl _) _⟩
end Go.Proofs.Ytjnckhdmaebfdaa
