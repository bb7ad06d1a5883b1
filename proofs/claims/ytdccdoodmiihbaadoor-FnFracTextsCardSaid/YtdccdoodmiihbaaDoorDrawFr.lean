/- A fraction that a draw gives. Conditions: bytes can be read. -/
import Derived.Test.YtdccdoodmiihbaaDoorDrawF
namespace Go.Proofs.YtdccdoodmiihbaaDoor
open Go.RowKit
set_option linter.unusedVariables false
set_option maxRecDepth 4000 in
set_option maxHeartbeats 1600000 in
theorem sl02Frac (w : World) (B g : Nat) (A : Option Addr) (n c : Nat) (hc : Cur w B g A n c) :
    Calls Tryd.prog 45 #[.pointer (some ⟨g, 0, none⟩)] w fun e w' => ∃ p q : Int, e = .returned (.agg #[.int .i64 p, .int .i64 q]) ∧ fracOkL (p, q) = true ∧ Dr w B g A n c w' := by
  have hgw := hc.lt.1
  have hBw := hc.lt.2.2
  have dr := (Dr.start hc).alloc (.cells #[.int .i64 0, .int .i64 0] 23)
  have pR := Whole.new w 23 #[.int .i64 0, .int .i64 0]
  go_enter Tryd.func45, Tryd.ntmps45
  go_wp2_with fail
  refine (sBelow _ B g A n c 2001 (by omega) dr.1).mono ?_
  rintro e w2 ⟨y1, rfl, ⟨ly1, vy1, -⟩, hc2, hg2⟩
  replace pR := pR.grown hg2 (by intro e; injection e with e; omega)
  replace dr := dr.draw hc2 hg2
  have uy1 := vy1 (by omega)
  clear hc2 hg2 vy1
  have e3 : IntKind.i64.wrap (y1 - 1000) = y1 - 1000 := IntWalk.i64_in _ ⟨by omega, by omega⟩
  go_wp2_with fail
  refine (sBelow _ B g A n c 60 (by omega) dr.1).mono ?_
  rintro e w3 ⟨y2, rfl, ⟨ly2, vy2, -⟩, hc3, hg3⟩
  replace pR := pR.grown hg3 (by intro e; injection e with e; omega)
  replace dr := dr.draw hc3 hg3
  have uy2 := vy2 (by omega)
  clear hc3 hg3 vy2
  obtain ⟨p, q, eR, okR, -, -, -, -⟩ := redL_parts (n := y1 - 1000) (d := 1 + y2) (by omega) (by omega) (by omega) (by omega)
  have hN : fracNewL (y1 - 1000) (1 + y2) = some (p, q) := by rw [fracNewL, if_pos (by simp [inB]; omega)]; exact eR
  have CC := fun (v : World) => sFracNew (y1 - 1000) (1 + y2) v
  rw [hN] at CC
  simp only [vOpt, oN_some, oD_some, oB_some] at CC
  have e4 : IntKind.i64.wrap (1 + y2) = 1 + y2 := IntWalk.i64_in _ ⟨by omega, by omega⟩
  have HOK := Lib.hid okR
  clear hN eR okR
  go_wp2_with fail
  refine (CC _).mono ?_
  rintro e w4 ⟨rfl, hb4⟩
  replace pR := pR.below hb4 pR.lt
  replace dr := dr.below hb4
  clear CC hb4
  have c0 : w4.cell? ⟨w.heap.size, 0, none⟩ = some (.int .i64 0) := pR.cell 0
  have c1 : w4.cell? ⟨w.heap.size, 1, none⟩ = some (.int .i64 0) := pR.cell 1
  have f0 := pR.free 0
  have f1 := pR.free 1
  have z0 := pR.lt
  go_wp2_with fail
  refine bodyPost_ret (v := .agg #[.int .i64 p, .int .i64 q]) (by simp [results, Tryd.results45, go_sem, c0, c1, z0]) rfl ⟨p, q, rfl, HOK.out, ?_⟩
  exact ((dr.set (p := ⟨w.heap.size, 0, none⟩) (Nat.le_refl _) (by show w.heap.size ≠ g; omega) hBw _).set (p := ⟨w.heap.size, 1, none⟩) (Nat.le_refl _) (by show w.heap.size ≠ g; omega) hBw _).alloc _
set_option maxHeartbeats 800000 in
theorem sDrawFrac (w : World) (A : Option Addr) (n c : Nat) (hb : Bys w w.heap.size A n) :
    Calls Tryd.prog 24 #[.slice A n c] w fun e w' => ∃ p q : Int, e = .returned (.agg #[.int .i64 p, .int .i64 q]) ∧ fracOkL (p, q) = true ∧ Below w.heap.size w w' := by
  have hx : Below w.heap.size w (w.alloc (.cells #[.int .i64 0, .int .i64 0] 23)) := (Below.refl _ _).alloc (Nat.le_refl _) _
  have pR := Whole.new w 23 #[.int .i64 0, .int .i64 0]
  go_enter Tryd.func24, Tryd.ntmps24
  go_wp2_with fail
  refine (sNew _ w.heap.size A n c (by simp) (hb.below hx)).mono ?_
  rintro e w1 ⟨g, rfl, hc1, hb1, hg1⟩
  have hg2 : w.heap.size < g := by simp at hg1; omega
  have p1 := pR.below hb1 pR.lt
  have h1 := hx.trans (hb1.mono hx.size)
  go_wp2_with fail
  refine (sl02Frac w1 w.heap.size g A n c hc1).mono ?_
  rintro e w2 ⟨p, q, rfl, hok, dr⟩
  have p2 := p1.grown dr.2 (by intro e; injection e with e; omega)
  have h2 := h1.grown dr.2 h1.size (fun k hk => by injection hk; omega)
  have c0 : w2.cell? ⟨w.heap.size, 0, none⟩ = some (.int .i64 0) := p2.cell 0
  have c1 : w2.cell? ⟨w.heap.size, 1, none⟩ = some (.int .i64 0) := p2.cell 1
  have f0 := p2.free 0
  have f1 := p2.free 1
  have z0 := p2.lt
  have HOK := Lib.hid hok
  clear hok dr hc1 p1 p2 hb1 hx pR h1
  go_wp2_with fail
  exact bodyPost_ret (v := .agg #[.int .i64 p, .int .i64 q]) (by simp [results, Tryd.results24, go_sem, c0, c1]) rfl ⟨p, q, rfl, HOK.out, (h2.setCell (Nat.le_refl _) _).setCell (Nat.le_refl _) _⟩
end Go.Proofs.YtdccdoodmiihbaaDoor
