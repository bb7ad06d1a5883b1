/- The law of the text of a fraction. Conditions: the table of powers lies as the library lays it. -/
import Derived.Test.YtdccdoodmiihbaaDoorFmtI
import Derived.Test.YtdccdoodmiihbaaDoorEqF
namespace Go.Proofs.YtdccdoodmiihbaaDoor
open Go.RowKit Go.Lib
set_option maxRecDepth 8000 in
set_option maxHeartbeats 1600000 in
theorem walkFormatFrac (n d : Int) (w : World) (hL : laidMet Tryd.prog Rows.fnExactFormatFracRow.laid w) :
    Calls Tryd.prog 5 #[.agg #[.int .i64 n, .int .i64 d]] w fun e w' => e = .returned (.bool true) ∧ Below w.heap.size w w' := by
  have hT := laidW_ff hL
  have hx : Below w.heap.size w (w.alloc (.cells #[.int .i64 n, .int .i64 d] 33)) := (Below.refl _ _).alloc (Nat.le_refl _) _
  have pX := Whole.new w 33 #[.int .i64 n, .int .i64 d]
  have hT0 := hT.below hx
  clear hL
  obtain ⟨l, hl⟩ : ∃ l, l = fmtL (n, d) := ⟨_, rfl⟩
  have CS := fun (v : World) => sFormatFrac n d v
  have CI := fun (v : World) (hv : LaidW v) => iFormatFrac n d v hv
  rw [← hl] at CS CI
  clear hl
  go_enter Tryd.func5, Tryd.ntmps5
  go_wp2_with fail
  refine (toFrac_any _ _ _).mono ?_
  rintro e w1 ⟨rfl, hb1⟩
  have hs1 := hb1.size
  have p1 := pX.below hb1 pX.lt
  have h1 := hx.trans (hb1.mono hx.size)
  go_wp2_with fail
  refine (CS _).mono ?_
  rintro e w2 ⟨rfl, hb2⟩
  have hs2 := hb2.size
  have p2 := p1.below hb2 p1.lt
  have h2 := h1.trans (hb2.mono h1.size)
  have c0 : w2.cell? ⟨w.heap.size, 0, none⟩ = some (.int .i64 n) := p2.cell 0
  have c1 : w2.cell? ⟨w.heap.size, 1, none⟩ = some (.int .i64 d) := p2.cell 1
  have z2 := p2.lt
  go_wp2_with fail
  refine (toFrac_any _ _ _).mono ?_
  rintro e w3 ⟨rfl, hb3⟩
  have h3 := h2.trans (hb3.mono h2.size)
  clear c0 c1
  go_wp2_with fail
  refine (CI _ (hT.below h3)).mono ?_
  rintro e w4 ⟨rfl, hb4⟩
  have h4 := h3.trans (hb4.mono h3.size)
  go_wp2_with fail
  go_ret
  exact ⟨rfl, h4⟩
end Go.Proofs.YtdccdoodmiihbaaDoor
