/- The law of the text of a formula. Conditions: the variables that the row lists lie as the library lays them. -/
import Derived.Test.YtdccdoodmiihbaaDoorFFor
namespace Go.Proofs.YtdccdoodmiihbaaDoor
open Go.RowKit Go.Lib
set_option linter.unusedVariables false
theorem laidW_form {W : World} (h : laidMet Tryd.prog Rows.fnExactFormatFormulaRow.laid W) : LaidW W := laidW_of h (by kernel_rfl)

set_option maxRecDepth 8000 in
set_option maxHeartbeats 3200000 in
theorem walkFormatFormula (A : Option Addr) (n c : Nat) (N : Nat → No) (w : World) (hd : RdNo w w.heap.size A n N) (hL : laidMet Tryd.prog Rows.fnExactFormatFormulaRow.laid w) :
    Calls Tryd.prog 6 #[.slice A n c] w fun e w' => e = .returned (.bool true) ∧ Below w.heap.size w w' := by
  have hn := hd.1
  have hT := laidW_form hL
  clear hL
  by_cases t1 : (1048576 : Int) < n
  · go_enter Tryd.func6, Tryd.ntmps6
    go_wp2_with fail
    refine (szNodes w A n c hn).mono ?_
    rintro e w' ⟨rfl, rfl⟩
    rw [if_pos (show (1048576 : Int) < n by omega)]
    go_wp2_with fail
    go_ret
    exact ⟨rfl, Below.refl _ _⟩
  have t2 : ¬ (1048576 : Int) - n < 0 := by omega
  obtain ⟨l, hl⟩ : ∃ l, l = ftxt n N := ⟨_, rfl⟩
  have CS := fun (v : World) (g : Nat) (h : RdNo v v.heap.size (some ⟨g, 0, none⟩) n N) => sFormatFormula v (some ⟨g, 0, none⟩) n n N h (by omega)
  have CI := fun (v : World) (g : Nat) (h : RdNo v v.heap.size (some ⟨g, 0, none⟩) n N) (hv : LaidW v) => iFormatFormula v (some ⟨g, 0, none⟩) n n N h (by omega) hv
  rw [← hl] at CS CI
  clear hl
  go_enter Tryd.func6, Tryd.ntmps6
  go_wp2_with fail
  refine (szNodes w A n c hn).mono ?_
  rintro e w' ⟨rfl, rfl⟩
  rw [if_neg (show ¬ (1048576 : Int) < n by omega)]
  go_wp2_with fail
  refine (toNodes w A n c N hd (by omega)).mono ?_
  rintro e w1 ⟨g1, rfl, rowg1, lowg1, hb1⟩
  have hs1 := hb1.size
  replace hd := (hd.below hb1).more hs1
  have hB1 : Below w.heap.size w w1 := (Below.refl w.heap.size w).trans (hb1.mono (Nat.le_refl _))
  have ltg1 := rowg1.lt
  have hg1 : RdNo w1 w1.heap.size (some ⟨g1, 0, none⟩) n N := RdNo.row rowg1 ltg1 (Nat.le_refl _) (by omega)
  clear rowg1 lowg1 ltg1
  go_wp2_with fail
  refine (CS w1 g1 hg1).mono ?_
  rintro e w2 ⟨rfl, hb2⟩
  have hs2 := hb2.size
  replace hd := (hd.below hb2).more hs2
  replace hg1 := (hg1.below hb2).more hs2
  have hB2 : Below w.heap.size w w2 := hB1.trans (hb2.mono hB1.size)
  clear CS hg1
  go_wp2_with fail
  refine (toNodes w2 A n c N hd (by omega)).mono ?_
  rintro e w3 ⟨g2, rfl, rowg2, lowg2, hb3⟩
  have hs3 := hb3.size
  replace hd := (hd.below hb3).more hs3
  have hB3 : Below w.heap.size w w3 := hB2.trans (hb3.mono hB2.size)
  have ltg2 := rowg2.lt
  have hg2 : RdNo w3 w3.heap.size (some ⟨g2, 0, none⟩) n N := RdNo.row rowg2 ltg2 (Nat.le_refl _) (by omega)
  clear rowg2 lowg2 ltg2
  go_wp2_with fail
  refine (CI w3 g2 hg2 (hT.below hB3)).mono ?_
  rintro e w4 ⟨rfl, hb4⟩
  have hs4 := hb4.size
  replace hd := (hd.below hb4).more hs4
  replace hg2 := (hg2.below hb4).more hs4
  have hB4 : Below w.heap.size w w4 := hB3.trans (hb4.mono hB3.size)
  clear CI
  go_wp2_with fail
  refine (toNodes w4 A n c N hd (by omega)).mono ?_
  rintro e w5 ⟨g3, rfl, rowg3, lowg3, hb5⟩
  have hs5 := hb5.size
  replace hd := (hd.below hb5).more hs5
  replace hg2 := (hg2.below hb5).more hs5
  have hB5 : Below w.heap.size w w5 := hB4.trans (hb5.mono hB4.size)
  have ltg3 := rowg3.lt
  have hg3 : RdNo w5 w5.heap.size (some ⟨g3, 0, none⟩) n N := RdNo.row rowg3 ltg3 (Nat.le_refl _) (by omega)
  clear rowg3 lowg3 ltg3
  go_wp2_with fail
  refine (eqNodes w5 (some ⟨g2, 0, none⟩) (some ⟨g3, 0, none⟩) n n n n _ _ hg2 hg3 ⟨rfl, fun _ _ => rfl⟩).mono ?_
  rintro e w6 ⟨rfl, hb6⟩
  have hs6 := hb6.size
  replace hd := (hd.below hb6).more hs6
  replace hg2 := (hg2.below hb6).more hs6
  replace hg3 := (hg3.below hb6).more hs6
  have hB6 : Below w.heap.size w w6 := hB5.trans (hb6.mono hB5.size)
  go_wp2_with fail
  go_ret
  exact ⟨rfl, hB6⟩
end Go.Proofs.YtdccdoodmiihbaaDoor
