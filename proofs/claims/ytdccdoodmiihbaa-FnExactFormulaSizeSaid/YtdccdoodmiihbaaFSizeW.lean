/- The given statement of FormulaSize. No conditions. -/
import Derived.Test.YtdccdoodmiihbaaFSize
namespace Go.Proofs.Ytdccdoodmiihbaa
open Go.RowKit

set_option maxHeartbeats 1600000 in
theorem walkFormulaSize (A : Option Addr) (n c : Nat) (L : Nat → No) (w : World) (hd : RdNo w w.heap.size A n L) :
    Calls Try.prog 3 #[.slice A n c] w fun e w' => e = .returned (.bool true) ∧ Below w.heap.size w w' := by
  have hn := hd.1
  by_cases t1 : (1048576 : Int) < n
  · go_enter Try.func3, Try.ntmps3
    go_wp2_with fail
    refine (szNodes w A n c hn).mono ?_
    rintro e w' ⟨rfl, rfl⟩
    rw [if_pos (show (1048576 : Int) < n by omega)]
    go_wp2_with fail
    go_ret
    exact ⟨rfl, Below.refl _ _⟩
  have t2 : (0 : Int) ≤ 1048576 - n := by omega
  go_enter Try.func3, Try.ntmps3
  go_wp2_with fail
  refine (szNodes w A n c hn).mono ?_
  rintro e w' ⟨rfl, rfl⟩
  rw [if_neg (show ¬ (1048576 : Int) < n by omega)]
  go_wp2_with fail
  refine (toNodes w A n c _ hd (by omega)).mono ?_
  rintro e w1 ⟨g1, rfl, rowg1, lowg1, hb1⟩
  have hs1 := hb1.size
  have ltg1 : g1 < w1.heap.size := rowg1.lt
  have hg1 := RdNo.row rowg1 ltg1 (Nat.le_refl _) (by omega)
  replace hd := (hd.below hb1).more hs1
  have hB1 : Below w.heap.size w w1 := (Below.refl w.heap.size w).trans (hb1.mono (by omega))
  go_wp2_with fail
  refine (sFormulaSize w1 (some ⟨g1, 0, none⟩) n n _ hg1 (by omega)).mono ?_
  rintro e w2 ⟨rfl, hb2⟩
  have hs2 := hb2.size
  replace hd := (hd.below hb2).more hs2
  replace hg1 := (hg1.below hb2).more hs2
  have hB2 : Below w.heap.size w w2 := hB1.trans (hb2.mono (by omega))
  go_wp2_with fail
  refine (toNodes w2 A n c _ hd (by omega)).mono ?_
  rintro e w3 ⟨g3, rfl, rowg3, lowg3, hb3⟩
  have hs3 := hb3.size
  have ltg3 : g3 < w3.heap.size := rowg3.lt
  have hg3 := RdNo.row rowg3 ltg3 (Nat.le_refl _) (by omega)
  replace hd := (hd.below hb3).more hs3
  have hB3 : Below w.heap.size w w3 := hB2.trans (hb3.mono (by omega))
  go_wp2_with fail
  refine (iFormulaSize w3 (some ⟨g3, 0, none⟩) n n _ hg3 (by omega)).mono ?_
  rintro e w4 ⟨rfl, hb4⟩
  have hs4 := hb4.size
  replace hd := (hd.below hb4).more hs4
  replace hg3 := (hg3.below hb4).more hs4
  have hB4 : Below w.heap.size w w4 := hB3.trans (hb4.mono (by omega))
  go_wp2_with fail
  refine (toNodes w4 A n c _ hd (by omega)).mono ?_
  rintro e w5 ⟨g5, rfl, rowg5, lowg5, hb5⟩
  have hs5 := hb5.size
  have ltg5 : g5 < w5.heap.size := rowg5.lt
  have hg5 := RdNo.row rowg5 ltg5 (Nat.le_refl _) (by omega)
  replace hd := (hd.below hb5).more hs5
  replace hg3 := (hg3.below hb5).more hs5
  have hB5 : Below w.heap.size w w5 := hB4.trans (hb5.mono (by omega))
  go_wp2_with fail
  refine (eqNodes w5 (some ⟨g3, 0, none⟩) (some ⟨g5, 0, none⟩) n n n n _ _ hg3 hg5 ⟨rfl, fun _ _ => rfl⟩).mono ?_
  rintro e w6 ⟨rfl, hb6⟩
  have hs6 := hb6.size
  replace hg3 := (hg3.below hb6).more hs6
  replace hg5 := (hg5.below hb6).more hs6
  have hB6 : Below w.heap.size w w6 := hB5.trans (hb6.mono (by omega))
  go_wp2_with fail
  go_ret
  exact ⟨rfl, hB6⟩
end Go.Proofs.Ytdccdoodmiihbaa
