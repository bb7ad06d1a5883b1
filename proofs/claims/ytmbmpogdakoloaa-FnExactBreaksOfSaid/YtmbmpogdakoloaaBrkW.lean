/- The given statement of BreaksOf. No conditions. -/
import Derived.Test.YtmbmpogdakoloaaBrk
namespace Go.Proofs.Ytmbmpogdakoloaa
open Go.RowKit

set_option maxHeartbeats 3200000 in
theorem walkBreaksOf (A : Option Addr) (n c : Nat) (L : Nat → Sp) (w : World) (hd : RdSp w w.heap.size A n L) :
    Calls Try.prog 10 #[.slice A n c] w fun e w' => e = .returned (.bool true) ∧ Below w.heap.size w w' := by
  have hn := hd.1
  by_cases t1 : (1048576 : Int) < n
  · go_enter Try.func10, Try.ntmps10
    go_wp2_with fail
    refine (szSpells w A n c hn).mono ?_
    rintro e w' ⟨rfl, rfl⟩
    rw [if_pos (show (1048576 : Int) < n by omega)]
    go_wp2_with fail
    go_ret
    exact ⟨rfl, Below.refl _ _⟩
  have t2 : (0 : Int) ≤ 1048576 - n := by omega
  have hnm : n ≤ maxLen := by unfold maxLen; omega
  obtain ⟨m, hm⟩ : ∃ m, m = (breaksL n L).length := ⟨_, rfl⟩
  obtain ⟨M, hM⟩ : ∃ M : Nat → Sg, M = fun i => (breaksL n L).getD i Sg.zero := ⟨_, rfl⟩
  have hm3 : m ≤ 2097152 := by rw [hm]; exact by have := breaks_len n L; omega
  have Cs : ∀ (v : World) (g : Nat), RdSp v v.heap.size (some ⟨g, 0, none⟩) n L → Calls Try.prog 33 #[.slice (some ⟨g, 0, none⟩) n n] v fun e w' => ∃ (B : Option Addr) (cc : Nat), e = .returned (.slice B m cc) ∧ OwR w' v.heap.size 31 3 (.slice B m cc) m (sgAt M) ∧ Below v.heap.size v w' := by
    intro v g hh
    refine (sBreaksOf v (some ⟨g, 0, none⟩) n n L hh).mono ?_
    rintro e w' ⟨u, rfl, ho, hb⟩
    have ho := OwSg.list ho rfl
    subst hm hM
    obtain ⟨B, cc, hu⟩ := ho.form
    subst hu
    exact ⟨B, cc, rfl, ho, hb⟩
  have Ci : ∀ (v : World) (g : Nat), RdSp v v.heap.size (some ⟨g, 0, none⟩) n L → Calls Try.prog 15 #[.slice (some ⟨g, 0, none⟩) n n] v fun e w' => ∃ (B : Option Addr) (cc : Nat), e = .returned (.slice B m cc) ∧ OwR w' v.heap.size 31 3 (.slice B m cc) m (sgAt M) ∧ Below v.heap.size v w' := by
    intro v g hh
    refine (iBreaksOf v (some ⟨g, 0, none⟩) n n L hh).mono ?_
    rintro e w' ⟨u, rfl, ho, hb⟩
    have ho := OwSg.list ho rfl
    subst hm hM
    obtain ⟨B, cc, hu⟩ := ho.form
    subst hu
    exact ⟨B, cc, rfl, ho, hb⟩
  clear hm hM
  go_enter Try.func10, Try.ntmps10
  go_wp2_with fail
  refine (szSpells w A n c hn).mono ?_
  rintro e w' ⟨rfl, rfl⟩
  rw [if_neg (show ¬ (1048576 : Int) < n by omega)]
  go_wp2_with fail
  refine (toSpells w A n c _ hd (by omega)).mono ?_
  rintro e w1 ⟨g1, rfl, row1, low1, hb1⟩
  have hs1 := hb1.size
  have lt1 := row1.lt
  have hg1 := RdSp.row row1 lt1 (Nat.le_refl _) (by omega)
  have hB1 : Below w.heap.size w w1 := (Below.refl w.heap.size w).trans (hb1.mono (by omega))
  go_wp2_with fail
  refine (Cs w1 g1 hg1).mono ?_
  rintro e w2 ⟨C, cC, rfl, ownW, hb2⟩
  have hs2 := hb2.size
  have hB2 : Below w.heap.size w w2 := hB1.trans (hb2.mono (by omega))
  have hW := RdSg.own ownW
  clear ownW hg1 row1
  go_wp2_with fail
  refine (toSpells w2 A n c _ ((hd.below hB2).more hB2.size) (by omega)).mono ?_
  rintro e w3 ⟨g3, rfl, row3, low3, hb3⟩
  have hs3 := hb3.size
  have lt3 := row3.lt
  have hg3 := RdSp.row row3 lt3 (Nat.le_refl _) (by omega)
  have hB3 : Below w.heap.size w w3 := hB2.trans (hb3.mono (by omega))
  have hC3 : Below w2.heap.size w2 w3 := (Below.refl w2.heap.size w2).trans (hb3.mono (by omega))
  have own3 : OwR w3 w2.heap.size 29 4 (.slice (some ⟨g3, 0, none⟩) n n) n (spAt L) := OwR.of_row row3 low3 hnm
  go_wp2_with fail
  refine (Ci w3 g3 hg3).mono ?_
  rintro e w4 ⟨B, cB, rfl, ownG, hb4⟩
  have hs4 := hb4.size
  replace hg3 := (hg3.below hb4).more hs4
  replace own3 := own3.all hb4
  have hB4 : Below w.heap.size w w4 := hB3.trans (hb4.mono (by omega))
  have hC4 : Below w2.heap.size w2 w4 := hC3.trans (hb4.mono (by omega))
  go_wp2_with fail
  refine (eqSegments w4 B C m m cB cC _ _ (RdSg.own ownG) ((hW.below hC4).more hC4.size) ⟨rfl, fun _ _ => rfl⟩).mono ?_
  rintro e w5 ⟨rfl, hb5⟩
  have hs5 := hb5.size
  replace hg3 := (hg3.below hb5).more hs5
  replace own3 := own3.all hb5
  replace ownG := ownG.all hb5
  have hB5 : Below w.heap.size w w5 := hB4.trans (hb5.mono (by omega))
  have hC5 : Below w2.heap.size w2 w5 := hC4.trans (hb5.mono (by omega))
  go_wp2_with fail
  refine (toSpells w5 A n c _ ((hd.below hB5).more hB5.size) (by omega)).mono ?_
  rintro e w6 ⟨g6, rfl, row6, low6, hb6⟩
  have hs6 := hb6.size
  have lt6 := row6.lt
  have hg6 := RdSp.row row6 lt6 (Nat.le_refl _) (by omega)
  replace hg3 := (hg3.below hb6).more hs6
  replace own3 := own3.all hb6
  replace ownG := ownG.all hb6
  have hB6 : Below w.heap.size w w6 := hB5.trans (hb6.mono (by omega))
  have hC6 : Below w2.heap.size w2 w6 := hC5.trans (hb6.mono (by omega))
  go_wp2_with fail
  refine (eqSpells w6 (some ⟨g3, 0, none⟩) (some ⟨g6, 0, none⟩) n n n n _ _ hg3 hg6 ⟨rfl, fun _ _ => rfl⟩).mono ?_
  rintro e w7 ⟨rfl, hb7⟩
  have hs7 := hb7.size
  replace own3 := own3.all hb7
  replace ownG := ownG.all hb7
  have hB7 : Below w.heap.size w w7 := hB6.trans (hb7.mono (by omega))
  have hC7 : Below w2.heap.size w2 w7 := hC6.trans (hb7.mono (by omega))
  have hw3 : w.heap.size ≤ w2.heap.size := hB2.size
  clear hg3 hg6 row3 row6
  go_wp2_with fail
  refine (markSpells w7 w2.heap.size (some ⟨g3, 0, none⟩) n n _ 1 own3 (by omega) (by omega) (by omega)).mono ?_
  rintro e w8 ⟨rfl, -, hgr8⟩
  have hk8 : ¬ (1 : Int) + 4 * (n : Int) < 0 := by omega
  have hgr8 : w7.grownBy w8 (some g3) := hgr8
  have hs8 := hgr8.size
  have hB8 : Below w.heap.size w w8 := hB7.grown hgr8 hB7.size (fun q hq => by injection hq; omega)
  have hC8 : Below w2.heap.size w2 w8 := hC7.grown hgr8 hC7.size (fun q hq => by injection hq; omega)
  replace ownG := ownG.other hgr8 lt3
  clear own3 hgr8
  go_wp2_with fail
  refine (eqSegments w8 B C m m cB cC _ _ (RdSg.own ownG) ((hW.below hC8).more hC8.size) ⟨rfl, fun _ _ => rfl⟩).mono ?_
  rintro e w9 ⟨rfl, hb9⟩
  have hs9 := hb9.size
  replace ownG := ownG.all hb9
  have hB9 : Below w.heap.size w w9 := hB8.trans (hb9.mono (by omega))
  have hC9 : Below w2.heap.size w2 w9 := hC8.trans (hb9.mono (by omega))
  go_wp2_with fail
  refine (markSegments w9 w3.heap.size B m cB _ 1 ownG (by omega) (by omega) (by omega)).mono ?_
  rintro e w10 ⟨rfl, ownM, hgr10⟩
  have hs10 := hgr10.size
  have hk10 : ¬ (1 : Int) + 3 * (m : Int) < 0 := by omega
  have hB10 : Below w.heap.size w w10 := hB9.grown hgr10 hB9.size (fun q hq => by have := (ownG.lt q hq).1; omega)
  have hC10 : Below w2.heap.size w2 w10 := hC9.grown hgr10 hC9.size (fun q hq => by have := (ownG.lt q hq).1; omega)
  clear ownG hgr10
  go_wp2_with fail
  refine (heldSegments w10 B m cB 1 (RdSg.own ownM) (by omega) (by omega) (by omega)).mono ?_
  rintro e w' ⟨rfl, rfl⟩
  go_wp2_with fail
  refine (toSpells w10 A n c _ ((hd.below hB10).more hB10.size) (by omega)).mono ?_
  rintro e w11 ⟨g11, rfl, row11, low11, hb11⟩
  have hs11 := hb11.size
  have lt11 := row11.lt
  have hg11 := RdSp.row row11 lt11 (Nat.le_refl _) (by omega)
  replace ownM := ownM.all hb11
  have hB11 : Below w.heap.size w w11 := hB10.trans (hb11.mono (by omega))
  have hC11 : Below w2.heap.size w2 w11 := hC10.trans (hb11.mono (by omega))
  go_wp2_with fail
  refine (Ci w11 g11 hg11).mono ?_
  rintro e w12 ⟨D, cD, rfl, ownH, hb12⟩
  have hs12 := hb12.size
  replace ownM := ownM.all hb12
  have hB12 : Below w.heap.size w w12 := hB11.trans (hb12.mono (by omega))
  have hC12 : Below w2.heap.size w2 w12 := hC11.trans (hb12.mono (by omega))
  go_wp2_with fail
  refine (eqSegments w12 D C m m cD cC _ _ (RdSg.own ownH) ((hW.below hC12).more hC12.size) ⟨rfl, fun _ _ => rfl⟩).mono ?_
  rintro e w13 ⟨rfl, hb13⟩
  have hs13 := hb13.size
  replace ownM := ownM.all hb13
  have hB13 : Below w.heap.size w w13 := hB12.trans (hb13.mono (by omega))
  have hC13 : Below w2.heap.size w2 w13 := hC12.trans (hb13.mono (by omega))
  go_wp2_with fail
  refine (heldSegments w13 B m cB 1 (RdSg.own ownM) (by omega) (by omega) (by omega)).mono ?_
  rintro e w' ⟨rfl, rfl⟩
  go_wp2_with fail
  go_ret
  exact ⟨rfl, hB13⟩
end Go.Proofs.Ytmbmpogdakoloaa
