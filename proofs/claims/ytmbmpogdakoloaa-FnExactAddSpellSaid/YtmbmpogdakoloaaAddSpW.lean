/- The given statement of AddSpell. No conditions. -/
import Derived.Test.YtmbmpogdakoloaaSAdd
import Derived.Deep.RegionHeld3
import Derived.Deep.DeepCutAuto
namespace Go.Proofs.Ytmbmpogdakoloaa
open Go.RowKit
set_option linter.unusedVariables false
set_option linter.unusedSimpArgs false
theorem addN_le (n : Nat) (L : Nat → Sp) (x : Sp) : addN n L x ≤ n + 1 := by rw [addN]; split <;> omega

set_option maxRecDepth 8000 in
set_option maxHeartbeats 6400000 in
theorem walkAddSpell (A : Option Addr) (n c : Nat) (L : Nat → Sp) (x : Sp) (w : World) (hd : RdSp w w.heap.size A n L) :
    Calls Try.prog 12 #[.slice A n c, x.val] w fun e w' => e = .returned (.bool true) ∧ Below w.heap.size w w' := by
  have hn := hd.1
  have hbx0 : Below w.heap.size w (w.alloc (.cells #[.int .i64 x.f, .int .i64 x.t, .int .i64 x.p, .bool x.v] 58)) := (Below.refl _ _).alloc (Nat.le_refl _) _
  have pX0 : Whole (w.alloc (.cells #[.int .i64 x.f, .int .i64 x.t, .int .i64 x.p, .bool x.v] 58)) w.heap.size 58 #[.int .i64 x.f, .int .i64 x.t, .int .i64 x.p, .bool x.v] := Whole.new w _ _
  by_cases t1 : (1048576 : Int) < n
  · go_enter Try.func12, Try.ntmps12
    go_wp2_with fail
    refine (szSpells (w.alloc (.cells #[.int .i64 x.f, .int .i64 x.t, .int .i64 x.p, .bool x.v] 58)) A n c hn).mono ?_
    rintro e w' ⟨rfl, rfl⟩
    rw [if_pos (show (1048576 : Int) < n by omega)]
    go_wp2_with fail
    go_ret
    exact ⟨rfl, hbx0⟩
  have t2 : (0 : Int) ≤ 1048576 - n := by omega
  have hnm : n ≤ maxLen := by unfold maxLen; omega
  have hn2 : n ≤ 1048576 := by omega
  obtain ⟨m, hm⟩ : ∃ m, m = addN n L x := ⟨_, rfl⟩
  obtain ⟨M, hM⟩ : ∃ M, M = addM n L x := ⟨_, rfl⟩
  obtain ⟨b0, hb0⟩ : ∃ b, b = addOk n L x := ⟨_, rfl⟩
  have hm3 : m ≤ 2097152 := by rw [hm]; have := addN_le n L x; omega
  have Cs : ∀ (v : World) (g : Nat), RdSp v v.heap.size (some ⟨g, 0, none⟩) n L → Calls Try.prog 39 #[.slice (some ⟨g, 0, none⟩) n n, x.val] v fun e w' => ∃ (B : Option Addr) (cc : Nat), e = .returned (.tuple #[.slice B m cc, .bool b0]) ∧ OwR w' v.heap.size 29 4 (.slice B m cc) m (spAt M) ∧ Below v.heap.size v w' := fun v g hh => by
    rw [hm, hM, hb0]
    exact sAddSpell v ⟨g, 0, none⟩ n n L x hh (by omega)
  have Ci : ∀ (v : World) (g : Nat), RdSp v v.heap.size (some ⟨g, 0, none⟩) n L → Calls Try.prog 38 #[.slice (some ⟨g, 0, none⟩) n n, x.val] v fun e w' => ∃ (B : Option Addr) (cc : Nat), e = .returned (.tuple #[.slice B m cc, .bool b0]) ∧ OwR w' v.heap.size 29 4 (.slice B m cc) m (spAt M) ∧ Below v.heap.size v w' := fun v g hh => by
    rw [hm, hM, hb0]
    exact iAddSpell v (some ⟨g, 0, none⟩) n n L x hh (fun e => by cases e) (by omega)
  clear hm hM hb0
  go_enter Try.func12, Try.ntmps12
  go_wp2_with fail
  refine (szSpells (w.alloc (.cells #[.int .i64 x.f, .int .i64 x.t, .int .i64 x.p, .bool x.v] 58)) A n c hn).mono ?_
  rintro e w' ⟨rfl, rfl⟩
  rw [if_neg (show ¬ (1048576 : Int) < n by omega)]
  obtain ⟨wq, hwq⟩ : ∃ v, v = (w.alloc (.cells #[.int .i64 x.f, .int .i64 x.t, .int .i64 x.p, .bool x.v] 58)) := ⟨_, rfl⟩
  rw [← hwq] at hbx0 pX0
  go_upto_region 5 with fail
  rw [← hwq]
  clear hwq
  have c0 : wq.cell? ⟨w.heap.size, 0, none⟩ = some (.int .i64 x.f) := pX0.cell 0
  have c1 : wq.cell? ⟨w.heap.size, 1, none⟩ = some (.int .i64 x.t) := pX0.cell 1
  have c2 : wq.cell? ⟨w.heap.size, 2, none⟩ = some (.int .i64 x.p) := pX0.cell 2
  have c3 : wq.cell? ⟨w.heap.size, 3, none⟩ = some (.bool x.v) := pX0.cell 3
  have cz : w.heap.size < wq.heap.size := pX0.lt
  have KU : ∀ v, Below wq.heap.size wq v → (fun w' => w'.cell? ⟨w.heap.size, 0, none⟩ = some (.int .i64 x.f) ∧ w'.cell? ⟨w.heap.size, 1, none⟩ = some (.int .i64 x.t) ∧ w'.cell? ⟨w.heap.size, 2, none⟩ = some (.int .i64 x.p) ∧ w'.cell? ⟨w.heap.size, 3, none⟩ = some (.bool x.v) ∧ w.heap.size < w'.heap.size ∧ ¬ w.heap.size = w'.heap.size ∧ Below wq.heap.size wq w') v := fun v hb => ⟨((keepc hb).1 _ _ (by omega)).trans c0, ((keepc hb).1 _ _ (by omega)).trans c1, ((keepc hb).1 _ _ (by omega)).trans c2, ((keepc hb).1 _ _ (by omega)).trans c3, Nat.lt_of_lt_of_le cz hb.size, Nat.ne_of_lt (Nat.lt_of_lt_of_le cz hb.size), hb⟩
  have hBz := hbx0.size
  have hdP := (hd.below hbx0).more hbx0.size
  go_upto_region 5 with fail
  go_cut [6, 7] (fun sa sb wx => ∃ (B : Option Addr) (cc : Nat), sa = .slice B m cc ∧ sb = .bool b0 ∧ RdSp wx wx.heap.size B m M ∧ Below wq.heap.size wq wx)
  case first =>
    go_region_held3 (fun w' => w'.cell? ⟨w.heap.size, 0, none⟩ = some (.int .i64 x.f) ∧ w'.cell? ⟨w.heap.size, 1, none⟩ = some (.int .i64 x.t) ∧ w'.cell? ⟨w.heap.size, 2, none⟩ = some (.int .i64 x.p) ∧ w'.cell? ⟨w.heap.size, 3, none⟩ = some (.bool x.v) ∧ w.heap.size < w'.heap.size ∧ ¬ w.heap.size = w'.heap.size ∧ Below wq.heap.size wq w') (first | (with_reducible assumption) | exact KU _ (by ((repeat (first | (with_reducible exact Below.refl _ _) | (with_reducible assumption) | (with_reducible refine Below.drew ?_) | (with_reducible refine below_drewN ?_ _) | ((with_reducible refine Below.setCell ?_ ?_ _); rotate_left; focus (first | (simp; done) | omega | (simp; omega))) | ((with_reducible refine Below.alloc ?_ ?_ _); rotate_left; focus (first | exact Nat.le_refl _ | omega | (simp; done) | (simp; omega))))); first | done | (simp [*]; done))))
      (first
        | (go_at_call 18; refine (toSpells _ A n c L (RdSp.more (RdSp.below hdP (show Below wq.heap.size wq _ from (by ((repeat (first | (with_reducible exact Below.refl _ _) | (with_reducible assumption) | (with_reducible refine Below.drew ?_) | (with_reducible refine below_drewN ?_ _) | ((with_reducible refine Below.setCell ?_ ?_ _); rotate_left; focus (first | (simp; done) | omega | (simp; omega))) | ((with_reducible refine Below.alloc ?_ ?_ _); rotate_left; focus (first | exact Nat.le_refl _ | omega | (simp; done) | (simp; omega))))); first | done | (simp [*]; done))))) (by first | exact Nat.le_refl _ | (simp; done) | (simp; omega) | omega)) hn2).mono ?_; rintro e wa ⟨ga, rfl, rowa, -, hba⟩; obtain ⟨hca, hfa⟩ := keepc hba; have hqa := keepz hba; have hza := hba.size; (try simp only [World.size_alloc, World.size_drew] at hza); have hla : Below wq.heap.size wq wa := (show Below wq.heap.size wq _ from (by ((repeat (first | (with_reducible exact Below.refl _ _) | (with_reducible assumption) | (with_reducible refine Below.drew ?_) | (with_reducible refine below_drewN ?_ _) | ((with_reducible refine Below.setCell ?_ ?_ _); rotate_left; focus (first | (simp; done) | omega | (simp; omega))) | ((with_reducible refine Below.alloc ?_ ?_ _); rotate_left; focus (first | exact Nat.le_refl _ | omega | (simp; done) | (simp; omega))))); first | done | (simp [*]; done)))).trans (hba.mono (by first | exact Nat.le_refl _ | (simp; done) | (simp; omega) | omega)); have hSa := KU wa hla; have hsa := hla.size; have hga : RdSp wa wa.heap.size (some ⟨ga, 0, none⟩) n L := RdSp.row rowa rowa.lt (Nat.le_refl _) (by omega); clear hba rowa hza)
        | (go_at_call 40; refine (toSpell_any x _).mono ?_; rintro e wb ⟨rfl, hbb⟩; obtain ⟨hcb, hfb⟩ := keepc hbb; have hqb := keepz hbb; have hzb := hbb.size; (try simp only [World.size_alloc, World.size_drew] at hzb); have hab : Below wa.heap.size wa wb := (show Below wa.heap.size wa _ from (by ((repeat (first | (with_reducible exact Below.refl _ _) | (with_reducible assumption) | (with_reducible refine Below.drew ?_) | (with_reducible refine below_drewN ?_ _) | ((with_reducible refine Below.setCell ?_ ?_ _); rotate_left; focus (first | (simp; done) | omega | (simp; omega))) | ((with_reducible refine Below.alloc ?_ ?_ _); rotate_left; focus (first | exact Nat.le_refl _ | omega | (simp; done) | (simp; omega))))); first | done | (simp [*]; done)))).trans (hbb.mono (by first | exact Nat.le_refl _ | (simp; done) | (simp; omega) | omega)); have hlb := hla.trans (hab.mono hsa); have hSb := KU wb hlb; have hsb := hab.size; have hga2 := (hga.below hab).more hsb; clear hbb hzb)
        | (go_at_call 39; refine (Cs _ ga (RdSp.more (RdSp.below hga2 (show Below wb.heap.size wb _ from (by ((repeat (first | (with_reducible exact Below.refl _ _) | (with_reducible assumption) | (with_reducible refine Below.drew ?_) | (with_reducible refine below_drewN ?_ _) | ((with_reducible refine Below.setCell ?_ ?_ _); rotate_left; focus (first | (simp; done) | omega | (simp; omega))) | ((with_reducible refine Below.alloc ?_ ?_ _); rotate_left; focus (first | exact Nat.le_refl _ | omega | (simp; done) | (simp; omega))))); first | done | (simp [*]; done))))) (by first | exact Nat.le_refl _ | (simp; done) | (simp; omega) | omega))).mono ?_; rintro e wd ⟨Bd, cd, rfl, ownd, hbd⟩; obtain ⟨hcd, hfd⟩ := keepc hbd; have hqd := keepz hbd; have hzd := hbd.size; (try simp only [World.size_alloc, World.size_drew] at hzd); have hbd2 : Below wb.heap.size wb wd := (show Below wb.heap.size wb _ from (by ((repeat (first | (with_reducible exact Below.refl _ _) | (with_reducible assumption) | (with_reducible refine Below.drew ?_) | (with_reducible refine below_drewN ?_ _) | ((with_reducible refine Below.setCell ?_ ?_ _); rotate_left; focus (first | (simp; done) | omega | (simp; omega))) | ((with_reducible refine Below.alloc ?_ ?_ _); rotate_left; focus (first | exact Nat.le_refl _ | omega | (simp; done) | (simp; omega))))); first | done | (simp [*]; done)))).trans (hbd.mono (by first | exact Nat.le_refl _ | (simp; done) | (simp; omega) | omega)); have hld := hlb.trans (hbd2.mono (by omega)); have hSd := KU wd hld; have hsd := hbd2.size; clear hbd hzd))
    all_goals
      go_wp2_with fail
      go_meet
      exact ⟨Bd, cd, rfl, rfl, RdSp.more (RdSp.below (RdSp.own ownd) (by ((repeat (first | (with_reducible exact Below.refl _ _) | (with_reducible assumption) | (with_reducible refine Below.drew ?_) | (with_reducible refine below_drewN ?_ _) | ((with_reducible refine Below.setCell ?_ ?_ _); rotate_left; focus (first | (simp; done) | omega | (simp; omega))) | ((with_reducible refine Below.alloc ?_ ?_ _); rotate_left; focus (first | exact Nat.le_refl _ | omega | (simp; done) | (simp; omega))))); first | done | (simp [*]; done)))) (by first | exact Nat.le_refl _ | (simp; done) | (simp; omega) | omega), by ((repeat (first | (with_reducible exact Below.refl _ _) | (with_reducible assumption) | (with_reducible refine Below.drew ?_) | (with_reducible refine below_drewN ?_ _) | ((with_reducible refine Below.setCell ?_ ?_ _); rotate_left; focus (first | (simp; done) | omega | (simp; omega))) | ((with_reducible refine Below.alloc ?_ ?_ _); rotate_left; focus (first | exact Nat.le_refl _ | omega | (simp; done) | (simp; omega))))); first | done | (simp [*]; done))⟩
  case rest =>
    clear KU hBz hdP
    clear c0 c1 c2 c3 cz
    obtain ⟨C, cC, rfl, rfl, hW, hb1⟩ := hcut
    obtain ⟨w1, hwq⟩ : ∃ v, v = wc := ⟨_, rfl⟩
    rw [← hwq] at hW hb1 ⊢
    clear hwq wc
    have hs1 := hb1.size
    have hB1 : Below w.heap.size w w1 := hbx0.trans (hb1.mono hbx0.size)
    have pX1 := pX0.below hb1 pX0.lt
    clear hb1 pX0 hbx0
    go_wp2_with fail
    refine (toSpells w1 A n c L ((hd.below hB1).more hB1.size) hn2).mono ?_
    rintro e w2 ⟨g2, rfl, row2, low2, hb2⟩
    have hs2 := hb2.size
    have hB2 : Below w.heap.size w w2 := hB1.trans (hb2.mono hB1.size)
    have hC2 : Below w1.heap.size w1 w2 := (Below.refl w1.heap.size w1).trans (hb2.mono (Below.refl w1.heap.size w1).size)
    have lt2 := row2.lt
    have hg2 : RdSp w2 w2.heap.size (some ⟨g2, 0, none⟩) n L := RdSp.row row2 lt2 (Nat.le_refl _) (by omega)
    have own2 : OwR w2 w1.heap.size 29 4 (.slice (some ⟨g2, 0, none⟩) n n) n (spAt L) := OwR.of_row row2 low2 hnm
    clear row2
    have pXq := pX1.below hC2 pX1.lt
    have c0 : w2.cell? ⟨w.heap.size, 0, none⟩ = some (.int .i64 x.f) := pXq.cell 0
    have c1 : w2.cell? ⟨w.heap.size, 1, none⟩ = some (.int .i64 x.t) := pXq.cell 1
    have c2 : w2.cell? ⟨w.heap.size, 2, none⟩ = some (.int .i64 x.p) := pXq.cell 2
    have c3 : w2.cell? ⟨w.heap.size, 3, none⟩ = some (.bool x.v) := pXq.cell 3
    have cz : w.heap.size < w2.heap.size := pXq.lt
    go_wp2_with fail
    refine (toSpell_any x w2).mono ?_
    rintro e w3 ⟨rfl, hb3⟩
    have hs3 := hb3.size
    have hB3 : Below w.heap.size w w3 := hB2.trans (hb3.mono hB2.size)
    have hC3 : Below w1.heap.size w1 w3 := (hC2).trans (hb3.mono (hC2).size)
    replace hg2 := (hg2.below hb3).more hs3
    replace own2 := own2.all hb3
    clear c0 c1 c2 c3 cz
    clear pXq
    go_wp2_with fail
    refine (Ci w3 g2 hg2).mono ?_
    rintro e w4 ⟨B, cB, rfl, ownG, hb4⟩
    have hs4 := hb4.size
    have hB4 : Below w.heap.size w w4 := hB3.trans (hb4.mono hB3.size)
    have hC4 : Below w1.heap.size w1 w4 := (hC3).trans (hb4.mono (hC3).size)
    replace hg2 := (hg2.below hb4).more hs4
    replace own2 := own2.all hb4
    go_wp2_with fail
    refine (eqSpells w4 B C m m cB cC _ _ (RdSp.own ownG) ((hW.below (hC4)).more (hC4).size) ⟨rfl, fun _ _ => rfl⟩).mono ?_
    rintro e w5 ⟨rfl, hb5⟩
    have hs5 := hb5.size
    have hB5 : Below w.heap.size w w5 := hB4.trans (hb5.mono hB4.size)
    have hC5 : Below w1.heap.size w1 w5 := (hC4).trans (hb5.mono (hC4).size)
    replace hg2 := (hg2.below hb5).more hs5
    replace own2 := own2.all hb5
    replace ownG := ownG.all hb5
    go_wp2_with fail
    refine (toSpells w5 A n c L ((hd.below hB5).more hB5.size) hn2).mono ?_
    rintro e w6 ⟨g6, rfl, row6, low6, hb6⟩
    have hs6 := hb6.size
    have hB6 : Below w.heap.size w w6 := hB5.trans (hb6.mono hB5.size)
    have hC6 : Below w1.heap.size w1 w6 := (hC5).trans (hb6.mono (hC5).size)
    replace hg2 := (hg2.below hb6).more hs6
    replace own2 := own2.all hb6
    replace ownG := ownG.all hb6
    have lt6 := row6.lt
    have hg6 : RdSp w6 w6.heap.size (some ⟨g6, 0, none⟩) n L := RdSp.row row6 lt6 (Nat.le_refl _) (by omega)
    go_wp2_with fail
    refine (eqSpells w6 (some ⟨g2, 0, none⟩) (some ⟨g6, 0, none⟩) n n n n _ _ hg2 hg6 ⟨rfl, fun _ _ => rfl⟩).mono ?_
    rintro e w7 ⟨rfl, hb7⟩
    have hs7 := hb7.size
    have hB7 : Below w.heap.size w w7 := hB6.trans (hb7.mono hB6.size)
    have hC7 : Below w1.heap.size w1 w7 := (hC6).trans (hb7.mono (hC6).size)
    replace own2 := own2.all hb7
    replace ownG := ownG.all hb7
    clear hg2 hg6 row6
    go_wp2_with fail
    refine (markSpells w7 w1.heap.size (some ⟨g2, 0, none⟩) n n _ 1 own2 (by omega) (by omega) (by omega)).mono ?_
    rintro e w8 ⟨rfl, -, hgr8⟩
    have hk8 : ¬ (1 : Int) + 4 * (n : Int) < 0 := by omega
    have hgr8 : w7.grownBy w8 (some g2) := hgr8
    have hs8 := hgr8.size
    have hB8 : Below w.heap.size w w8 := hB7.grown hgr8 hB7.size (fun q hq => by injection hq; have := hB1.size; omega)
    have hC8 : Below w1.heap.size w1 w8 := hC7.grown hgr8 hC7.size (fun q hq => by injection hq; omega)
    replace ownG := ownG.other hgr8 (by omega)
    clear own2 hgr8
    go_wp2_with fail
    refine (eqSpells w8 B C m m cB cC _ _ (RdSp.own ownG) ((hW.below (hC8)).more (hC8).size) ⟨rfl, fun _ _ => rfl⟩).mono ?_
    rintro e w9 ⟨rfl, hb9⟩
    have hs9 := hb9.size
    have hB9 : Below w.heap.size w w9 := hB8.trans (hb9.mono hB8.size)
    have hC9 : Below w1.heap.size w1 w9 := (hC8).trans (hb9.mono (hC8).size)
    replace ownG := ownG.all hb9
    go_wp2_with fail
    refine (markSpells w9 w3.heap.size B m cB _ 1 ownG (by omega) (by omega) (by omega)).mono ?_
    rintro e w10 ⟨rfl, ownM, hgr10⟩
    have hs10 := hgr10.size
    have hk10 : ¬ (1 : Int) + 4 * (m : Int) < 0 := by omega
    have hB10 : Below w.heap.size w w10 := hB9.grown hgr10 hB9.size (fun q hq => by have := (ownG.lt q hq).1; have := hB3.size; omega)
    have hC10 : Below w1.heap.size w1 w10 := hC9.grown hgr10 hC9.size (fun q hq => by have := (ownG.lt q hq).1; have := hC3.size; omega)
    clear ownG hgr10
    go_wp2_with fail
    refine (heldSpells w10 B m cB 1 (RdSp.own ownM) (by omega) (by omega) (by omega)).mono ?_
    rintro e w' ⟨rfl, rfl⟩
    have pX10 := pX1.below hC10 pX1.lt
    skip
    have c0 : w10.cell? ⟨w.heap.size, 0, none⟩ = some (.int .i64 x.f) := pX10.cell 0
    have c1 : w10.cell? ⟨w.heap.size, 1, none⟩ = some (.int .i64 x.t) := pX10.cell 1
    have c2 : w10.cell? ⟨w.heap.size, 2, none⟩ = some (.int .i64 x.p) := pX10.cell 2
    have c3 : w10.cell? ⟨w.heap.size, 3, none⟩ = some (.bool x.v) := pX10.cell 3
    have cz : w.heap.size < w10.heap.size := pX10.lt
    have KU : ∀ v, Below w10.heap.size w10 v → (fun w' => w'.cell? ⟨w.heap.size, 0, none⟩ = some (.int .i64 x.f) ∧ w'.cell? ⟨w.heap.size, 1, none⟩ = some (.int .i64 x.t) ∧ w'.cell? ⟨w.heap.size, 2, none⟩ = some (.int .i64 x.p) ∧ w'.cell? ⟨w.heap.size, 3, none⟩ = some (.bool x.v) ∧ w.heap.size < w'.heap.size ∧ ¬ w.heap.size = w'.heap.size ∧ Below w10.heap.size w10 w') v := fun v hb => ⟨((keepc hb).1 _ _ (by omega)).trans c0, ((keepc hb).1 _ _ (by omega)).trans c1, ((keepc hb).1 _ _ (by omega)).trans c2, ((keepc hb).1 _ _ (by omega)).trans c3, Nat.lt_of_lt_of_le cz hb.size, Nat.ne_of_lt (Nat.lt_of_lt_of_le cz hb.size), hb⟩
    have hBz := hB10.size
    have hdP := (hd.below hB10).more hB10.size
    go_upto_region 24 with fail
    go_cut [14, 15] (fun sa sb wx => ∃ (B : Option Addr) (cc : Nat), sa = .slice B m cc ∧ sb = .bool b0 ∧ RdSp wx wx.heap.size B m M ∧ Below w10.heap.size w10 wx)
    case first =>
      go_region_held3 (fun w' => w'.cell? ⟨w.heap.size, 0, none⟩ = some (.int .i64 x.f) ∧ w'.cell? ⟨w.heap.size, 1, none⟩ = some (.int .i64 x.t) ∧ w'.cell? ⟨w.heap.size, 2, none⟩ = some (.int .i64 x.p) ∧ w'.cell? ⟨w.heap.size, 3, none⟩ = some (.bool x.v) ∧ w.heap.size < w'.heap.size ∧ ¬ w.heap.size = w'.heap.size ∧ Below w10.heap.size w10 w') (first | (with_reducible assumption) | exact KU _ (by ((repeat (first | (with_reducible exact Below.refl _ _) | (with_reducible assumption) | (with_reducible refine Below.drew ?_) | (with_reducible refine below_drewN ?_ _) | ((with_reducible refine Below.setCell ?_ ?_ _); rotate_left; focus (first | (simp; done) | omega | (simp; omega))) | ((with_reducible refine Below.alloc ?_ ?_ _); rotate_left; focus (first | exact Nat.le_refl _ | omega | (simp; done) | (simp; omega))))); first | done | (simp [*]; done))))
        (first
          | (go_at_call 18; refine (toSpells _ A n c L (RdSp.more (RdSp.below hdP (show Below w10.heap.size w10 _ from (by ((repeat (first | (with_reducible exact Below.refl _ _) | (with_reducible assumption) | (with_reducible refine Below.drew ?_) | (with_reducible refine below_drewN ?_ _) | ((with_reducible refine Below.setCell ?_ ?_ _); rotate_left; focus (first | (simp; done) | omega | (simp; omega))) | ((with_reducible refine Below.alloc ?_ ?_ _); rotate_left; focus (first | exact Nat.le_refl _ | omega | (simp; done) | (simp; omega))))); first | done | (simp [*]; done))))) (by first | exact Nat.le_refl _ | (simp; done) | (simp; omega) | omega)) hn2).mono ?_; rintro e wa ⟨ga, rfl, rowa, -, hba⟩; obtain ⟨hca, hfa⟩ := keepc hba; have hqa := keepz hba; have hza := hba.size; (try simp only [World.size_alloc, World.size_drew] at hza); have hla : Below w10.heap.size w10 wa := (show Below w10.heap.size w10 _ from (by ((repeat (first | (with_reducible exact Below.refl _ _) | (with_reducible assumption) | (with_reducible refine Below.drew ?_) | (with_reducible refine below_drewN ?_ _) | ((with_reducible refine Below.setCell ?_ ?_ _); rotate_left; focus (first | (simp; done) | omega | (simp; omega))) | ((with_reducible refine Below.alloc ?_ ?_ _); rotate_left; focus (first | exact Nat.le_refl _ | omega | (simp; done) | (simp; omega))))); first | done | (simp [*]; done)))).trans (hba.mono (by first | exact Nat.le_refl _ | (simp; done) | (simp; omega) | omega)); have hSa := KU wa hla; have hsa := hla.size; have hga : RdSp wa wa.heap.size (some ⟨ga, 0, none⟩) n L := RdSp.row rowa rowa.lt (Nat.le_refl _) (by omega); clear hba rowa hza)
          | (go_at_call 40; refine (toSpell_any x _).mono ?_; rintro e wb ⟨rfl, hbb⟩; obtain ⟨hcb, hfb⟩ := keepc hbb; have hqb := keepz hbb; have hzb := hbb.size; (try simp only [World.size_alloc, World.size_drew] at hzb); have hab : Below wa.heap.size wa wb := (show Below wa.heap.size wa _ from (by ((repeat (first | (with_reducible exact Below.refl _ _) | (with_reducible assumption) | (with_reducible refine Below.drew ?_) | (with_reducible refine below_drewN ?_ _) | ((with_reducible refine Below.setCell ?_ ?_ _); rotate_left; focus (first | (simp; done) | omega | (simp; omega))) | ((with_reducible refine Below.alloc ?_ ?_ _); rotate_left; focus (first | exact Nat.le_refl _ | omega | (simp; done) | (simp; omega))))); first | done | (simp [*]; done)))).trans (hbb.mono (by first | exact Nat.le_refl _ | (simp; done) | (simp; omega) | omega)); have hlb := hla.trans (hab.mono hsa); have hSb := KU wb hlb; have hsb := hab.size; have hga2 := (hga.below hab).more hsb; clear hbb hzb)
          | (go_at_call 38; refine (Ci _ ga (RdSp.more (RdSp.below hga2 (show Below wb.heap.size wb _ from (by ((repeat (first | (with_reducible exact Below.refl _ _) | (with_reducible assumption) | (with_reducible refine Below.drew ?_) | (with_reducible refine below_drewN ?_ _) | ((with_reducible refine Below.setCell ?_ ?_ _); rotate_left; focus (first | (simp; done) | omega | (simp; omega))) | ((with_reducible refine Below.alloc ?_ ?_ _); rotate_left; focus (first | exact Nat.le_refl _ | omega | (simp; done) | (simp; omega))))); first | done | (simp [*]; done))))) (by first | exact Nat.le_refl _ | (simp; done) | (simp; omega) | omega))).mono ?_; rintro e wd ⟨Bd, cd, rfl, ownd, hbd⟩; obtain ⟨hcd, hfd⟩ := keepc hbd; have hqd := keepz hbd; have hzd := hbd.size; (try simp only [World.size_alloc, World.size_drew] at hzd); have hbd2 : Below wb.heap.size wb wd := (show Below wb.heap.size wb _ from (by ((repeat (first | (with_reducible exact Below.refl _ _) | (with_reducible assumption) | (with_reducible refine Below.drew ?_) | (with_reducible refine below_drewN ?_ _) | ((with_reducible refine Below.setCell ?_ ?_ _); rotate_left; focus (first | (simp; done) | omega | (simp; omega))) | ((with_reducible refine Below.alloc ?_ ?_ _); rotate_left; focus (first | exact Nat.le_refl _ | omega | (simp; done) | (simp; omega))))); first | done | (simp [*]; done)))).trans (hbd.mono (by first | exact Nat.le_refl _ | (simp; done) | (simp; omega) | omega)); have hld := hlb.trans (hbd2.mono (by omega)); have hSd := KU wd hld; have hsd := hbd2.size; clear hbd hzd))
      all_goals
        go_wp2_with fail
        go_meet
        exact ⟨Bd, cd, rfl, rfl, RdSp.more (RdSp.below (RdSp.own ownd) (by ((repeat (first | (with_reducible exact Below.refl _ _) | (with_reducible assumption) | (with_reducible refine Below.drew ?_) | (with_reducible refine below_drewN ?_ _) | ((with_reducible refine Below.setCell ?_ ?_ _); rotate_left; focus (first | (simp; done) | omega | (simp; omega))) | ((with_reducible refine Below.alloc ?_ ?_ _); rotate_left; focus (first | exact Nat.le_refl _ | omega | (simp; done) | (simp; omega))))); first | done | (simp [*]; done)))) (by first | exact Nat.le_refl _ | (simp; done) | (simp; omega) | omega), by ((repeat (first | (with_reducible exact Below.refl _ _) | (with_reducible assumption) | (with_reducible refine Below.drew ?_) | (with_reducible refine below_drewN ?_ _) | ((with_reducible refine Below.setCell ?_ ?_ _); rotate_left; focus (first | (simp; done) | omega | (simp; omega))) | ((with_reducible refine Below.alloc ?_ ?_ _); rotate_left; focus (first | exact Nat.le_refl _ | omega | (simp; done) | (simp; omega))))); first | done | (simp [*]; done))⟩
    case rest =>
      clear KU hBz hdP
      clear c0 c1 c2 c3 cz
      obtain ⟨D, cD, rfl, rfl, hD, hb11⟩ := hcut
      obtain ⟨w11, hwq⟩ : ∃ v, v = wc := ⟨_, rfl⟩
      rw [← hwq] at hD hb11 ⊢
      clear hwq wc
      have hs11 := hb11.size
      have hB11 : Below w.heap.size w w11 := hB10.trans (hb11.mono hB10.size)
      have hC11 : Below w1.heap.size w1 w11 := (hC10).trans (hb11.mono (hC10).size)
      replace ownM := ownM.all hb11
      go_wp2_with fail
      refine (eqSpells w11 D C m m cD cC _ _ hD ((hW.below hC11).more hC11.size) ⟨rfl, fun _ _ => rfl⟩).mono ?_
      rintro e w12 ⟨rfl, hb12⟩
      have hs12 := hb12.size
      have hB12 : Below w.heap.size w w12 := hB11.trans (hb12.mono hB11.size)
      have hC12 : Below w1.heap.size w1 w12 := (hC11).trans (hb12.mono (hC11).size)
      replace ownM := ownM.all hb12
      go_wp2_with fail
      refine (heldSpells w12 B m cB 1 (RdSp.own ownM) (by omega) (by omega) (by omega)).mono ?_
      rintro e w' ⟨rfl, rfl⟩
      go_wp2_with fail
      go_ret
      exact ⟨rfl, hB12⟩
end Go.Proofs.Ytmbmpogdakoloaa
