/- PercentAt of the program and of the reference, and its given statement. No conditions. -/
import Derived.Test.YtmbmpogdakoloaaSpOk
namespace Go.Proofs.Ytmbmpogdakoloaa
open Go.RowKit

/-- Spell k counts in month m. -/
def spHit (L : Nat → Sp) (m : Int) (k : Nat) : Bool := decide ((L k).f ≤ m) && decide (m < (L k).t) && !(L k).v
def pctFrom (L : Nat → Sp) (m : Int) : Nat → Nat → Int
  | 0, _ => 0
  | f + 1, k => if spHit L m k = true then (L k).p else pctFrom L m f (k + 1)
def pctL (n : Nat) (L : Nat → Sp) (m : Int) : Int := if spOk n L = true then pctFrom L m n 0 else 0
theorem pct_hit {L : Nat → Sp} {m : Int} {n k : Nat} (hk : k < n) (h : spHit L m k = true) : pctFrom L m (n - k) k = (L k).p := by
  rw [show n - k = (n - (k + 1)) + 1 from by omega, pctFrom, if_pos h]
theorem pct_miss {L : Nat → Sp} {m : Int} {n k : Nat} (hk : k < n) (h : spHit L m k = false) : pctFrom L m (n - k) k = pctFrom L m (n - (k + 1)) (k + 1) := by
  rw [show n - k = (n - (k + 1)) + 1 from by omega, pctFrom, if_neg (by simp [h])]

set_option maxHeartbeats 3200000 in
theorem iPercentAt (w : World) (A : Option Addr) (n c : Nat) (L : Nat → Sp) (m : Int) (h : RdSp w w.heap.size A n L) :
    Calls Try.prog 27 #[.slice A n c, .int .i64 m] w fun e w' => e = .returned (.int .i64 (pctL n L m)) ∧ Below w.heap.size w w' := by
  have hn := h.1
  cases hok : spOk n L
  · go_enter Try.func27, Try.ntmps27
    go_wp2_with fail
    refine (iSpellsOk w A n c L h).mono ?_
    rintro e w1 ⟨rfl, hb1⟩
    rw [hok]
    go_wp2_with fail
    go_ret
    exact ⟨ret_int (by simp [pctL, hok]), hb1⟩
  · have HP : pctFrom L m (n - 0) 0 = pctL n L m := by rw [pctL, if_pos hok]; rfl
    go_enter Try.func27, Try.ntmps27
    go_wp2_with fail
    refine (iSpellsOk w A n c L h).mono ?_
    rintro e w1 ⟨rfl, hb1⟩
    rw [hok]
    have hs1 := hb1.size
    go_wp2_with fail
    go_loopw [12] (fun i wr => ∃ k : Nat, k ≤ n ∧ i = .int .i64 k ∧ Hid (pctFrom L m (n - k) k = pctL n L m) ∧ Below w.heap.size w wr) (fun i _ => n - (intOf i).toNat)
    case atStart => exact ⟨0, Nat.zero_le _, rfl, Lib.hid HP, hb1⟩
    case round =>
      obtain ⟨k, hk, rfl, hv, hbr⟩ := hrel
      have hs2 := hbr.size
      by_cases hlt : k < n
      · have hlt2 : (k : Int) < n := by omega
        obtain ⟨b, off, rfl, hbB, h0, h1, h2, h3⟩ := (h.below hbr).2 k hlt
        have hne : ¬ b = wr.heap.size := by omega
        clear h
        cases e1 : decide ((L k).f ≤ m)
        · go_wp2_with fail
          go_roundw
          case rel => exact ⟨k + 1, by omega, by go_num, Lib.hid (by rw [← hv.out, pct_miss hlt (by simp [spHit, e1])]), (by (repeat (first | (with_reducible exact Below.refl _ _) | (with_reducible assumption) | (with_reducible refine Below.drew ?_) | (with_reducible refine below_drewN ?_ _) | ((with_reducible refine Below.setCell ?_ ?_ _); rotate_left; focus (first | (simp; done) | omega | (simp; omega))) | ((with_reducible refine Below.alloc ?_ ?_ _); rotate_left; focus (first | exact Nat.le_refl _ | omega | (simp; done) | (simp; omega))))))⟩
          case measure => simp [intOf]; omega
        · cases e2 : decide (m < (L k).t)
          · go_wp2_with fail
            go_roundw
            case rel => exact ⟨k + 1, by omega, by go_num, Lib.hid (by rw [← hv.out, pct_miss hlt (by simp [spHit, e1, e2])]), (by (repeat (first | (with_reducible exact Below.refl _ _) | (with_reducible assumption) | (with_reducible refine Below.drew ?_) | (with_reducible refine below_drewN ?_ _) | ((with_reducible refine Below.setCell ?_ ?_ _); rotate_left; focus (first | (simp; done) | omega | (simp; omega))) | ((with_reducible refine Below.alloc ?_ ?_ _); rotate_left; focus (first | exact Nat.le_refl _ | omega | (simp; done) | (simp; omega))))))⟩
            case measure => simp [intOf]; omega
          · cases e3 : (L k).v
            · go_wp2_with fail
              go_ret
              exact ⟨ret_int (by rw [← hv.out, pct_hit hlt (by simp [spHit, e1, e2, e3])]), (by (repeat (first | (with_reducible exact Below.refl _ _) | (with_reducible assumption) | (with_reducible refine Below.drew ?_) | (with_reducible refine below_drewN ?_ _) | ((with_reducible refine Below.setCell ?_ ?_ _); rotate_left; focus (first | (simp; done) | omega | (simp; omega))) | ((with_reducible refine Below.alloc ?_ ?_ _); rotate_left; focus (first | exact Nat.le_refl _ | omega | (simp; done) | (simp; omega))))))⟩
            · go_wp2_with fail
              go_roundw
              case rel => exact ⟨k + 1, by omega, by go_num, Lib.hid (by rw [← hv.out, pct_miss hlt (by simp [spHit, e1, e2, e3])]), (by (repeat (first | (with_reducible exact Below.refl _ _) | (with_reducible assumption) | (with_reducible refine Below.drew ?_) | (with_reducible refine below_drewN ?_ _) | ((with_reducible refine Below.setCell ?_ ?_ _); rotate_left; focus (first | (simp; done) | omega | (simp; omega))) | ((with_reducible refine Below.alloc ?_ ?_ _); rotate_left; focus (first | exact Nat.le_refl _ | omega | (simp; done) | (simp; omega))))))⟩
              case measure => simp [intOf]; omega
      · obtain rfl : k = n := by omega
        have hz := hv.out
        rw [Nat.sub_self, pctFrom] at hz
        go_wp2_with fail
        go_ret
        exact ⟨ret_int hz, hbr⟩

set_option maxHeartbeats 3200000 in
theorem sPercentAt (w : World) (A : Option Addr) (n c : Nat) (L : Nat → Sp) (m : Int) (h : RdSp w w.heap.size A n L) :
    Calls Try.prog 26 #[.slice A n c, .int .i64 m] w fun e w' => e = .returned (.int .i64 (pctL n L m)) ∧ Below w.heap.size w w' := by
  have hn := h.1
  cases hok : spOk n L
  · go_enter Try.func26, Try.ntmps26
    by_cases hn0 : 0 < n
    · have hn1 : (0 : Int) < n := by omega
      go_wp2_with fail
      go_loopw [5] (fun i wr => i = .int .i64 0 ∧ Below w.heap.size w wr) (fun i _ => n - (intOf i).toNat)
      case atStart => exact ⟨rfl, Below.refl _ _⟩
      case round =>
        obtain ⟨rfl, hbr⟩ := hrel
        have hs2 := hbr.size
        go_wp2_with fail
        refine (sSpellsOk wr A n c L ((h.below hbr).more hbr.size)).mono ?_
        rintro e w3 ⟨rfl, hb3⟩
        rw [hok]
        go_wp2_with fail
        go_ret
        exact ⟨ret_int (by simp [pctL, hok]), hbr.trans (hb3.mono hs2)⟩
    · obtain rfl : n = 0 := by omega
      simp [spOk, allUp] at hok
  · have HP : pctFrom L m (n - 0) 0 = pctL n L m := by rw [pctL, if_pos hok]; rfl
    go_enter Try.func26, Try.ntmps26
    go_wp2_with fail
    go_loopw [5] (fun i wr => ∃ k : Nat, k ≤ n ∧ i = .int .i64 k ∧ Hid (pctFrom L m (n - k) k = pctL n L m) ∧ Below w.heap.size w wr) (fun i _ => n - (intOf i).toNat)
    case atStart => exact ⟨0, Nat.zero_le _, rfl, Lib.hid HP, Below.refl _ _⟩
    case round =>
      obtain ⟨k, hk, rfl, hv, hbr⟩ := hrel
      have hs2 := hbr.size
      by_cases hlt : k < n
      · have hlt2 : (k : Int) < n := by omega
        go_wp2_with fail
        refine (sSpellsOk wr A n c L ((h.below hbr).more hbr.size)).mono ?_
        rintro e w3 ⟨rfl, hb3⟩
        rw [hok]
        replace hbr := hbr.trans (hb3.mono hs2)
        have hs3 := hbr.size
        clear hb3
        obtain ⟨b, off, rfl, hbB, h0, h1, h2, h3⟩ := (h.below hbr).2 k hlt
        have hne : ¬ b = w3.heap.size := by omega
        clear h
        cases e1 : decide ((L k).f ≤ m)
        · go_wp2_with fail
          go_roundw
          case rel => exact ⟨k + 1, by omega, by go_num, Lib.hid (by rw [← hv.out, pct_miss hlt (by simp [spHit, e1])]), (by (repeat (first | (with_reducible exact Below.refl _ _) | (with_reducible assumption) | (with_reducible refine Below.drew ?_) | (with_reducible refine below_drewN ?_ _) | ((with_reducible refine Below.setCell ?_ ?_ _); rotate_left; focus (first | (simp; done) | omega | (simp; omega))) | ((with_reducible refine Below.alloc ?_ ?_ _); rotate_left; focus (first | exact Nat.le_refl _ | omega | (simp; done) | (simp; omega))))))⟩
          case measure => simp [intOf]; omega
        · cases e2 : decide (m < (L k).t)
          · go_wp2_with fail
            go_roundw
            case rel => exact ⟨k + 1, by omega, by go_num, Lib.hid (by rw [← hv.out, pct_miss hlt (by simp [spHit, e1, e2])]), (by (repeat (first | (with_reducible exact Below.refl _ _) | (with_reducible assumption) | (with_reducible refine Below.drew ?_) | (with_reducible refine below_drewN ?_ _) | ((with_reducible refine Below.setCell ?_ ?_ _); rotate_left; focus (first | (simp; done) | omega | (simp; omega))) | ((with_reducible refine Below.alloc ?_ ?_ _); rotate_left; focus (first | exact Nat.le_refl _ | omega | (simp; done) | (simp; omega))))))⟩
            case measure => simp [intOf]; omega
          · cases e3 : (L k).v
            · go_wp2_with fail
              go_ret
              exact ⟨ret_int (by rw [← hv.out, pct_hit hlt (by simp [spHit, e1, e2, e3])]), (by (repeat (first | (with_reducible exact Below.refl _ _) | (with_reducible assumption) | (with_reducible refine Below.drew ?_) | (with_reducible refine below_drewN ?_ _) | ((with_reducible refine Below.setCell ?_ ?_ _); rotate_left; focus (first | (simp; done) | omega | (simp; omega))) | ((with_reducible refine Below.alloc ?_ ?_ _); rotate_left; focus (first | exact Nat.le_refl _ | omega | (simp; done) | (simp; omega))))))⟩
            · go_wp2_with fail
              go_roundw
              case rel => exact ⟨k + 1, by omega, by go_num, Lib.hid (by rw [← hv.out, pct_miss hlt (by simp [spHit, e1, e2, e3])]), (by (repeat (first | (with_reducible exact Below.refl _ _) | (with_reducible assumption) | (with_reducible refine Below.drew ?_) | (with_reducible refine below_drewN ?_ _) | ((with_reducible refine Below.setCell ?_ ?_ _); rotate_left; focus (first | (simp; done) | omega | (simp; omega))) | ((with_reducible refine Below.alloc ?_ ?_ _); rotate_left; focus (first | exact Nat.le_refl _ | omega | (simp; done) | (simp; omega))))))⟩
              case measure => simp [intOf]; omega
      · obtain rfl : k = n := by omega
        have hz := hv.out
        rw [Nat.sub_self, pctFrom] at hz
        go_wp2_with fail
        go_ret
        exact ⟨ret_int hz, hbr⟩

set_option maxHeartbeats 1600000 in
theorem walkPercentAt (A : Option Addr) (n c : Nat) (L : Nat → Sp) (m : Int) (w : World) (hd : RdSp w w.heap.size A n L) :
    Calls Try.prog 6 #[.slice A n c, .int .i64 m] w fun e w' => e = .returned (.bool true) ∧ Below w.heap.size w w' := by
  have hn := hd.1
  by_cases t1 : (1048576 : Int) < n
  · go_enter Try.func6, Try.ntmps6
    go_wp2_with fail
    refine (szSpells w A n c hn).mono ?_
    rintro e w' ⟨rfl, rfl⟩
    rw [if_pos (show (1048576 : Int) < n by omega)]
    go_wp2_with fail
    go_ret
    exact ⟨rfl, Below.refl _ _⟩
  have t2 : (0 : Int) ≤ 1048576 - n := by omega
  go_enter Try.func6, Try.ntmps6
  go_wp2_with fail
  refine (szSpells w A n c hn).mono ?_
  rintro e w' ⟨rfl, rfl⟩
  rw [if_neg (show ¬ (1048576 : Int) < n by omega)]
  go_wp2_with fail
  refine (toSpells w A n c _ hd (by omega)).mono ?_
  rintro e w1 ⟨g1, rfl, rowg1, lowg1, hb1⟩
  have hs1 := hb1.size
  have ltg1 : g1 < w1.heap.size := rowg1.lt
  have hg1 := RdSp.row rowg1 ltg1 (Nat.le_refl _) (by omega)
  replace hd := (hd.below hb1).more hs1
  have hB1 : Below w.heap.size w w1 := (Below.refl w.heap.size w).trans (hb1.mono (by omega))
  go_wp2_with fail
  refine (sPercentAt w1 (some ⟨g1, 0, none⟩) n n _ m hg1).mono ?_
  rintro e w2 ⟨rfl, hb2⟩
  have hs2 := hb2.size
  replace hd := (hd.below hb2).more hs2
  replace hg1 := (hg1.below hb2).more hs2
  have hB2 : Below w.heap.size w w2 := hB1.trans (hb2.mono (by omega))
  go_wp2_with fail
  refine (toSpells w2 A n c _ hd (by omega)).mono ?_
  rintro e w3 ⟨g3, rfl, rowg3, lowg3, hb3⟩
  have hs3 := hb3.size
  have ltg3 : g3 < w3.heap.size := rowg3.lt
  have hg3 := RdSp.row rowg3 ltg3 (Nat.le_refl _) (by omega)
  replace hd := (hd.below hb3).more hs3
  have hB3 : Below w.heap.size w w3 := hB2.trans (hb3.mono (by omega))
  go_wp2_with fail
  refine (iPercentAt w3 (some ⟨g3, 0, none⟩) n n _ m hg3).mono ?_
  rintro e w4 ⟨rfl, hb4⟩
  have hs4 := hb4.size
  replace hd := (hd.below hb4).more hs4
  replace hg3 := (hg3.below hb4).more hs4
  have hB4 : Below w.heap.size w w4 := hB3.trans (hb4.mono (by omega))
  go_wp2_with fail
  refine (toSpells w4 A n c _ hd (by omega)).mono ?_
  rintro e w5 ⟨g5, rfl, rowg5, lowg5, hb5⟩
  have hs5 := hb5.size
  have ltg5 : g5 < w5.heap.size := rowg5.lt
  have hg5 := RdSp.row rowg5 ltg5 (Nat.le_refl _) (by omega)
  replace hd := (hd.below hb5).more hs5
  replace hg3 := (hg3.below hb5).more hs5
  have hB5 : Below w.heap.size w w5 := hB4.trans (hb5.mono (by omega))
  go_wp2_with fail
  refine (eqSpells w5 (some ⟨g3, 0, none⟩) (some ⟨g5, 0, none⟩) n n n n _ _ hg3 hg5 ⟨rfl, fun _ _ => rfl⟩).mono ?_
  rintro e w6 ⟨rfl, hb6⟩
  have hs6 := hb6.size
  replace hg3 := (hg3.below hb6).more hs6
  replace hg5 := (hg5.below hb6).more hs6
  have hB6 : Below w.heap.size w w6 := hB5.trans (hb6.mono (by omega))
  go_wp2_with fail
  go_ret
  exact ⟨rfl, hB6⟩
end Go.Proofs.Ytmbmpogdakoloaa
