/- ServiceIn of the program and of the reference, and its given statement. No conditions. -/
import Derived.Test.YtmbmpogdakoloaaSpOk
import Derived.Test.YtmbmpogdakoloaaMonths
import Derived.Deep.RegionHeld3
import Derived.Deep.DeepCutAuto
namespace Go.Proofs.Ytmbmpogdakoloaa
open Go.RowKit

def svOne (s : Sp) (a b : Int) : Int := if s.v = true then 0 else s.p * monthsL s.f s.t a b
def svSum (L : Nat → Sp) (a b : Int) : Nat → Int
  | 0 => 0
  | k + 1 => svSum L a b k + svOne (L k) a b
def serviceL (n : Nat) (L : Nat → Sp) (a b : Int) : Int := if spOk n L = true then svSum L a b n else 0
theorem svOne_bd {n : Nat} {L : Nat → Sp} (h : spOk n L = true) (a b : Int) {i : Nat} (hi : i < n) : 0 ≤ svOne (L i) a b ∧ svOne (L i) a b ≤ 360000 := by
  simp only [spOk, Bool.and_eq_true] at h
  have h1 := allUp_at h.1 i hi
  simp only [spGood, Bool.and_eq_true, inB_iff] at h1
  have h2 := monthsL_bd (L i).f (L i).t a b
  have h3 := mul_bd (show 0 ≤ (L i).p by omega) h1.1.2.2 h2.1 h2.2
  rw [svOne]
  split <;> omega
theorem spOk_len {n : Nat} {L : Nat → Sp} (h : spOk n L = true) : n ≤ 30 := by
  simp only [spOk, Bool.and_eq_true, decide_eq_true_eq] at h
  exact h.2
theorem svSum_bd {n : Nat} {L : Nat → Sp} (h : spOk n L = true) (a b : Int) : ∀ k : Nat, k ≤ n → 0 ≤ svSum L a b k ∧ svSum L a b k ≤ 360000 * (k : Int)
  | 0, _ => by simp [svSum]
  | k + 1, hk => by
    have ih := svSum_bd h a b k (by omega)
    have h1 := svOne_bd h a b (show k < n by omega)
    simp only [svSum]
    omega
theorem svSum_no {L : Nat → Sp} {a b : Int} (h : (endB a && endB b) = false) : ∀ k : Nat, svSum L a b k = 0
  | 0 => rfl
  | k + 1 => by
    have : monthsL (L k).f (L k).t a b = 0 := by rw [monthsL, h]; simp
    rw [svSum, svSum_no h k, svOne, this]
    simp
theorem service_no {n : Nat} {L : Nat → Sp} {a b : Int} (h : (endB a && endB b) = false) : serviceL n L a b = 0 := by rw [serviceL, svSum_no h]; simp

set_option maxHeartbeats 3200000 in
theorem iServiceIn (w : World) (A : Option Addr) (n c : Nat) (L : Nat → Sp) (a b : Int) (h : RdSp w w.heap.size A n L) :
    Calls Try.prog 31 #[.slice A n c, .int .i64 a, .int .i64 b] w fun e w' => e = .returned (.int .i64 (serviceL n L a b)) ∧ Below w.heap.size w w' := by
  have hn := h.1
  cases hok : spOk n L
  · go_enter Try.func31, Try.ntmps31
    go_wp2_with fail
    refine (iSpellsOk w A n c L h).mono ?_
    rintro e w1 ⟨rfl, hb1⟩
    rw [hok]
    go_wp2_with fail
    go_ret
    exact ⟨ret_int (by simp [serviceL, hok]), hb1⟩
  · cases ea : endB a
    · go_enter Try.func31, Try.ntmps31
      go_wp2_with fail
      refine (iSpellsOk w A n c L h).mono ?_
      rintro e w1 ⟨rfl, hb1⟩
      rw [hok]
      go_wp2_with (go_at_call 53; refine (isEnd_any _ _).mono ?_; rintro e w' ⟨rfl, rfl⟩)
      go_ret
      exact ⟨ret_int (service_no (by simp [ea])).symm, hb1⟩
    · cases eb : endB b
      · go_enter Try.func31, Try.ntmps31
        go_wp2_with fail
        refine (iSpellsOk w A n c L h).mono ?_
        rintro e w1 ⟨rfl, hb1⟩
        rw [hok]
        go_wp2_with (go_at_call 53; refine (isEnd_any _ _).mono ?_; rintro e w' ⟨rfl, rfl⟩)
        go_ret
        exact ⟨ret_int (service_no (by simp [ea, eb])).symm, hb1⟩
      · go_enter Try.func31, Try.ntmps31
        go_wp2_with fail
        refine (iSpellsOk w A n c L h).mono ?_
        rintro e w1 ⟨rfl, hb1⟩
        rw [hok]
        have hs1 := hb1.size
        go_wp2_with (go_at_call 53; refine (isEnd_any _ _).mono ?_; rintro e w' ⟨rfl, rfl⟩)
        go_loopw [7, 25] (fun s i wr => ∃ k : Nat, k ≤ n ∧ i = .int .i64 k ∧ s = .int .i64 (svSum L a b k) ∧ Below w.heap.size w wr) (fun _ i _ => n - (intOf i).toNat)
        case atStart => exact ⟨0, Nat.zero_le _, rfl, rfl, hb1⟩
        case round =>
          obtain ⟨k, hk, rfl, rfl, hbr⟩ := hrel
          have hs2 := hbr.size
          by_cases hlt : k < n
          · have hlt2 : (k : Int) < n := by omega
            have hbd1 := svSum_bd hok a b k hk
            have hbd2 := svSum_bd hok a b (k + 1) (by omega)
            have hone := svOne_bd hok a b hlt
            have hle := spOk_len hok
            obtain ⟨b1, off, rfl, hbB, h0, h1, h2, h3⟩ := (h.below hbr).2 k hlt
            have hne : ¬ b1 = wr.heap.size := by omega
            clear h
            have hst : svSum L a b (k + 1) = svSum L a b k + svOne (L k) a b := rfl
            rw [svOne] at hone hst
            cases e3 : (L k).v
            · rw [e3, if_neg (by simp)] at hone hst
              obtain ⟨q, hq⟩ : ∃ q, q = monthsL (L k).f (L k).t a b := ⟨_, rfl⟩
              rw [← hq] at hone hst
              have MI : ∀ v : World, Calls Try.prog 54 #[.int .i64 a, .int .i64 b, .int .i64 (L k).f, .int .i64 (L k).t] v fun e w' => e = .returned (.int .i64 q) ∧ Below v.heap.size v w' := fun v => by have h := iMonthsIn a b (L k).f (L k).t v; rw [monthsL_symm, ← hq] at h; exact h
              obtain ⟨S, hS⟩ : ∃ S, S = svSum L a b k := ⟨_, rfl⟩
              rw [← hS] at hbd1 hst
              rw [hst] at hbd2
              have m1 : IntKind.i64.wrap ((L k).p * q) = (L k).p * q := IntWalk.i64_in _ ⟨by omega, by omega⟩
              have m2 : IntKind.i64.wrap (S + (L k).p * q) = S + (L k).p * q := IntWalk.i64_in _ ⟨by omega, by omega⟩
              rw [← hS]
              have HST := Lib.hid hst.symm
              clear hst hone hbd1 hbd2 hS hq
              go_upto_region 8 with fail
              go_region_held3 (fun w' => w'.cell? ⟨wr.heap.size, 0, none⟩ = some (.int .i64 (L k).f) ∧ w'.cell? ⟨wr.heap.size, 1, none⟩ = some (.int .i64 (L k).t) ∧ w'.cell? ⟨wr.heap.size, 2, none⟩ = some (.int .i64 (L k).p) ∧ w'.cell? ⟨wr.heap.size, 3, none⟩ = some (.bool (L k).v) ∧ wr.heap.size < w'.heap.size ∧ Below w.heap.size w w') (first | (with_reducible assumption) | (refine ⟨?_, ?_, ?_, ?_, ?_, ?_⟩ <;> first | (with_reducible assumption) | omega | (simp [go_sem, *]; done) | (simp [*]; omega) | ((repeat (first | (with_reducible exact Below.refl _ _) | (with_reducible assumption) | (with_reducible refine Below.drew ?_) | (with_reducible refine below_drewN ?_ _) | ((with_reducible refine Below.setCell ?_ ?_ _); rotate_left; focus (first | (simp; done) | omega | (simp; omega))) | ((with_reducible refine Below.alloc ?_ ?_ _); rotate_left; focus (first | exact Nat.le_refl _ | omega | (simp; done) | (simp; omega))))); first | done | (simp [*]; done))))
                (first | (go_at_call 54; refine (MI _).mono ?_; rintro e w5 ⟨rfl, hb5⟩; obtain ⟨hc5, hf5⟩ := keepc hb5; have hs5 := hb5.size; have hS5 : ((fun w' => w'.cell? ⟨wr.heap.size, 0, none⟩ = some (.int .i64 (L k).f) ∧ w'.cell? ⟨wr.heap.size, 1, none⟩ = some (.int .i64 (L k).t) ∧ w'.cell? ⟨wr.heap.size, 2, none⟩ = some (.int .i64 (L k).p) ∧ w'.cell? ⟨wr.heap.size, 3, none⟩ = some (.bool (L k).v) ∧ wr.heap.size < w'.heap.size ∧ Below w.heap.size w w')) w5 := (by refine ⟨?_, ?_, ?_, ?_, ?_, ?_⟩ <;> first | (rw [hc5 _ _ (by first | omega | (simp [*]; omega) | (simp [*]; done))] <;> simp [go_sem, *]; done) | (first | omega | (simp [*] at hs5; omega)) | (refine Below.trans ?_ (hb5.mono (by first | omega | (simp [*]; done) | (simp [*]; omega))); (repeat (first | (with_reducible exact Below.refl _ _) | (with_reducible assumption) | (with_reducible refine Below.drew ?_) | (with_reducible refine below_drewN ?_ _) | ((with_reducible refine Below.setCell ?_ ?_ _); rotate_left; focus (first | (simp; done) | omega | (simp; omega))) | ((with_reducible refine Below.alloc ?_ ?_ _); rotate_left; focus (first | exact Nat.le_refl _ | omega | (simp; done) | (simp; omega))))); first | done | (simp [*]; done))); clear hb5 hc5 hf5 hs5))
              go_wp2_with fail
              go_roundw
              case rel => exact ⟨k + 1, by omega, by go_num, by rw [← HST.out], hS5.2.2.2.2.2⟩
              case measure => simp [intOf]; omega
            · rw [e3, if_pos rfl] at hst
              rw [Int.add_zero] at hst
              have HST := Lib.hid hst.symm
              clear hst hone hbd1 hbd2
              go_wp2_with fail
              go_roundw
              case rel => exact ⟨k + 1, by omega, by go_num, by rw [← HST.out], (by (repeat (first | (with_reducible exact Below.refl _ _) | (with_reducible assumption) | (with_reducible refine Below.drew ?_) | (with_reducible refine below_drewN ?_ _) | ((with_reducible refine Below.setCell ?_ ?_ _); rotate_left; focus (first | (simp; done) | omega | (simp; omega))) | ((with_reducible refine Below.alloc ?_ ?_ _); rotate_left; focus (first | exact Nat.le_refl _ | omega | (simp; done) | (simp; omega))))))⟩
              case measure => simp [intOf]; omega
          · obtain rfl : k = n := by omega
            have hz : svSum L a b k = serviceL k L a b := by rw [serviceL, if_pos hok]
            go_wp2_with fail
            go_ret
            exact ⟨ret_int hz, hbr⟩

set_option maxHeartbeats 3200000 in
theorem sServiceIn (w : World) (A : Option Addr) (n c : Nat) (L : Nat → Sp) (a b : Int) (h : RdSp w w.heap.size A n L) :
    Calls Try.prog 32 #[.slice A n c, .int .i64 a, .int .i64 b] w fun e w' => e = .returned (.int .i64 (serviceL n L a b)) ∧ Below w.heap.size w w' := by
  have hn := h.1
  cases hok : spOk n L
  · go_enter Try.func32, Try.ntmps32
    by_cases hn0 : 0 < n
    · have hn1 : (0 : Int) < n := by omega
      go_wp2_with fail
      go_loopw [7, 8] (fun s i wr => i = .int .i64 0 ∧ s = .int .i64 0 ∧ Below w.heap.size w wr) (fun _ i _ => n - (intOf i).toNat)
      case atStart => exact ⟨rfl, rfl, Below.refl _ _⟩
      case round =>
        obtain ⟨rfl, rfl, hbr⟩ := hrel
        have hs2 := hbr.size
        go_wp2_with fail
        refine (sSpellsOk wr A n c L ((h.below hbr).more hbr.size)).mono ?_
        rintro e w3 ⟨rfl, hb3⟩
        rw [hok]
        go_wp2_with fail
        go_ret
        exact ⟨ret_int (by simp [serviceL, hok]), hbr.trans (hb3.mono hs2)⟩
    · obtain rfl : n = 0 := by omega
      simp [spOk, allUp] at hok
  · go_enter Try.func32, Try.ntmps32
    go_wp2_with fail
    go_loopw [7, 8] (fun s i wr => ∃ k : Nat, k ≤ n ∧ i = .int .i64 k ∧ s = .int .i64 (svSum L a b k) ∧ Below w.heap.size w wr) (fun _ i _ => n - (intOf i).toNat)
    case atStart => exact ⟨0, Nat.zero_le _, rfl, rfl, Below.refl _ _⟩
    case round =>
      obtain ⟨k, hk, rfl, rfl, hbr⟩ := hrel
      have hs2 := hbr.size
      by_cases hlt : k < n
      · have hlt2 : (k : Int) < n := by omega
        have hbd1 := svSum_bd hok a b k hk
        have hbd2 := svSum_bd hok a b (k + 1) (by omega)
        have hone := svOne_bd hok a b hlt
        have hle := spOk_len hok
        go_wp2_with fail
        refine (sSpellsOk wr A n c L ((h.below hbr).more hbr.size)).mono ?_
        rintro e w3 ⟨rfl, hb3⟩
        rw [hok]
        replace hbr := hbr.trans (hb3.mono hs2)
        have hs3 := hbr.size
        clear hb3
        obtain ⟨b1, off, rfl, hbB, h0, h1, h2, h3⟩ := (h.below hbr).2 k hlt
        have hne : ¬ b1 = w3.heap.size := by omega
        clear h
        have hst : svSum L a b (k + 1) = svSum L a b k + svOne (L k) a b := rfl
        rw [svOne] at hone hst
        cases e3 : (L k).v
        · rw [e3, if_neg (by simp)] at hone hst
          obtain ⟨q, hq⟩ : ∃ q, q = monthsL (L k).f (L k).t a b := ⟨_, rfl⟩
          rw [← hq] at hone hst
          have MI : ∀ v : World, Calls Try.prog 55 #[.int .i64 (L k).f, .int .i64 (L k).t, .int .i64 a, .int .i64 b] v fun e w' => e = .returned (.int .i64 q) ∧ v = w' := fun v => by have h := sMonthsIn (L k).f (L k).t a b v; rw [← hq] at h; exact h
          obtain ⟨S, hS⟩ : ∃ S, S = svSum L a b k := ⟨_, rfl⟩
          rw [← hS] at hbd1 hst
          rw [hst] at hbd2
          have m1 : IntKind.i64.wrap ((L k).p * q) = (L k).p * q := IntWalk.i64_in _ ⟨by omega, by omega⟩
          have m2 : IntKind.i64.wrap (S + (L k).p * q) = S + (L k).p * q := IntWalk.i64_in _ ⟨by omega, by omega⟩
          rw [← hS]
          have HST := Lib.hid hst.symm
          clear hst hone hbd1 hbd2 hS hq
          go_wp2_with fail
          go_quiet ((go_at_call 55; exact quietN (MI _)))
          go_wp2_with fail
          go_roundw
          case rel => exact ⟨k + 1, by omega, by go_num, by rw [← HST.out], (by (repeat (first | (with_reducible exact Below.refl _ _) | (with_reducible assumption) | (with_reducible refine Below.drew ?_) | (with_reducible refine below_drewN ?_ _) | ((with_reducible refine Below.setCell ?_ ?_ _); rotate_left; focus (first | (simp; done) | omega | (simp; omega))) | ((with_reducible refine Below.alloc ?_ ?_ _); rotate_left; focus (first | exact Nat.le_refl _ | omega | (simp; done) | (simp; omega))))))⟩
          case measure => simp [intOf]; omega
        · rw [e3, if_pos rfl] at hst
          rw [Int.add_zero] at hst
          have HST := Lib.hid hst.symm
          clear hst hone hbd1 hbd2
          go_wp2_with fail
          go_roundw
          case rel => exact ⟨k + 1, by omega, by go_num, by rw [← HST.out], (by (repeat (first | (with_reducible exact Below.refl _ _) | (with_reducible assumption) | (with_reducible refine Below.drew ?_) | (with_reducible refine below_drewN ?_ _) | ((with_reducible refine Below.setCell ?_ ?_ _); rotate_left; focus (first | (simp; done) | omega | (simp; omega))) | ((with_reducible refine Below.alloc ?_ ?_ _); rotate_left; focus (first | exact Nat.le_refl _ | omega | (simp; done) | (simp; omega))))))⟩
          case measure => simp [intOf]; omega
      · obtain rfl : k = n := by omega
        have hz : svSum L a b k = serviceL k L a b := by rw [serviceL, if_pos hok]
        go_wp2_with fail
        go_ret
        exact ⟨ret_int hz, hbr⟩

set_option maxHeartbeats 1600000 in
theorem walkServiceIn (A : Option Addr) (n c : Nat) (L : Nat → Sp) (a b : Int) (w : World) (hd : RdSp w w.heap.size A n L) :
    Calls Try.prog 9 #[.slice A n c, .int .i64 a, .int .i64 b] w fun e w' => e = .returned (.bool true) ∧ Below w.heap.size w w' := by
  have hn := hd.1
  by_cases t1 : (1048576 : Int) < n
  · go_enter Try.func9, Try.ntmps9
    go_wp2_with fail
    refine (szSpells w A n c hn).mono ?_
    rintro e w' ⟨rfl, rfl⟩
    rw [if_pos (show (1048576 : Int) < n by omega)]
    go_wp2_with fail
    go_ret
    exact ⟨rfl, Below.refl _ _⟩
  have t2 : (0 : Int) ≤ 1048576 - n := by omega
  go_enter Try.func9, Try.ntmps9
  go_wp2_with fail
  refine (szSpells w A n c hn).mono ?_
  rintro e w' ⟨rfl, rfl⟩
  rw [if_neg (show ¬ (1048576 : Int) < n by omega)]
  go_wp2_with fail
  refine (toSpells w A n c _ hd (by omega)).mono ?_
  rintro e w1 ⟨g1, rfl, rowg1, lowg1, hb1⟩
  have hs1 := hb1.size
  have ltg1 : g1 < w1.heap.size := rowg1.lt
  have hg1 := RdSp.row rowg1 ltg1 (Nat.le_refl _) (by omega)
  replace hd := (hd.below hb1).more hs1
  have hB1 : Below w.heap.size w w1 := (Below.refl w.heap.size w).trans (hb1.mono (by omega))
  go_wp2_with fail
  refine (sServiceIn w1 (some ⟨g1, 0, none⟩) n n _ a b hg1).mono ?_
  rintro e w2 ⟨rfl, hb2⟩
  have hs2 := hb2.size
  replace hd := (hd.below hb2).more hs2
  replace hg1 := (hg1.below hb2).more hs2
  have hB2 : Below w.heap.size w w2 := hB1.trans (hb2.mono (by omega))
  go_wp2_with fail
  refine (toSpells w2 A n c _ hd (by omega)).mono ?_
  rintro e w3 ⟨g3, rfl, rowg3, lowg3, hb3⟩
  have hs3 := hb3.size
  have ltg3 : g3 < w3.heap.size := rowg3.lt
  have hg3 := RdSp.row rowg3 ltg3 (Nat.le_refl _) (by omega)
  replace hd := (hd.below hb3).more hs3
  have hB3 : Below w.heap.size w w3 := hB2.trans (hb3.mono (by omega))
  go_wp2_with fail
  refine (iServiceIn w3 (some ⟨g3, 0, none⟩) n n _ a b hg3).mono ?_
  rintro e w4 ⟨rfl, hb4⟩
  have hs4 := hb4.size
  replace hd := (hd.below hb4).more hs4
  replace hg3 := (hg3.below hb4).more hs4
  have hB4 : Below w.heap.size w w4 := hB3.trans (hb4.mono (by omega))
  go_wp2_with fail
  refine (toSpells w4 A n c _ hd (by omega)).mono ?_
  rintro e w5 ⟨g5, rfl, rowg5, lowg5, hb5⟩
  have hs5 := hb5.size
  have ltg5 : g5 < w5.heap.size := rowg5.lt
  have hg5 := RdSp.row rowg5 ltg5 (Nat.le_refl _) (by omega)
  replace hd := (hd.below hb5).more hs5
  replace hg3 := (hg3.below hb5).more hs5
  have hB5 : Below w.heap.size w w5 := hB4.trans (hb5.mono (by omega))
  go_wp2_with fail
  refine (eqSpells w5 (some ⟨g3, 0, none⟩) (some ⟨g5, 0, none⟩) n n n n _ _ hg3 hg5 ⟨rfl, fun _ _ => rfl⟩).mono ?_
  rintro e w6 ⟨rfl, hb6⟩
  have hs6 := hb6.size
  replace hg3 := (hg3.below hb6).more hs6
  replace hg5 := (hg5.below hb6).more hs6
  have hB6 : Below w.heap.size w w6 := hB5.trans (hb6.mono (by omega))
  go_wp2_with fail
  go_ret
  exact ⟨rfl, hB6⟩
end Go.Proofs.Ytmbmpogdakoloaa
