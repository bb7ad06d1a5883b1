/- TableOk and DeathAt of the program and of the reference, and their given statements. No conditions. -/
import Derived.Test.YtmbmpogdakoloaaAllIn
import Derived.Test.YtmbmpogdakoloaaSpN
import Derived.Deep.RegionHeld3
namespace Go.Proofs.Ytmbmpogdakoloaa
open Go.RowKit

def tbOk (f : Int) (n : Nat) (z : Nat → Int) : Bool := inB f 0 120 && (inB n 1 (121 - f) && (allIn z 0 1000000 n && z (n - 1) == 1000000))
def deathL (f : Int) (n : Nat) (z : Nat → Int) (a : Int) : Int := if tbOk f n z && inB a f (f + n - 1) then z (a - f).toNat else 1000000

set_option maxHeartbeats 3200000 in
theorem iTableOk (w : World) (A : Option Addr) (n c : Nat) (z : Nat → Int) (f : Int) (h : RdI w w.heap.size A n z) :
    Calls Try.prog 24 #[.agg #[.int .i64 f, .slice A n c]] w fun e w' => e = .returned (.bool (tbOk f n z)) ∧ Below w.heap.size w w' := by
  have hn := h.1
  cases e1 : inB f 0 120
  · go_enter Try.func24, Try.ntmps24
    go_wp2_with (first | (go_at_call 46; refine (within_any _ _ _ _).mono ?_; rintro e w' ⟨rfl, rfl⟩) | (go_at_call 44; refine (l01In_any _ _ _ _).mono ?_; rintro e w' ⟨rfl, rfl⟩))
    go_ret
    exact ⟨ret_bool (by simp [tbOk, e1]), (by (repeat (first | (with_reducible exact Below.refl _ _) | (with_reducible assumption) | (with_reducible refine Below.drew ?_) | (with_reducible refine below_drewN ?_ _) | ((with_reducible refine Below.setCell ?_ ?_ _); rotate_left; focus (first | (simp; done) | omega | (simp; omega))) | ((with_reducible refine Below.alloc ?_ ?_ _); rotate_left; focus (first | exact Nat.le_refl _ | omega | (simp; done) | (simp; omega))))))⟩
  · cases e2 : inB n 1 121
    · have e3 : inB n 1 (121 - f) = false := by rw [inB_iff] at e1; rw [inB_no] at e2 ⊢; omega
      go_enter Try.func24, Try.ntmps24
      go_wp2_with (first | (go_at_call 46; refine (within_any _ _ _ _).mono ?_; rintro e w' ⟨rfl, rfl⟩) | (go_at_call 44; refine (l01In_any _ _ _ _).mono ?_; rintro e w' ⟨rfl, rfl⟩))
      go_ret
      exact ⟨ret_bool (by simp [tbOk, e1, e3]), (by (repeat (first | (with_reducible exact Below.refl _ _) | (with_reducible assumption) | (with_reducible refine Below.drew ?_) | (with_reducible refine below_drewN ?_ _) | ((with_reducible refine Below.setCell ?_ ?_ _); rotate_left; focus (first | (simp; done) | omega | (simp; omega))) | ((with_reducible refine Below.alloc ?_ ?_ _); rotate_left; focus (first | exact Nat.le_refl _ | omega | (simp; done) | (simp; omega))))))⟩
    · rw [inB_iff] at e1
      rw [inB_iff] at e2
      obtain ⟨m, rfl⟩ : ∃ m, n = m + 1 := ⟨n - 1, by omega⟩
      push_cast at e2
      have g1 : inB f 0 120 = true := inB_iff.2 e1
      have g2 : inB ((m : Int) + 1) 1 121 = true := inB_iff.2 e2
      have hw1 : IntKind.i64.wrap (f + (m + 1)) = f + (m + 1) := IntWalk.i64_in _ ⟨by omega, by omega⟩
      by_cases e4 : f + ((m : Int) + 1) ≤ 121
      · have g3 : inB ((m : Int) + 1) 1 (121 - f) = true := inB_iff.2 (by omega)
        have hm1 : IntKind.i64.wrap (m : Int) = m := IntWalk.i64_in _ ⟨by omega, by omega⟩
        cases e5 : allIn z 0 1000000 (m + 1)
        · go_enter Try.func24, Try.ntmps24
          go_wp2_with (first | (go_at_call 46; refine (within_any _ _ _ _).mono ?_; rintro e w' ⟨rfl, rfl⟩) | (go_at_call 44; refine (l01In_any _ _ _ _).mono ?_; rintro e w' ⟨rfl, rfl⟩))
          refine (iAllWithin _ A (m + 1) c z (h.below (Below.alloc (Below.refl _ _) (Nat.le_refl _) _) |>.more (by simp)) 0 1000000).mono ?_
          rintro e w1 ⟨rfl, hb1⟩
          rw [e5]
          go_wp2_with fail
          go_ret
          exact ⟨ret_bool (by simp [tbOk, g1, g3, e5]), (Below.alloc (Below.refl _ _) (Nat.le_refl _) _).trans (hb1.mono (by simp))⟩
        · go_enter Try.func24, Try.ntmps24
          go_wp2_with (first | (go_at_call 46; refine (within_any _ _ _ _).mono ?_; rintro e w' ⟨rfl, rfl⟩) | (go_at_call 44; refine (l01In_any _ _ _ _).mono ?_; rintro e w' ⟨rfl, rfl⟩))
          refine (iAllWithin _ A (m + 1) c z (h.below (Below.alloc (Below.refl _ _) (Nat.le_refl _) _) |>.more (by simp)) 0 1000000).mono ?_
          rintro e w1 ⟨rfl, hb1⟩
          rw [e5]
          obtain ⟨hc1, -⟩ := keepc hb1
          have c0 : w1.cell? ⟨w.heap.size, 0, none⟩ = some (.int .i64 f) := by rw [hc1 _ _ (by simp)]; simp [go_sem]
          have c1 : w1.cell? ⟨w.heap.size, 1, none⟩ = some (.slice A (m + 1) c) := by rw [hc1 _ _ (by simp)]; simp [go_sem]
          have hbb := (Below.alloc (Below.refl w.heap.size w) (Nat.le_refl _) _).trans (hb1.mono (by simp))
          clear hc1
          obtain ⟨b, off, rfl, hbB, hcell⟩ := (h.below hbb).2 m (by omega)
          go_wp2_with fail
          go_ret
          exact ⟨ret_bool (by simp [tbOk, g1, g3, e5]), hbb⟩
      · have g3 : inB ((m : Int) + 1) 1 (121 - f) = false := inB_no.2 (by omega)
        go_enter Try.func24, Try.ntmps24
        go_wp2_with (first | (go_at_call 46; refine (within_any _ _ _ _).mono ?_; rintro e w' ⟨rfl, rfl⟩) | (go_at_call 44; refine (l01In_any _ _ _ _).mono ?_; rintro e w' ⟨rfl, rfl⟩))
        go_ret
        exact ⟨ret_bool (by simp [tbOk, g1, g3]), (by (repeat (first | (with_reducible exact Below.refl _ _) | (with_reducible assumption) | (with_reducible refine Below.drew ?_) | (with_reducible refine below_drewN ?_ _) | ((with_reducible refine Below.setCell ?_ ?_ _); rotate_left; focus (first | (simp; done) | omega | (simp; omega))) | ((with_reducible refine Below.alloc ?_ ?_ _); rotate_left; focus (first | exact Nat.le_refl _ | omega | (simp; done) | (simp; omega))))))⟩

set_option maxHeartbeats 3200000 in
theorem sTableOk (w : World) (A : Option Addr) (n c : Nat) (z : Nat → Int) (f : Int) (h : RdI w w.heap.size A n z) :
    Calls Try.prog 22 #[.agg #[.int .i64 f, .slice A n c]] w fun e w' => e = .returned (.bool (tbOk f n z)) ∧ Below w.heap.size w w' := by
  have hn := h.1
  cases e1 : inB f 0 120
  · go_enter Try.func22, Try.ntmps22
    go_wp2_with (first | (go_at_call 46; refine (within_any _ _ _ _).mono ?_; rintro e w' ⟨rfl, rfl⟩) | (go_at_call 44; refine (l01In_any _ _ _ _).mono ?_; rintro e w' ⟨rfl, rfl⟩))
    go_ret
    exact ⟨ret_bool (by simp [tbOk, e1]), (by (repeat (first | (with_reducible exact Below.refl _ _) | (with_reducible assumption) | (with_reducible refine Below.drew ?_) | (with_reducible refine below_drewN ?_ _) | ((with_reducible refine Below.setCell ?_ ?_ _); rotate_left; focus (first | (simp; done) | omega | (simp; omega))) | ((with_reducible refine Below.alloc ?_ ?_ _); rotate_left; focus (first | exact Nat.le_refl _ | omega | (simp; done) | (simp; omega))))))⟩
  · have g0 := inB_iff.1 e1
    have hw0 : IntKind.i64.wrap (121 - f) = 121 - f := IntWalk.i64_in _ ⟨by omega, by omega⟩
    clear g0
    cases e2 : inB n 1 (121 - f)
    · go_enter Try.func22, Try.ntmps22
      go_wp2_with (first | (go_at_call 46; refine (within_any _ _ _ _).mono ?_; rintro e w' ⟨rfl, rfl⟩) | (go_at_call 44; refine (l01In_any _ _ _ _).mono ?_; rintro e w' ⟨rfl, rfl⟩))
      go_ret
      exact ⟨ret_bool (by simp [tbOk, e1, e2]), (by (repeat (first | (with_reducible exact Below.refl _ _) | (with_reducible assumption) | (with_reducible refine Below.drew ?_) | (with_reducible refine below_drewN ?_ _) | ((with_reducible refine Below.setCell ?_ ?_ _); rotate_left; focus (first | (simp; done) | omega | (simp; omega))) | ((with_reducible refine Below.alloc ?_ ?_ _); rotate_left; focus (first | exact Nat.le_refl _ | omega | (simp; done) | (simp; omega))))))⟩
    · have g0 := inB_iff.1 e1
      have g1 := inB_iff.1 e2
      obtain ⟨m, rfl⟩ : ∃ m, n = m + 1 := ⟨n - 1, by omega⟩
      have hm1 : IntKind.i64.wrap (m : Int) = m := IntWalk.i64_in _ ⟨by omega, by omega⟩
      clear g0 g1
      push_cast at e2
      have hbb : Below w.heap.size w (w.alloc (.cells #[.int .i64 f, .slice A (m + 1) c] 43)) := (Below.refl _ _).alloc (Nat.le_refl _) _
      have h2 := h.below hbb
      have HR := Lib.hid (show tbOk f (m + 1) z = (allIn z 0 1000000 (m + 1) && z m == 1000000) by simp [tbOk, e1, e2])
      go_enter Try.func22, Try.ntmps22
      go_wp2_with (first | (go_at_call 46; refine (within_any _ _ _ _).mono ?_; rintro e w' ⟨rfl, rfl⟩) | (go_at_call 44; refine (l01In_any _ _ _ _).mono ?_; rintro e w' ⟨rfl, rfl⟩))
      go_loop [4] (fun i => ∃ k : Nat, k ≤ m + 1 ∧ i = .int .i64 k ∧ Hid (allIn z 0 1000000 k = true)) (fun i => (m + 1) - (intOf i).toNat)
      case atStart => exact ⟨0, Nat.zero_le _, rfl, Lib.hid rfl⟩
      case round =>
        obtain ⟨k, hk, rfl, hall⟩ := hrel
        by_cases hlt : k < m + 1
        · obtain ⟨b, off, rfl, hbB, hcell⟩ := h2.2 k hlt
          have hne : ¬ b = w.heap.size := by omega
          have hlt2 : (k : Int) < (m : Int) + 1 := by omega
          cases e3 : inB (z k) 0 1000000
          · have HV := Lib.hid (show false = tbOk f (m + 1) z by rw [HR.out, allIn_no hlt e3]; rfl)
            clear HR
            go_wp2_with (first | (go_at_call 46; refine (within_any _ _ _ _).mono ?_; rintro e w' ⟨rfl, rfl⟩) | (go_at_call 44; refine (l01In_any _ _ _ _).mono ?_; rintro e w' ⟨rfl, rfl⟩))
            go_ret
            exact ⟨ret_bool HV.out, hbb⟩
          · have HN := Lib.hid (show allIn z 0 1000000 (k + 1) = true by rw [allIn, hall.out, e3]; rfl)
            go_wp2_with (first | (go_at_call 46; refine (within_any _ _ _ _).mono ?_; rintro e w' ⟨rfl, rfl⟩) | (go_at_call 44; refine (l01In_any _ _ _ _).mono ?_; rintro e w' ⟨rfl, rfl⟩))
            go_round
            case rel => exact ⟨k + 1, by omega, by go_num, HN⟩
            case measure => simp [intOf]; omega
        · obtain rfl : k = m + 1 := by omega
          obtain ⟨b, off, rfl, hbB, hcell⟩ := h2.2 m (by omega)
          have HV := Lib.hid (show (z m == 1000000) = tbOk f (m + 1) z by rw [HR.out, hall.out]; rfl)
          clear HR hall
          go_wp2_with fail
          go_ret
          exact ⟨ret_bool HV.out, hbb⟩
set_option maxHeartbeats 3200000 in
theorem iDeathAt (w : World) (A : Option Addr) (n c : Nat) (z : Nat → Int) (f : Int) (a : Int) (h : RdI w w.heap.size A n z) :
    Calls Try.prog 29 #[.agg #[.int .i64 f, .slice A n c], .int .i64 a] w fun e w' => e = .returned (.int .i64 (deathL f n z a)) ∧ Below w.heap.size w w' := by
  have hn := h.1
  cases htb : tbOk f n z
  · go_enter Try.func29, Try.ntmps29
    go_wp2_with fail
    refine (iTableOk _ A n c z f ((h.below (Below.alloc (Below.refl _ _) (Nat.le_refl _) _)).more (by simp))).mono ?_
    rintro e w1 ⟨rfl, hb1⟩
    rw [htb]
    obtain ⟨hc1, -⟩ := keepc hb1
    have c0 : w1.cell? ⟨w.heap.size, 0, none⟩ = some (.int .i64 f) := by rw [hc1 _ _ (by simp)]; simp [go_sem]
    have c1 : w1.cell? ⟨w.heap.size, 1, none⟩ = some (.slice A n c) := by rw [hc1 _ _ (by simp)]; simp [go_sem]
    have hbb := (Below.alloc (Below.refl w.heap.size w) (Nat.le_refl _) _).trans (hb1.mono (by simp))
    clear hc1 hb1
    go_wp2_with fail
    go_ret
    exact ⟨ret_int (by simp [deathL, htb]), hbb⟩
  · have g := htb
    simp only [tbOk, Bool.and_eq_true, inB_iff] at g
    obtain ⟨g1, g2, -⟩ := g
    have k1 : IntKind.i64.wrap (f + n) = f + n := IntWalk.i64_in _ ⟨by omega, by omega⟩
    have k2 : IntKind.i64.wrap (f + n - 1) = f + n - 1 := IntWalk.i64_in _ ⟨by omega, by omega⟩
    cases e6 : inB a f (f + n - 1)
    · go_enter Try.func29, Try.ntmps29
      go_wp2_with fail
      refine (iTableOk _ A n c z f ((h.below (Below.alloc (Below.refl _ _) (Nat.le_refl _) _)).more (by simp))).mono ?_
      rintro e w1 ⟨rfl, hb1⟩
      rw [htb]
      obtain ⟨hc1, -⟩ := keepc hb1
      have c0 : w1.cell? ⟨w.heap.size, 0, none⟩ = some (.int .i64 f) := by rw [hc1 _ _ (by simp)]; simp [go_sem]
      have c1 : w1.cell? ⟨w.heap.size, 1, none⟩ = some (.slice A n c) := by rw [hc1 _ _ (by simp)]; simp [go_sem]
      have hbb := (Below.alloc (Below.refl w.heap.size w) (Nat.le_refl _) _).trans (hb1.mono (by simp))
      clear hc1 hb1
      go_wp2_with (first | (go_at_call 46; refine (within_any _ _ _ _).mono ?_; rintro e w' ⟨rfl, rfl⟩) | (go_at_call 44; refine (l01In_any _ _ _ _).mono ?_; rintro e w' ⟨rfl, rfl⟩))
      go_ret
      exact ⟨ret_int (by simp [deathL, htb, e6]), hbb⟩
    · have g3 := inB_iff.1 e6
      obtain ⟨j, rfl⟩ : ∃ j : Nat, a = f + j := ⟨(a - f).toNat, by omega⟩
      have k3 : IntKind.i64.wrap (j : Int) = j := IntWalk.i64_in _ ⟨by omega, by omega⟩
      have k4 : IntKind.i64.wrap (f + j - f) = j := by rw [show f + (j : Int) - f = j by omega]; exact k3
      have hv : z j = deathL f n z (f + j) := by (have e : (f + (j : Int) - f).toNat = j := (by omega)); rw [deathL, htb, e6, e]; rfl
      have HV := Lib.hid hv
      clear hv
      go_enter Try.func29, Try.ntmps29
      go_wp2_with fail
      refine (iTableOk _ A n c z f ((h.below (Below.alloc (Below.refl _ _) (Nat.le_refl _) _)).more (by simp))).mono ?_
      rintro e w1 ⟨rfl, hb1⟩
      rw [htb]
      obtain ⟨hc1, -⟩ := keepc hb1
      have c0 : w1.cell? ⟨w.heap.size, 0, none⟩ = some (.int .i64 f) := by rw [hc1 _ _ (by simp)]; simp [go_sem]
      have c1 : w1.cell? ⟨w.heap.size, 1, none⟩ = some (.slice A n c) := by rw [hc1 _ _ (by simp)]; simp [go_sem]
      have hbb := (Below.alloc (Below.refl w.heap.size w) (Nat.le_refl _) _).trans (hb1.mono (by simp))
      clear hc1 hb1
      obtain ⟨b, off, rfl, hbB, hcell⟩ := (h.below hbb).2 j (by omega)
      clear h
      go_wp2_with (first | (go_at_call 46; refine (within_any _ _ _ _).mono ?_; rintro e w' ⟨rfl, rfl⟩) | (go_at_call 44; refine (l01In_any _ _ _ _).mono ?_; rintro e w' ⟨rfl, rfl⟩))
      go_ret
      exact ⟨ret_int HV.out, hbb⟩
set_option maxHeartbeats 3200000 in
theorem sDeathAt (w : World) (A : Option Addr) (n c : Nat) (z : Nat → Int) (f : Int) (a : Int) (h : RdI w w.heap.size A n z) :
    Calls Try.prog 28 #[.agg #[.int .i64 f, .slice A n c], .int .i64 a] w fun e w' => e = .returned (.int .i64 (deathL f n z a)) ∧ Below w.heap.size w w' := by
  have hn := h.1
  cases htb : tbOk f n z
  · go_enter Try.func28, Try.ntmps28
    go_wp2_with fail
    refine (sTableOk _ A n c z f ((h.below (Below.alloc (Below.refl _ _) (Nat.le_refl _) _)).more (by simp))).mono ?_
    rintro e w1 ⟨rfl, hb1⟩
    rw [htb]
    obtain ⟨hc1, -⟩ := keepc hb1
    have c0 : w1.cell? ⟨w.heap.size, 0, none⟩ = some (.int .i64 f) := by rw [hc1 _ _ (by simp)]; simp [go_sem]
    have c1 : w1.cell? ⟨w.heap.size, 1, none⟩ = some (.slice A n c) := by rw [hc1 _ _ (by simp)]; simp [go_sem]
    have hbb := (Below.alloc (Below.refl w.heap.size w) (Nat.le_refl _) _).trans (hb1.mono (by simp))
    clear hc1 hb1
    go_wp2_with fail
    go_ret
    exact ⟨ret_int (by simp [deathL, htb]), hbb⟩
  · have g := htb
    simp only [tbOk, Bool.and_eq_true, inB_iff] at g
    obtain ⟨g1, g2, -⟩ := g
    have k1 : IntKind.i64.wrap (f + n) = f + n := IntWalk.i64_in _ ⟨by omega, by omega⟩
    have k2 : IntKind.i64.wrap (f + n - 1) = f + n - 1 := IntWalk.i64_in _ ⟨by omega, by omega⟩
    cases e6 : inB a f (f + n - 1)
    · go_enter Try.func28, Try.ntmps28
      go_wp2_with fail
      refine (sTableOk _ A n c z f ((h.below (Below.alloc (Below.refl _ _) (Nat.le_refl _) _)).more (by simp))).mono ?_
      rintro e w1 ⟨rfl, hb1⟩
      rw [htb]
      obtain ⟨hc1, -⟩ := keepc hb1
      have c0 : w1.cell? ⟨w.heap.size, 0, none⟩ = some (.int .i64 f) := by rw [hc1 _ _ (by simp)]; simp [go_sem]
      have c1 : w1.cell? ⟨w.heap.size, 1, none⟩ = some (.slice A n c) := by rw [hc1 _ _ (by simp)]; simp [go_sem]
      have hbb := (Below.alloc (Below.refl w.heap.size w) (Nat.le_refl _) _).trans (hb1.mono (by simp))
      clear hc1 hb1
      go_wp2_with (first | (go_at_call 46; refine (within_any _ _ _ _).mono ?_; rintro e w' ⟨rfl, rfl⟩) | (go_at_call 44; refine (l01In_any _ _ _ _).mono ?_; rintro e w' ⟨rfl, rfl⟩))
      go_ret
      exact ⟨ret_int (by simp [deathL, htb, e6]), hbb⟩
    · have g3 := inB_iff.1 e6
      obtain ⟨j, rfl⟩ : ∃ j : Nat, a = f + j := ⟨(a - f).toNat, by omega⟩
      have k3 : IntKind.i64.wrap (j : Int) = j := IntWalk.i64_in _ ⟨by omega, by omega⟩
      have k4 : IntKind.i64.wrap (f + j - f) = j := by rw [show f + (j : Int) - f = j by omega]; exact k3
      have hv : z j = deathL f n z (f + j) := by (have e : (f + (j : Int) - f).toNat = j := (by omega)); rw [deathL, htb, e6, e]; rfl
      have HV := Lib.hid hv
      clear hv
      go_enter Try.func28, Try.ntmps28
      go_wp2_with fail
      refine (sTableOk _ A n c z f ((h.below (Below.alloc (Below.refl _ _) (Nat.le_refl _) _)).more (by simp))).mono ?_
      rintro e w1 ⟨rfl, hb1⟩
      rw [htb]
      obtain ⟨hc1, -⟩ := keepc hb1
      have c0 : w1.cell? ⟨w.heap.size, 0, none⟩ = some (.int .i64 f) := by rw [hc1 _ _ (by simp)]; simp [go_sem]
      have c1 : w1.cell? ⟨w.heap.size, 1, none⟩ = some (.slice A n c) := by rw [hc1 _ _ (by simp)]; simp [go_sem]
      have hbb := (Below.alloc (Below.refl w.heap.size w) (Nat.le_refl _) _).trans (hb1.mono (by simp))
      clear hc1 hb1
      obtain ⟨b, off, rfl, hbB, hcell⟩ := (h.below hbb).2 j (by omega)
      clear h
      go_wp2_with (first | (go_at_call 46; refine (within_any _ _ _ _).mono ?_; rintro e w' ⟨rfl, rfl⟩) | (go_at_call 44; refine (l01In_any _ _ _ _).mono ?_; rintro e w' ⟨rfl, rfl⟩))
      go_ret
      exact ⟨ret_int HV.out, hbb⟩

set_option maxHeartbeats 400000 in
theorem szInts (w : World) (A : Option Addr) (n c : Nat) (hn : n ≤ 9223372036854775807) :
    Calls Try.prog 48 #[.slice A n c, .int .i64 1048576] w fun e w' => e = .returned (.int .i64 (if (1048576 : Int) < n then -1 else 1048576 - n)) ∧ w = w' := by
  by_cases h : (1048576 : Int) < n
  · rw [if_pos h]
    have h1 : IntKind.i64.wrap (1048576 - (n : Int)) = 1048576 - n := IntWalk.i64_in _ ⟨by omega, by omega⟩
    have h2 : (1048576 : Int) - n < 0 := by omega
    go_enter Try.func48, Try.ntmps48
    go_wp2
    go_ret
    exact ⟨rfl, rfl⟩
  · rw [if_neg h]
    have h1 : IntKind.i64.wrap (1048576 - (n : Int)) = 1048576 - n := IntWalk.i64_in _ ⟨by omega, by omega⟩
    have h2 : ¬ (1048576 : Int) - n < 0 := by omega
    go_enter Try.func48, Try.ntmps48
    go_wp2
    go_ret
    exact ⟨rfl, rfl⟩
set_option maxHeartbeats 400000 in
theorem szTable_any (w : World) (A : Option Addr) (n c : Nat) (f : Int) (hn : n ≤ 9223372036854775807) :
    Calls Try.prog 21 #[.agg #[.int .i64 f, .slice A n c], .int .i64 1048576] w fun e w' => e = .returned (.int .i64 (if (1048576 : Int) < n then -1 else 1048576 - n)) ∧ Below w.heap.size w w' := by
  by_cases h : (1048576 : Int) < n
  · have h2 := szInts (w.alloc (.cells #[.int .i64 f, .slice A n c] 40)) A n c hn
    rw [if_pos h] at h2 ⊢
    go_enter Try.func21, Try.ntmps21
    go_wp2_with fail
    refine h2.mono ?_
    rintro e w' ⟨rfl, rfl⟩
    go_wp2_with fail
    go_ret
    exact ⟨rfl, (by (repeat (first | (with_reducible exact Below.refl _ _) | (with_reducible assumption) | (with_reducible refine Below.drew ?_) | (with_reducible refine below_drewN ?_ _) | ((with_reducible refine Below.setCell ?_ ?_ _); rotate_left; focus (first | (simp; done) | omega | (simp; omega))) | ((with_reducible refine Below.alloc ?_ ?_ _); rotate_left; focus (first | exact Nat.le_refl _ | omega | (simp; done) | (simp; omega))))))⟩
  · have h2 := szInts (w.alloc (.cells #[.int .i64 f, .slice A n c] 40)) A n c hn
    rw [if_neg h] at h2 ⊢
    have h3 : ¬ (1048576 : Int) - n < 0 := by omega
    go_enter Try.func21, Try.ntmps21
    go_wp2_with fail
    refine h2.mono ?_
    rintro e w' ⟨rfl, rfl⟩
    go_wp2_with fail
    go_ret
    exact ⟨rfl, (by (repeat (first | (with_reducible exact Below.refl _ _) | (with_reducible assumption) | (with_reducible refine Below.drew ?_) | (with_reducible refine below_drewN ?_ _) | ((with_reducible refine Below.setCell ?_ ?_ _); rotate_left; focus (first | (simp; done) | omega | (simp; omega))) | ((with_reducible refine Below.alloc ?_ ?_ _); rotate_left; focus (first | exact Nat.le_refl _ | omega | (simp; done) | (simp; omega))))))⟩
set_option maxHeartbeats 800000 in
theorem toTable_any (w : World) (A : Option Addr) (n c : Nat) (z : Nat → Int) (f : Int) (h : RdI w w.heap.size A n z) (hn : n ≤ 1048576) :
    Calls Try.prog 23 #[.agg #[.int .i64 f, .slice A n c]] w fun e w' => ∃ g : Nat, e = .returned (.agg #[.int .i64 f, .slice (some ⟨g, 0, none⟩) n n]) ∧ w'.rowIs g 3 n (fun i => .int .i64 (z i)) ∧ w.heap.size ≤ g ∧ Below w.heap.size w w' := by
  go_enter Try.func23, Try.ntmps23
  go_wp2_with fail
  refine (toInts _ A n c z ((h.below (by (repeat (first | (with_reducible exact Below.refl _ _) | (with_reducible assumption) | (with_reducible refine Below.drew ?_) | (with_reducible refine below_drewN ?_ _) | ((with_reducible refine Below.setCell ?_ ?_ _); rotate_left; focus (first | (simp; done) | omega | (simp; omega))) | ((with_reducible refine Below.alloc ?_ ?_ _); rotate_left; focus (first | exact Nat.le_refl _ | omega | (simp; done) | (simp; omega))))))).more (by simp; omega)) hn).mono ?_
  rintro e w1 ⟨g, rfl, row, low, hb1⟩
  obtain ⟨hc1, hf1⟩ := keepc hb1
  have hlow : w.heap.size + 1 + 1 + 1 ≤ g := by simpa using low
  have c20 : w1.cell? ⟨w.heap.size + 1 + 1, 0, none⟩ = some (.int .i64 f) := by rw [hc1 _ _ (by simp; try omega)]; simp [go_sem]
  have c21 : w1.cell? ⟨w.heap.size + 1 + 1, 1, none⟩ = some (.slice none 0 0) := by rw [hc1 _ _ (by simp; try omega)]; simp [go_sem]
  have f20 : w1.frozen? ⟨w.heap.size + 1 + 1, 1, none⟩ = false := by rw [hf1 _ _ (by simp; try omega)]; simp [go_sem]
  have c10 : w1.cell? ⟨w.heap.size + 1, 0, none⟩ = some (.int .i64 0) := by rw [hc1 _ _ (by simp; try omega)]; simp [go_sem]
  have c11 : w1.cell? ⟨w.heap.size + 1, 1, none⟩ = some (.slice none 0 0) := by rw [hc1 _ _ (by simp; try omega)]; simp [go_sem]
  have f10 : w1.frozen? ⟨w.heap.size + 1, 0, none⟩ = false := by rw [hf1 _ _ (by simp; try omega)]; simp [go_sem]
  have f11 : w1.frozen? ⟨w.heap.size + 1, 1, none⟩ = false := by rw [hf1 _ _ (by simp; try omega)]; simp [go_sem]
  have hB1 : Below w.heap.size w w1 := by refine Below.trans ?_ (hb1.mono (by simp; try omega)); (repeat (first | (with_reducible exact Below.refl _ _) | (with_reducible assumption) | (with_reducible refine Below.drew ?_) | (with_reducible refine below_drewN ?_ _) | ((with_reducible refine Below.setCell ?_ ?_ _); rotate_left; focus (first | (simp; done) | omega | (simp; omega))) | ((with_reducible refine Below.alloc ?_ ?_ _); rotate_left; focus (first | exact Nat.le_refl _ | omega | (simp; done) | (simp; omega)))))
  clear hc1 hf1 hb1
  go_wp2_with fail
  refine bodyPost_ret (v := .agg #[.int .i64 f, .slice (some ⟨g, 0, none⟩) n n]) (by simp [results, Try.results23, go_sem, c10, c11]) rfl ⟨g, rfl, ?_, by omega, (by (repeat (first | (with_reducible exact Below.refl _ _) | (with_reducible assumption) | (with_reducible refine Below.drew ?_) | (with_reducible refine below_drewN ?_ _) | ((with_reducible refine Below.setCell ?_ ?_ _); rotate_left; focus (first | (simp; done) | omega | (simp; omega))) | ((with_reducible refine Below.alloc ?_ ?_ _); rotate_left; focus (first | exact Nat.le_refl _ | omega | (simp; done) | (simp; omega))))))⟩
  exact ((row.setOther (by simp; omega) _).setOther (by simp; omega) _).setOther (by simp; omega) _
set_option maxHeartbeats 800000 in
theorem eqTable_any (w : World) (A A' : Option Addr) (n c c' : Nat) (z : Nat → Int) (f : Int) (h : RdI w w.heap.size A n z) (h' : RdI w w.heap.size A' n z) :
    Calls Try.prog 25 #[.agg #[.int .i64 f, .slice A n c], .agg #[.int .i64 f, .slice A' n c']] w fun e w' => e = .returned (.bool true) ∧ Below w.heap.size w w' := by
  go_enter Try.func25, Try.ntmps25
  go_wp2_with fail
  refine (eqInts _ A A' n n c c' z z ((h.below (by (repeat (first | (with_reducible exact Below.refl _ _) | (with_reducible assumption) | (with_reducible refine Below.drew ?_) | (with_reducible refine below_drewN ?_ _) | ((with_reducible refine Below.setCell ?_ ?_ _); rotate_left; focus (first | (simp; done) | omega | (simp; omega))) | ((with_reducible refine Below.alloc ?_ ?_ _); rotate_left; focus (first | exact Nat.le_refl _ | omega | (simp; done) | (simp; omega))))))).more (by simp; omega)) ((h'.below (by (repeat (first | (with_reducible exact Below.refl _ _) | (with_reducible assumption) | (with_reducible refine Below.drew ?_) | (with_reducible refine below_drewN ?_ _) | ((with_reducible refine Below.setCell ?_ ?_ _); rotate_left; focus (first | (simp; done) | omega | (simp; omega))) | ((with_reducible refine Below.alloc ?_ ?_ _); rotate_left; focus (first | exact Nat.le_refl _ | omega | (simp; done) | (simp; omega))))))).more (by simp; omega)) ⟨rfl, fun _ _ => rfl⟩).mono ?_
  rintro e w1 ⟨rfl, hb1⟩
  go_wp2_with fail
  go_ret
  refine ⟨rfl, Below.trans ?_ (hb1.mono (by simp; try omega))⟩
  (repeat (first | (with_reducible exact Below.refl _ _) | (with_reducible assumption) | (with_reducible refine Below.drew ?_) | (with_reducible refine below_drewN ?_ _) | ((with_reducible refine Below.setCell ?_ ?_ _); rotate_left; focus (first | (simp; done) | omega | (simp; omega))) | ((with_reducible refine Below.alloc ?_ ?_ _); rotate_left; focus (first | exact Nat.le_refl _ | omega | (simp; done) | (simp; omega)))))
end Go.Proofs.Ytmbmpogdakoloaa
