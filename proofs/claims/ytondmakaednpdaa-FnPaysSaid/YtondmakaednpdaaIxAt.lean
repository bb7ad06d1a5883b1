/- IndexAt and RevaluedPay of the program and of the reference. Conditions: facts and points can be read. -/
import Derived.Test.YtondmakaednpdaaFinal
import Derived.Test.YtondmakaednpdaaSeries
namespace Go.Proofs.Ytondmakaednpdaa
open Go.RowKit

def poHit (p : Po) (m known : Int) : Bool := decide (p.m ≤ m) && decide (p.n ≤ known)
/-- The place of the point that tells the index of month m, as known. -/
def ixBest (L : Nat → Po) (m known : Int) : Nat → Option Nat
  | 0 => none
  | k + 1 => if poHit (L k) m known && (match ixBest L m known k with | none => true | some j => decide ((L j).m ≤ (L k).m)) then some k else ixBest L m known k
theorem ixBest_lt {L : Nat → Po} {m known : Int} : ∀ {k j : Nat}, ixBest L m known k = some j → j < k
  | 0, j, h => by simp [ixBest] at h
  | k + 1, j, h => by
    rw [ixBest] at h
    split at h <;> split at h <;> first | (injection h with h; omega) | (have := ixBest_lt h; omega)
def ixPt (L : Nat → Po) : Option Nat → Po
  | none => Po.zero
  | some j => L j
def ixNo : Option Nat → Int
  | none => -1
  | some j => (j : Int)
def indexL (n : Nat) (L : Nat → Po) (m known : Int) : Option Int := (ixBest L m known n).map fun j => (L j).v
theorem indexL_mem {n : Nat} {L : Nat → Po} {m known v : Int} (h : indexL n L m known = some v) : ∃ j, j < n ∧ v = (L j).v := by
  rw [indexL] at h
  cases e : ixBest L m known n with
  | none => rw [e] at h; simp at h
  | some j => rw [e] at h; simp at h; exact ⟨j, ixBest_lt e, h.symm⟩
theorem valFrom_mem {L : Nat → Fa} {key m known v : Int} : ∀ {n : Nat}, valFrom L key m known n = some v → ∃ j, j < n ∧ v = (L j).v
  | 0, h => by simp [valFrom] at h
  | n + 1, h => by
    rw [valFrom] at h
    split at h
    · injection h with h; exact ⟨n, by omega, h.symm⟩
    · obtain ⟨j, hj, e⟩ := valFrom_mem h; exact ⟨j, by omega, e⟩
theorem stOk_val {n j : Nat} {L : Nat → Fa} (h : stOk n L = true) (hj : j < n) : -1000000000 ≤ (L j).v ∧ (L j).v ≤ 1000000000 := by
  simp only [stOk, Bool.and_eq_true] at h
  have h1 := allUp_at h.1 j hj
  simp only [stGood, factB, Bool.and_eq_true, inB_iff] at h1
  exact h1.1.2.2.2
theorem seOk_val {n j : Nat} {L : Nat → Po} (h : seOk n L = true) (hj : j < n) : 1 ≤ (L j).v ∧ (L j).v ≤ 1000000 := by
  simp only [seOk, Bool.and_eq_true] at h
  have h1 := allUp_at h.1 j hj
  simp only [poGood, Bool.and_eq_true, inB_iff] at h1
  exact h1.2.2.2.1

set_option maxHeartbeats 3200000 in
theorem iIndexAt (w : World) (A : Option Addr) (n c : Nat) (L : Nat → Po) (m known : Int) (h : RdPo w w.heap.size A n L) :
    Calls Try.prog 45 #[.agg #[.slice A n c], .int .i64 m, .int .i64 known] w fun e w' => e = .returned (.tuple #[.int .i64 ((indexL n L m known).getD 0), .bool (indexL n L m known).isSome]) ∧ Below w.heap.size w w' := by
  have hn := h.1
  go_enter Try.func45, Try.ntmps45
  go_wp2_with fail
  go_loopw [9, 16] (fun f i wr => ∃ k : Nat, k ≤ n ∧ i = .int .i64 k ∧ f = .bool (ixBest L m known k).isSome ∧ wr.cell? ⟨w.heap.size + 1, 0, none⟩ = some (.int .i64 (ixPt L (ixBest L m known k)).m) ∧ wr.cell? ⟨w.heap.size + 1, 1, none⟩ = some (.int .i64 (ixPt L (ixBest L m known k)).n) ∧ wr.cell? ⟨w.heap.size + 1, 2, none⟩ = some (.int .i64 (ixPt L (ixBest L m known k)).v) ∧ wr.frozen? ⟨w.heap.size + 1, 0, none⟩ = false ∧ wr.frozen? ⟨w.heap.size + 1, 1, none⟩ = false ∧ wr.frozen? ⟨w.heap.size + 1, 2, none⟩ = false ∧ w.heap.size + 1 < wr.heap.size ∧ Below w.heap.size w wr) (fun _ i _ => n - (intOf i).toNat)
  case atStart => exact ⟨0, Nat.zero_le _, rfl, rfl, by simp [go_sem, ixBest, ixPt, Po.zero], by simp [go_sem, ixBest, ixPt, Po.zero], by simp [go_sem, ixBest, ixPt, Po.zero], by simp [go_sem], by simp [go_sem], by simp [go_sem], by simp, (by (repeat (first | (with_reducible exact Below.refl _ _) | (with_reducible assumption) | (with_reducible refine Below.drew ?_) | (with_reducible refine below_drewN ?_ _) | ((with_reducible refine Below.setCell ?_ ?_ _); rotate_left; focus (first | (simp; done) | omega | (simp; omega))) | ((with_reducible refine Below.alloc ?_ ?_ _); rotate_left; focus (first | exact Nat.le_refl _ | omega | (simp; done) | (simp; omega))))))⟩
  case round =>
    obtain ⟨k, hk, rfl, rfl, c0, c1, c2, f0, f1, f2, hzb, hbr⟩ := hrel
    have hs1 := hbr.size
    by_cases hlt : k < n
    · have hlt2 : (k : Int) < n := by omega
      obtain ⟨b, off, rfl, hbB, h0, h1, h2⟩ := (h.below hbr).2 k hlt
      have hb1 : b < wr.heap.size := by omega
      have hne : ¬ b = wr.heap.size := by omega
      have hne1 : ¬ w.heap.size + 1 = wr.heap.size := by omega
      have hne2 : ¬ b = w.heap.size + 1 := by omega
      clear h
      cases e1 : decide ((L k).m ≤ m)
      · have HV := Lib.hid (show ixBest L m known (k + 1) = ixBest L m known k by rw [ixBest, if_neg (by simp [poHit, e1])])
        go_wp2_with fail
        go_roundw
        case rel => exact ⟨k + 1, by omega, by go_num, by rw [HV.out] <;> rfl, by rw [HV.out]; simp [go_sem, *], by rw [HV.out]; simp [go_sem, *], by rw [HV.out]; simp [go_sem, *], by simp [go_sem, *], by simp [go_sem, *], by simp [go_sem, *], by simp; omega, (by (repeat (first | (with_reducible exact Below.refl _ _) | (with_reducible assumption) | (with_reducible refine Below.drew ?_) | (with_reducible refine below_drewN ?_ _) | ((with_reducible refine Below.setCell ?_ ?_ _); rotate_left; focus (first | (simp; done) | omega | (simp; omega))) | ((with_reducible refine Below.alloc ?_ ?_ _); rotate_left; focus (first | exact Nat.le_refl _ | omega | (simp; done) | (simp; omega))))))⟩
        case measure => simp [intOf] <;> omega
      · cases e2 : decide ((L k).n ≤ known)
        · have HV := Lib.hid (show ixBest L m known (k + 1) = ixBest L m known k by rw [ixBest, if_neg (by simp [poHit, e1, e2])])
          go_wp2_with fail
          go_roundw
          case rel => exact ⟨k + 1, by omega, by go_num, by rw [HV.out] <;> rfl, by rw [HV.out]; simp [go_sem, *], by rw [HV.out]; simp [go_sem, *], by rw [HV.out]; simp [go_sem, *], by simp [go_sem, *], by simp [go_sem, *], by simp [go_sem, *], by simp; omega, (by (repeat (first | (with_reducible exact Below.refl _ _) | (with_reducible assumption) | (with_reducible refine Below.drew ?_) | (with_reducible refine below_drewN ?_ _) | ((with_reducible refine Below.setCell ?_ ?_ _); rotate_left; focus (first | (simp; done) | omega | (simp; omega))) | ((with_reducible refine Below.alloc ?_ ?_ _); rotate_left; focus (first | exact Nat.le_refl _ | omega | (simp; done) | (simp; omega))))))⟩
          case measure => simp [intOf] <;> omega
        · cases hb : ixBest L m known k with
          | none =>
            rw [hb] at c0 c1 c2
            simp only [ixPt, Po.zero] at c0 c1 c2
            have HV := Lib.hid (show ixBest L m known (k + 1) = some k by rw [ixBest, if_pos (by simp [poHit, e1, e2, hb])])
            clear hb
            go_wp2_with fail
            go_roundw
            case rel => exact ⟨k + 1, by omega, by go_num, by rw [HV.out] <;> rfl, by rw [HV.out]; simp [go_sem, ixPt, *], by rw [HV.out]; simp [go_sem, ixPt, *], by rw [HV.out]; simp [go_sem, ixPt, *], by simp [go_sem, *], by simp [go_sem, *], by simp [go_sem, *], by simp; omega, (by (repeat (first | (with_reducible exact Below.refl _ _) | (with_reducible assumption) | (with_reducible refine Below.drew ?_) | (with_reducible refine below_drewN ?_ _) | ((with_reducible refine Below.setCell ?_ ?_ _); rotate_left; focus (first | (simp; done) | omega | (simp; omega))) | ((with_reducible refine Below.alloc ?_ ?_ _); rotate_left; focus (first | exact Nat.le_refl _ | omega | (simp; done) | (simp; omega))))))⟩
            case measure => simp [intOf] <;> omega
          | some j =>
            rw [hb] at c0 c1 c2
            simp only [ixPt] at c0 c1 c2
            cases e3 : decide ((L j).m ≤ (L k).m)
            · have HV := Lib.hid (show ixBest L m known (k + 1) = some j by rw [ixBest, if_neg (by simp [poHit, e1, e2, hb, e3]), hb])
              clear hb
              go_wp2_with fail
              go_roundw
              case rel => exact ⟨k + 1, by omega, by go_num, by rw [HV.out] <;> rfl, by rw [HV.out]; simp [go_sem, ixPt, *], by rw [HV.out]; simp [go_sem, ixPt, *], by rw [HV.out]; simp [go_sem, ixPt, *], by simp [go_sem, *], by simp [go_sem, *], by simp [go_sem, *], by simp; omega, (by (repeat (first | (with_reducible exact Below.refl _ _) | (with_reducible assumption) | (with_reducible refine Below.drew ?_) | (with_reducible refine below_drewN ?_ _) | ((with_reducible refine Below.setCell ?_ ?_ _); rotate_left; focus (first | (simp; done) | omega | (simp; omega))) | ((with_reducible refine Below.alloc ?_ ?_ _); rotate_left; focus (first | exact Nat.le_refl _ | omega | (simp; done) | (simp; omega))))))⟩
              case measure => simp [intOf] <;> omega
            · have HV := Lib.hid (show ixBest L m known (k + 1) = some k by rw [ixBest, if_pos (by simp [poHit, e1, e2, hb, e3])])
              clear hb
              go_wp2_with fail
              go_roundw
              case rel => exact ⟨k + 1, by omega, by go_num, by rw [HV.out] <;> rfl, by rw [HV.out]; simp [go_sem, ixPt, *], by rw [HV.out]; simp [go_sem, ixPt, *], by rw [HV.out]; simp [go_sem, ixPt, *], by simp [go_sem, *], by simp [go_sem, *], by simp [go_sem, *], by simp; omega, (by (repeat (first | (with_reducible exact Below.refl _ _) | (with_reducible assumption) | (with_reducible refine Below.drew ?_) | (with_reducible refine below_drewN ?_ _) | ((with_reducible refine Below.setCell ?_ ?_ _); rotate_left; focus (first | (simp; done) | omega | (simp; omega))) | ((with_reducible refine Below.alloc ?_ ?_ _); rotate_left; focus (first | exact Nat.le_refl _ | omega | (simp; done) | (simp; omega))))))⟩
              case measure => simp [intOf] <;> omega
    · obtain rfl : k = n := by omega
      have HV := Lib.hid (show (ixPt L (ixBest L m known k)).v = (indexL k L m known).getD 0 by rw [indexL]; cases ixBest L m known k <;> rfl)
      have HW := Lib.hid (show (ixBest L m known k).isSome = (indexL k L m known).isSome by rw [indexL]; cases ixBest L m known k <;> rfl)
      go_wp2_with fail
      go_ret2
      exact ⟨by rw [HV.out, HW.out] <;> rfl, hbr⟩

set_option maxHeartbeats 3200000 in
theorem sIndexAt (w : World) (A : Option Addr) (n c : Nat) (L : Nat → Po) (m known : Int) (h : RdPo w w.heap.size A n L) :
    Calls Try.prog 56 #[.agg #[.slice A n c], .int .i64 m, .int .i64 known] w fun e w' => e = .returned (.tuple #[.int .i64 ((indexL n L m known).getD 0), .bool (indexL n L m known).isSome]) ∧ Below w.heap.size w w' := by
  have hn := h.1
  go_enter Try.func56, Try.ntmps56
  go_wp2_with fail
  go_loopw [8, 9] (fun s i wr => ∃ k : Nat, k ≤ n ∧ i = .int .i64 k ∧ s = .int .i64 (ixNo (ixBest L m known k)) ∧ wr.cell? ⟨w.heap.size, 0, none⟩ = some (.slice A n c) ∧ w.heap.size < wr.heap.size ∧ Below w.heap.size w wr) (fun _ i _ => n - (intOf i).toNat)
  case atStart => exact ⟨0, Nat.zero_le _, rfl, rfl, by simp [go_sem], by simp, (by (repeat (first | (with_reducible exact Below.refl _ _) | (with_reducible assumption) | (with_reducible refine Below.drew ?_) | (with_reducible refine below_drewN ?_ _) | ((with_reducible refine Below.setCell ?_ ?_ _); rotate_left; focus (first | (simp; done) | omega | (simp; omega))) | ((with_reducible refine Below.alloc ?_ ?_ _); rotate_left; focus (first | exact Nat.le_refl _ | omega | (simp; done) | (simp; omega))))))⟩
  case round =>
    obtain ⟨k, hk, rfl, rfl, hbox, hzb, hbr⟩ := hrel
    have hs1 := hbr.size
    have hne2 : ¬ w.heap.size = wr.heap.size := by omega
    by_cases hlt : k < n
    · have hlt2 : (k : Int) < n := by omega
      have hh := (h.below hbr).2
      obtain ⟨b, off, rfl, hbB, h0, h1, h2⟩ := hh k hlt
      have hb1 : b < wr.heap.size := by omega
      have hne : ¬ b = wr.heap.size := by omega
      clear h
      cases e1 : decide ((L k).m ≤ m)
      · have HV := Lib.hid (show ixBest L m known (k + 1) = ixBest L m known k by rw [ixBest, if_neg (by simp [poHit, e1])])
        clear hh
        go_wp2_with fail
        go_quiet (fail)
        go_wp2_with fail
        go_roundw
        case rel => exact ⟨k + 1, by omega, by go_num, by rw [HV.out] <;> rfl, by simp [go_sem, *], by simp; omega, (by (repeat (first | (with_reducible exact Below.refl _ _) | (with_reducible assumption) | (with_reducible refine Below.drew ?_) | (with_reducible refine below_drewN ?_ _) | ((with_reducible refine Below.setCell ?_ ?_ _); rotate_left; focus (first | (simp; done) | omega | (simp; omega))) | ((with_reducible refine Below.alloc ?_ ?_ _); rotate_left; focus (first | exact Nat.le_refl _ | omega | (simp; done) | (simp; omega))))))⟩
        case measure => simp [intOf] <;> omega
      · cases e2 : decide ((L k).n ≤ known)
        · have HV := Lib.hid (show ixBest L m known (k + 1) = ixBest L m known k by rw [ixBest, if_neg (by simp [poHit, e1, e2])])
          clear hh
          go_wp2_with fail
          go_quiet (fail)
          go_wp2_with fail
          go_roundw
          case rel => exact ⟨k + 1, by omega, by go_num, by rw [HV.out] <;> rfl, by simp [go_sem, *], by simp; omega, (by (repeat (first | (with_reducible exact Below.refl _ _) | (with_reducible assumption) | (with_reducible refine Below.drew ?_) | (with_reducible refine below_drewN ?_ _) | ((with_reducible refine Below.setCell ?_ ?_ _); rotate_left; focus (first | (simp; done) | omega | (simp; omega))) | ((with_reducible refine Below.alloc ?_ ?_ _); rotate_left; focus (first | exact Nat.le_refl _ | omega | (simp; done) | (simp; omega))))))⟩
          case measure => simp [intOf] <;> omega
        · cases hb : ixBest L m known k with
          | none =>
            clear hh
            simp only [ixNo]
            have HV := Lib.hid (show ixBest L m known (k + 1) = some k by rw [ixBest, if_pos (by simp [poHit, e1, e2, hb])])
            clear hb
            go_wp2_with fail
            go_quiet (fail)
            go_wp2_with fail
            go_roundw
            case rel => exact ⟨k + 1, by omega, by go_num, by rw [HV.out] <;> rfl, by simp [go_sem, *], by simp; omega, (by (repeat (first | (with_reducible exact Below.refl _ _) | (with_reducible assumption) | (with_reducible refine Below.drew ?_) | (with_reducible refine below_drewN ?_ _) | ((with_reducible refine Below.setCell ?_ ?_ _); rotate_left; focus (first | (simp; done) | omega | (simp; omega))) | ((with_reducible refine Below.alloc ?_ ?_ _); rotate_left; focus (first | exact Nat.le_refl _ | omega | (simp; done) | (simp; omega))))))⟩
            case measure => simp [intOf] <;> omega
          | some j =>
            have hj := ixBest_lt hb
            obtain ⟨b', off', he', -, g0, g1, g2⟩ := hh j (by omega)
            clear hh
            obtain ⟨rfl, rfl⟩ : b = b' ∧ off = off' := by injection he' with e; injection e with e1 e2 e3; exact ⟨e1, e2⟩
            clear he' g1 g2
            simp only [ixNo]
            have hj0 : ¬ (j : Int) < 0 := by omega
            have hj1 : (j : Int) < n := by omega
            cases e3 : decide ((L j).m ≤ (L k).m)
            · have HV := Lib.hid (show ixBest L m known (k + 1) = some j by rw [ixBest, if_neg (by simp [poHit, e1, e2, hb, e3]), hb])
              clear hb
              go_wp2_with fail
              go_quiet (fail)
              go_wp2_with fail
              go_roundw
              case rel => exact ⟨k + 1, by omega, by go_num, by rw [HV.out] <;> rfl, by simp [go_sem, *], by simp; omega, (by (repeat (first | (with_reducible exact Below.refl _ _) | (with_reducible assumption) | (with_reducible refine Below.drew ?_) | (with_reducible refine below_drewN ?_ _) | ((with_reducible refine Below.setCell ?_ ?_ _); rotate_left; focus (first | (simp; done) | omega | (simp; omega))) | ((with_reducible refine Below.alloc ?_ ?_ _); rotate_left; focus (first | exact Nat.le_refl _ | omega | (simp; done) | (simp; omega))))))⟩
              case measure => simp [intOf] <;> omega
            · have HV := Lib.hid (show ixBest L m known (k + 1) = some k by rw [ixBest, if_pos (by simp [poHit, e1, e2, hb, e3])])
              clear hb
              go_wp2_with fail
              go_quiet (fail)
              go_wp2_with fail
              go_roundw
              case rel => exact ⟨k + 1, by omega, by go_num, by rw [HV.out] <;> rfl, by simp [go_sem, *], by simp; omega, (by (repeat (first | (with_reducible exact Below.refl _ _) | (with_reducible assumption) | (with_reducible refine Below.drew ?_) | (with_reducible refine below_drewN ?_ _) | ((with_reducible refine Below.setCell ?_ ?_ _); rotate_left; focus (first | (simp; done) | omega | (simp; omega))) | ((with_reducible refine Below.alloc ?_ ?_ _); rotate_left; focus (first | exact Nat.le_refl _ | omega | (simp; done) | (simp; omega))))))⟩
              case measure => simp [intOf] <;> omega
    · obtain rfl : k = n := by omega
      cases hb : ixBest L m known k with
      | none =>
        simp only [ixNo]
        have HV := Lib.hid (show indexL k L m known = none by rw [indexL, hb]; rfl)
        go_wp2_with fail
        go_ret2
        exact ⟨by rw [HV.out]; rfl, hbr⟩
      | some j =>
        have hj := ixBest_lt hb
        obtain ⟨b, off, rfl, hbB, h0, h1, h2⟩ := (h.below hbr).2 j hj
        simp only [ixNo]
        have hj0 : ¬ (j : Int) < 0 := by omega
        have hj1 : (j : Int) < k := by omega
        have HV := Lib.hid (show indexL k L m known = some (L j).v by rw [indexL, hb]; rfl)
        go_wp2_with fail
        go_ret2
        exact ⟨by rw [HV.out]; rfl, hbr⟩
end Go.Proofs.Ytondmakaednpdaa
