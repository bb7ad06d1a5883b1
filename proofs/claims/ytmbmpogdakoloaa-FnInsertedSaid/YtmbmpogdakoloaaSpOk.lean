/- SpellsOk of the program and of the reference. Conditions: the spells can be read. -/
import Derived.Test.YtmbmpogdakoloaaSp
namespace Go.Proofs.Ytmbmpogdakoloaa
open Go.RowKit

def allUp (P : Nat → Bool) : Nat → Bool
  | 0 => true
  | k + 1 => allUp P k && P k
theorem allUp_at {P : Nat → Bool} : ∀ {n : Nat}, allUp P n = true → ∀ i, i < n → P i = true
  | 0, _, i, hi => by omega
  | n + 1, h, i, hi => by
    simp only [allUp, Bool.and_eq_true] at h
    by_cases e : i = n
    · subst e; exact h.2
    · exact allUp_at h.1 i (by omega)
theorem allUp_mk {P : Nat → Bool} : ∀ {n : Nat}, (∀ i, i < n → P i = true) → allUp P n = true
  | 0, _ => rfl
  | n + 1, h => by
    simp only [allUp, Bool.and_eq_true]
    exact ⟨allUp_mk fun i hi => h i (by omega), h n (by omega)⟩
theorem allUp_no {P : Nat → Bool} {n i : Nat} (h : i < n) (hz : P i = false) : allUp P n = false := by
  cases e : allUp P n with
  | false => rfl
  | true => have := allUp_at e i h; rw [hz] at this; cases this

/-- A spell is good behind the one ahead of it. -/
def spGood (L : Nat → Sp) (i : Nat) : Bool := spanB (L i).f (L i).t && inB (L i).p 1 100 && (i == 0 || !decide ((L i).f < (L (i - 1)).t))
def spOk (n : Nat) (L : Nat → Sp) : Bool := allUp (spGood L) n && decide (n ≤ 30)
theorem spOk_no {n k : Nat} {L : Nat → Sp} (h : k < n) (hz : spGood L k = false) : spOk n L = false := by rw [spOk, allUp_no h hz]; rfl

set_option maxHeartbeats 3200000 in
theorem iSpellsOk (w : World) (A : Option Addr) (n c : Nat) (L : Nat → Sp) (h : RdSp w w.heap.size A n L) :
    Calls Try.prog 19 #[.slice A n c] w fun e w' => e = .returned (.bool (spOk n L)) ∧ Below w.heap.size w w' := by
  have hn := h.1
  go_enter Try.func19, Try.ntmps19
  go_wp2_with fail
  go_loopw [7] (fun i wr => ∃ k : Nat, k ≤ n ∧ i = .int .i64 k ∧ Hid (allUp (spGood L) k = true) ∧ Below w.heap.size w wr) (fun i _ => n - (intOf i).toNat)
  case atStart => exact ⟨0, Nat.zero_le _, rfl, Lib.hid rfl, Below.refl _ _⟩
  case round =>
    obtain ⟨k, hk, rfl, hall, hbr⟩ := hrel
    have hs1 := hbr.size
    by_cases hlt : k < n
    · have hh := h.below hbr
      obtain ⟨b, off, rfl, hbB, h0, h1, h2, h3⟩ := hh.2 k hlt
      have hb1 : b < wr.heap.size := by omega
      have hne : ¬ b = wr.heap.size := by omega
      have hhk := hh.2
      clear h hh
      cases e1 : spanB (L k).f (L k).t
      · go_wp2_with fail
        go_quiet ((first | (go_at_call 45; exact quietN (isSpan_any _ _ _)) | (go_at_call 46; exact quietN (within_any _ _ _ _))))
        go_wp2_with fail
        go_ret
        exact ⟨ret_bool (spOk_no hlt (by simp [spGood, e1])).symm, (by (repeat (first | (with_reducible exact Below.refl _ _) | (with_reducible assumption) | (with_reducible refine Below.drew ?_) | (with_reducible refine below_drewN ?_ _) | ((with_reducible refine Below.setCell ?_ ?_ _); rotate_left; focus (first | (simp; done) | omega | (simp; omega))) | ((with_reducible refine Below.alloc ?_ ?_ _); rotate_left; focus (first | exact Nat.le_refl _ | omega | (simp; done) | (simp; omega))))))⟩
      · cases e2 : inB (L k).p 1 100
        · go_wp2_with fail
          go_quiet ((first | (go_at_call 45; exact quietN (isSpan_any _ _ _)) | (go_at_call 46; exact quietN (within_any _ _ _ _))))
          go_wp2_with fail
          go_ret
          exact ⟨ret_bool (spOk_no hlt (by simp [spGood, e1, e2])).symm, (by (repeat (first | (with_reducible exact Below.refl _ _) | (with_reducible assumption) | (with_reducible refine Below.drew ?_) | (with_reducible refine below_drewN ?_ _) | ((with_reducible refine Below.setCell ?_ ?_ _); rotate_left; focus (first | (simp; done) | omega | (simp; omega))) | ((with_reducible refine Below.alloc ?_ ?_ _); rotate_left; focus (first | exact Nat.le_refl _ | omega | (simp; done) | (simp; omega))))))⟩
        · skip
          cases k with
          | zero =>
            simp only [Nat.zero_mul, Nat.add_zero] at h0 h1 h2 h3
            go_wp2_with fail
            go_quiet ((first | (go_at_call 45; exact quietN (isSpan_any _ _ _)) | (go_at_call 46; exact quietN (within_any _ _ _ _))))
            go_wp2_with fail
            go_roundw
            case rel => exact ⟨0 + 1, by omega, by go_num, (by have h := hall.out; exact Lib.hid (by rw [allUp, h]; simp [spGood, e1, e2])), (by (repeat (first | (with_reducible exact Below.refl _ _) | (with_reducible assumption) | (with_reducible refine Below.drew ?_) | (with_reducible refine below_drewN ?_ _) | ((with_reducible refine Below.setCell ?_ ?_ _); rotate_left; focus (first | (simp; done) | omega | (simp; omega))) | ((with_reducible refine Below.alloc ?_ ?_ _); rotate_left; focus (first | exact Nat.le_refl _ | omega | (simp; done) | (simp; omega))))))⟩
            case measure => simp [intOf]; omega
          | succ m =>
            obtain ⟨b', off', he', -, g0, g1, g2, g3⟩ := hhk m (by omega)
            clear hhk
            obtain ⟨rfl, rfl⟩ : b = b' ∧ off = off' := by injection he' with e; injection e with e1 e2 e3; exact ⟨e1, e2⟩
            clear he'
            have hw2 : IntKind.i64.wrap (m : Int) = m := IntWalk.i64_in _ ⟨by omega, by omega⟩
            have hw1 : IntKind.i64.wrap ((m : Int) + 1 - 1) = m := by rw [Int.add_sub_cancel]; exact hw2
            cases e3 : decide ((L (m + 1)).f < (L m).t)
            · go_wp2_with fail
              go_quiet ((first | (go_at_call 45; exact quietN (isSpan_any _ _ _)) | (go_at_call 46; exact quietN (within_any _ _ _ _))))
              go_wp2_with fail
              go_roundw
              case rel => exact ⟨m + 1 + 1, by omega, by go_num, (by have h := hall.out; exact Lib.hid (by rw [allUp, h]; simp [spGood, e1, e2, e3])), (by (repeat (first | (with_reducible exact Below.refl _ _) | (with_reducible assumption) | (with_reducible refine Below.drew ?_) | (with_reducible refine below_drewN ?_ _) | ((with_reducible refine Below.setCell ?_ ?_ _); rotate_left; focus (first | (simp; done) | omega | (simp; omega))) | ((with_reducible refine Below.alloc ?_ ?_ _); rotate_left; focus (first | exact Nat.le_refl _ | omega | (simp; done) | (simp; omega))))))⟩
              case measure => simp [intOf]; omega
            · go_wp2_with fail
              go_quiet ((first | (go_at_call 45; exact quietN (isSpan_any _ _ _)) | (go_at_call 46; exact quietN (within_any _ _ _ _))))
              go_wp2_with fail
              go_ret
              exact ⟨ret_bool (spOk_no hlt (by simp [spGood, e1, e2, e3])).symm, (by (repeat (first | (with_reducible exact Below.refl _ _) | (with_reducible assumption) | (with_reducible refine Below.drew ?_) | (with_reducible refine below_drewN ?_ _) | ((with_reducible refine Below.setCell ?_ ?_ _); rotate_left; focus (first | (simp; done) | omega | (simp; omega))) | ((with_reducible refine Below.alloc ?_ ?_ _); rotate_left; focus (first | exact Nat.le_refl _ | omega | (simp; done) | (simp; omega))))))⟩
    · obtain rfl : k = n := by omega
      have ha := hall.out
      have hv : spOk k L = decide ((k : Int) ≤ 30) := by rw [spOk, ha, Bool.true_and]; apply decide_eq_decide.2; omega
      go_wp2_with fail
      go_ret
      exact ⟨ret_bool hv.symm, hbr⟩

set_option maxHeartbeats 3200000 in
theorem sSpellsOk (w : World) (A : Option Addr) (n c : Nat) (L : Nat → Sp) (h : RdSp w w.heap.size A n L) :
    Calls Try.prog 17 #[.slice A n c] w fun e w' => e = .returned (.bool (spOk n L)) ∧ Below w.heap.size w w' := by
  have hn := h.1
  go_enter Try.func17, Try.ntmps17
  go_wp2_with fail
  go_loopw [3] (fun i wr => ∃ k : Nat, k ≤ n ∧ i = .int .i64 k ∧ Hid (allUp (spGood L) k = true) ∧ Below w.heap.size w wr) (fun i _ => n - (intOf i).toNat)
  case atStart => exact ⟨0, Nat.zero_le _, rfl, Lib.hid rfl, Below.refl _ _⟩
  case round =>
    obtain ⟨k, hk, rfl, hall, hbr⟩ := hrel
    have hs1 := hbr.size
    by_cases hlt : k < n
    · have hh := h.below hbr
      obtain ⟨b, off, rfl, hbB, h0, h1, h2, h3⟩ := hh.2 k hlt
      have hb1 : b < wr.heap.size := by omega
      have hne : ¬ b = wr.heap.size := by omega
      have hhk := hh.2
      clear h hh
      cases a1 : decide ((L k).f < 0)
      · cases a2 : decide ((L k).f ≥ (L k).t)
        · cases a3 : decide ((L k).t > 3600)
          · have e1 : spanB (L k).f (L k).t = true := by simp at a1 a2 a3; simp [spanB]; omega
            cases e2 : inB (L k).p 1 100
            · go_wp2_with fail
              go_quiet ((go_at_call 44; exact quietN (l01In_any _ _ _ _)))
              go_wp2_with fail
              go_ret
              exact ⟨ret_bool (spOk_no hlt (by simp [spGood, e1, e2])).symm, (by (repeat (first | (with_reducible exact Below.refl _ _) | (with_reducible assumption) | (with_reducible refine Below.drew ?_) | (with_reducible refine below_drewN ?_ _) | ((with_reducible refine Below.setCell ?_ ?_ _); rotate_left; focus (first | (simp; done) | omega | (simp; omega))) | ((with_reducible refine Below.alloc ?_ ?_ _); rotate_left; focus (first | exact Nat.le_refl _ | omega | (simp; done) | (simp; omega))))))⟩
            · skip
              cases k with
              | zero =>
                simp only [Nat.zero_mul, Nat.add_zero] at h0 h1 h2 h3
                go_wp2_with fail
                go_quiet ((go_at_call 44; exact quietN (l01In_any _ _ _ _)))
                go_wp2_with fail
                go_roundw
                case rel => exact ⟨0 + 1, by omega, by go_num, (by have h := hall.out; exact Lib.hid (by rw [allUp, h]; simp [spGood, e1, e2])), (by (repeat (first | (with_reducible exact Below.refl _ _) | (with_reducible assumption) | (with_reducible refine Below.drew ?_) | (with_reducible refine below_drewN ?_ _) | ((with_reducible refine Below.setCell ?_ ?_ _); rotate_left; focus (first | (simp; done) | omega | (simp; omega))) | ((with_reducible refine Below.alloc ?_ ?_ _); rotate_left; focus (first | exact Nat.le_refl _ | omega | (simp; done) | (simp; omega))))))⟩
                case measure => simp [intOf]; omega
              | succ m =>
                obtain ⟨b', off', he', -, g0, g1, g2, g3⟩ := hhk m (by omega)
                clear hhk
                obtain ⟨rfl, rfl⟩ : b = b' ∧ off = off' := by injection he' with e; injection e with e1 e2 e3; exact ⟨e1, e2⟩
                clear he'
                have hw2 : IntKind.i64.wrap (m : Int) = m := IntWalk.i64_in _ ⟨by omega, by omega⟩
                have hw1 : IntKind.i64.wrap ((m : Int) + 1 - 1) = m := by rw [Int.add_sub_cancel]; exact hw2
                cases e3 : decide ((L (m + 1)).f < (L m).t)
                · go_wp2_with fail
                  go_quiet ((go_at_call 44; exact quietN (l01In_any _ _ _ _)))
                  go_wp2_with fail
                  go_roundw
                  case rel => exact ⟨m + 1 + 1, by omega, by go_num, (by have h := hall.out; exact Lib.hid (by rw [allUp, h]; simp [spGood, e1, e2, e3])), (by (repeat (first | (with_reducible exact Below.refl _ _) | (with_reducible assumption) | (with_reducible refine Below.drew ?_) | (with_reducible refine below_drewN ?_ _) | ((with_reducible refine Below.setCell ?_ ?_ _); rotate_left; focus (first | (simp; done) | omega | (simp; omega))) | ((with_reducible refine Below.alloc ?_ ?_ _); rotate_left; focus (first | exact Nat.le_refl _ | omega | (simp; done) | (simp; omega))))))⟩
                  case measure => simp [intOf]; omega
                · go_wp2_with fail
                  go_quiet ((go_at_call 44; exact quietN (l01In_any _ _ _ _)))
                  go_wp2_with fail
                  go_ret
                  exact ⟨ret_bool (spOk_no hlt (by simp [spGood, e1, e2, e3])).symm, (by (repeat (first | (with_reducible exact Below.refl _ _) | (with_reducible assumption) | (with_reducible refine Below.drew ?_) | (with_reducible refine below_drewN ?_ _) | ((with_reducible refine Below.setCell ?_ ?_ _); rotate_left; focus (first | (simp; done) | omega | (simp; omega))) | ((with_reducible refine Below.alloc ?_ ?_ _); rotate_left; focus (first | exact Nat.le_refl _ | omega | (simp; done) | (simp; omega))))))⟩
          · have e1 : spanB (L k).f (L k).t = false := by simp at a3; simp [spanB]; omega
            go_wp2_with fail
            go_quiet ((go_at_call 44; exact quietN (l01In_any _ _ _ _)))
            go_wp2_with fail
            go_ret
            exact ⟨ret_bool (spOk_no hlt (by simp [spGood, e1])).symm, (by (repeat (first | (with_reducible exact Below.refl _ _) | (with_reducible assumption) | (with_reducible refine Below.drew ?_) | (with_reducible refine below_drewN ?_ _) | ((with_reducible refine Below.setCell ?_ ?_ _); rotate_left; focus (first | (simp; done) | omega | (simp; omega))) | ((with_reducible refine Below.alloc ?_ ?_ _); rotate_left; focus (first | exact Nat.le_refl _ | omega | (simp; done) | (simp; omega))))))⟩
        · have e1 : spanB (L k).f (L k).t = false := by simp at a2; simp [spanB]; omega
          go_wp2_with fail
          go_quiet ((go_at_call 44; exact quietN (l01In_any _ _ _ _)))
          go_wp2_with fail
          go_ret
          exact ⟨ret_bool (spOk_no hlt (by simp [spGood, e1])).symm, (by (repeat (first | (with_reducible exact Below.refl _ _) | (with_reducible assumption) | (with_reducible refine Below.drew ?_) | (with_reducible refine below_drewN ?_ _) | ((with_reducible refine Below.setCell ?_ ?_ _); rotate_left; focus (first | (simp; done) | omega | (simp; omega))) | ((with_reducible refine Below.alloc ?_ ?_ _); rotate_left; focus (first | exact Nat.le_refl _ | omega | (simp; done) | (simp; omega))))))⟩
      · have e1 : spanB (L k).f (L k).t = false := by simp at a1; simp [spanB]; omega
        go_wp2_with fail
        go_quiet ((go_at_call 44; exact quietN (l01In_any _ _ _ _)))
        go_wp2_with fail
        go_ret
        exact ⟨ret_bool (spOk_no hlt (by simp [spGood, e1])).symm, (by (repeat (first | (with_reducible exact Below.refl _ _) | (with_reducible assumption) | (with_reducible refine Below.drew ?_) | (with_reducible refine below_drewN ?_ _) | ((with_reducible refine Below.setCell ?_ ?_ _); rotate_left; focus (first | (simp; done) | omega | (simp; omega))) | ((with_reducible refine Below.alloc ?_ ?_ _); rotate_left; focus (first | exact Nat.le_refl _ | omega | (simp; done) | (simp; omega))))))⟩
    · obtain rfl : k = n := by omega
      have ha := hall.out
      have hv : spOk k L = decide ((k : Int) ≤ 30) := by rw [spOk, ha, Bool.true_and]; apply decide_eq_decide.2; omega
      go_wp2_with fail
      go_ret
      exact ⟨ret_bool hv.symm, hbr⟩
end Go.Proofs.Ytmbmpogdakoloaa
