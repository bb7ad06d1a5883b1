/- SeriesOk of the reference and of the program. Conditions: the points can be read. -/
import Derived.Test.YtondmakaednpdaaStore
import Derived.Test.YtondmakaednpdaaPo
namespace Go.Proofs.Ytondmakaednpdaa
open Go.RowKit

def poGood (L : Nat → Po) (i : Nat) : Bool := inB (L i).m 0 3599 && (inB (L i).n 0 3599 && (!decide ((L i).n < (L i).m) && (inB (L i).v 1 1000000 && (i == 0 || !decide ((L i).n < (L (i - 1)).n)))))
def seOk (n : Nat) (L : Nat → Po) : Bool := allUp (poGood L) n && decide (n ≤ 200)
theorem seOk_no {n k : Nat} {L : Nat → Po} (h : k < n) (hz : poGood L k = false) : seOk n L = false := by rw [seOk, allUp_no h hz]; rfl

set_option maxHeartbeats 6400000 in
theorem sSeriesOk (w : World) (A : Option Addr) (n c : Nat) (L : Nat → Po) (h : RdPo w w.heap.size A n L) :
    Calls Try.prog 55 #[.agg #[.slice A n c]] w fun e w' => e = .returned (.bool (seOk n L)) ∧ Below w.heap.size w w' := by
  have hn := h.1
  have hbb : Below w.heap.size w (w.alloc (.cells #[.slice A n c] 29)) := (Below.refl _ _).alloc (Nat.le_refl _) _
  go_enter Try.func55, Try.ntmps55
  go_wp2_with fail
  go_loopw [3] (fun i wr => ∃ k : Nat, k ≤ n ∧ i = .int .i64 k ∧ Hid (allUp (poGood L) k = true) ∧ wr.cell? ⟨w.heap.size, 0, none⟩ = some (.slice A n c) ∧ w.heap.size < wr.heap.size ∧ Below w.heap.size w wr) (fun i _ => n - (intOf i).toNat)
  case atStart => exact ⟨0, Nat.zero_le _, rfl, Lib.hid rfl, by simp [go_sem], by simp, hbb⟩
  case round =>
    obtain ⟨k, hk, rfl, hall, hbox, hzb, hbr⟩ := hrel
    have hs1 := hbr.size
    by_cases hlt : k < n
    · have hhk := (h.below hbr).2
      obtain ⟨b, off, rfl, hbB, h0, h1, h2⟩ := hhk k hlt
      have hb1 : b < wr.heap.size := by omega
      have hne : ¬ b = wr.heap.size := by omega
      have hne2 : ¬ w.heap.size = wr.heap.size := by omega
      clear h
      cases e1 : inB (L k).m 0 3599
      · go_wp2_with fail
        go_quiet ((first | (go_at_call 74; exact quietN (sMonthOk _ _)) | (go_at_call 59; exact quietN (l01In_any _ _ _ _))))
        go_wp2_with fail
        go_ret
        exact ⟨ret_bool (seOk_no hlt (by simp [poGood, e1])).symm, (by (repeat (first | (with_reducible exact Below.refl _ _) | (with_reducible assumption) | (with_reducible refine Below.drew ?_) | (with_reducible refine below_drewN ?_ _) | ((with_reducible refine Below.setCell ?_ ?_ _); rotate_left; focus (first | (simp; done) | omega | (simp; omega))) | ((with_reducible refine Below.alloc ?_ ?_ _); rotate_left; focus (first | exact Nat.le_refl _ | omega | (simp; done) | (simp; omega))))))⟩
      · cases e2 : inB (L k).n 0 3599
        · go_wp2_with fail
          go_quiet ((first | (go_at_call 74; exact quietN (sMonthOk _ _)) | (go_at_call 59; exact quietN (l01In_any _ _ _ _))))
          go_wp2_with fail
          go_ret
          exact ⟨ret_bool (seOk_no hlt (by simp [poGood, e1, e2])).symm, (by (repeat (first | (with_reducible exact Below.refl _ _) | (with_reducible assumption) | (with_reducible refine Below.drew ?_) | (with_reducible refine below_drewN ?_ _) | ((with_reducible refine Below.setCell ?_ ?_ _); rotate_left; focus (first | (simp; done) | omega | (simp; omega))) | ((with_reducible refine Below.alloc ?_ ?_ _); rotate_left; focus (first | exact Nat.le_refl _ | omega | (simp; done) | (simp; omega))))))⟩
        · cases e3 : decide ((L k).n < (L k).m)
          · cases e4 : inB (L k).v 1 1000000
            · go_wp2_with fail
              go_quiet ((first | (go_at_call 74; exact quietN (sMonthOk _ _)) | (go_at_call 59; exact quietN (l01In_any _ _ _ _))))
              go_wp2_with fail
              go_ret
              exact ⟨ret_bool (seOk_no hlt (by simp [poGood, e1, e2, e3, e4])).symm, (by (repeat (first | (with_reducible exact Below.refl _ _) | (with_reducible assumption) | (with_reducible refine Below.drew ?_) | (with_reducible refine below_drewN ?_ _) | ((with_reducible refine Below.setCell ?_ ?_ _); rotate_left; focus (first | (simp; done) | omega | (simp; omega))) | ((with_reducible refine Below.alloc ?_ ?_ _); rotate_left; focus (first | exact Nat.le_refl _ | omega | (simp; done) | (simp; omega))))))⟩
            · skip
              cases k with
              | zero =>
                simp only [Nat.zero_mul, Nat.add_zero] at h0 h1 h2
                go_wp2_with fail
                go_quiet ((first | (go_at_call 74; exact quietN (sMonthOk _ _)) | (go_at_call 59; exact quietN (l01In_any _ _ _ _))))
                go_wp2_with fail
                go_roundw
                case rel => exact ⟨0 + 1, by omega, by go_num, (by have h := hall.out; exact Lib.hid (by rw [allUp, h]; simp [poGood, e1, e2, e3, e4])), by simp [go_sem, *], by simp; omega, (by (repeat (first | (with_reducible exact Below.refl _ _) | (with_reducible assumption) | (with_reducible refine Below.drew ?_) | (with_reducible refine below_drewN ?_ _) | ((with_reducible refine Below.setCell ?_ ?_ _); rotate_left; focus (first | (simp; done) | omega | (simp; omega))) | ((with_reducible refine Below.alloc ?_ ?_ _); rotate_left; focus (first | exact Nat.le_refl _ | omega | (simp; done) | (simp; omega))))))⟩
                case measure => simp [intOf]; omega
              | succ m =>
                obtain ⟨b', off', he', -, g0, g1, g2⟩ := hhk m (by omega)
                clear hhk
                obtain ⟨rfl, rfl⟩ : b = b' ∧ off = off' := by injection he' with e; injection e with e1 e2 e3; exact ⟨e1, e2⟩
                clear he' g0 g2
                have hw2 : IntKind.i64.wrap (m : Int) = m := IntWalk.i64_in _ ⟨by omega, by omega⟩
                have hw1 : IntKind.i64.wrap ((m : Int) + 1 - 1) = m := by rw [Int.add_sub_cancel]; exact hw2
                cases e5 : decide ((L (m + 1)).n < (L m).n)
                · go_wp2_with fail
                  go_quiet ((first | (go_at_call 74; exact quietN (sMonthOk _ _)) | (go_at_call 59; exact quietN (l01In_any _ _ _ _))))
                  go_wp2_with fail
                  go_roundw
                  case rel => exact ⟨m + 1 + 1, by omega, by go_num, (by have h := hall.out; exact Lib.hid (by rw [allUp, h]; simp [poGood, e1, e2, e3, e4, e5])), by simp [go_sem, *], by simp; omega, (by (repeat (first | (with_reducible exact Below.refl _ _) | (with_reducible assumption) | (with_reducible refine Below.drew ?_) | (with_reducible refine below_drewN ?_ _) | ((with_reducible refine Below.setCell ?_ ?_ _); rotate_left; focus (first | (simp; done) | omega | (simp; omega))) | ((with_reducible refine Below.alloc ?_ ?_ _); rotate_left; focus (first | exact Nat.le_refl _ | omega | (simp; done) | (simp; omega))))))⟩
                  case measure => simp [intOf]; omega
                · go_wp2_with fail
                  go_quiet ((first | (go_at_call 74; exact quietN (sMonthOk _ _)) | (go_at_call 59; exact quietN (l01In_any _ _ _ _))))
                  go_wp2_with fail
                  go_ret
                  exact ⟨ret_bool (seOk_no hlt (by simp [poGood, e1, e2, e3, e4, e5])).symm, (by (repeat (first | (with_reducible exact Below.refl _ _) | (with_reducible assumption) | (with_reducible refine Below.drew ?_) | (with_reducible refine below_drewN ?_ _) | ((with_reducible refine Below.setCell ?_ ?_ _); rotate_left; focus (first | (simp; done) | omega | (simp; omega))) | ((with_reducible refine Below.alloc ?_ ?_ _); rotate_left; focus (first | exact Nat.le_refl _ | omega | (simp; done) | (simp; omega))))))⟩
          · go_wp2_with fail
            go_quiet ((first | (go_at_call 74; exact quietN (sMonthOk _ _)) | (go_at_call 59; exact quietN (l01In_any _ _ _ _))))
            go_wp2_with fail
            go_ret
            exact ⟨ret_bool (seOk_no hlt (by simp [poGood, e1, e2, e3])).symm, (by (repeat (first | (with_reducible exact Below.refl _ _) | (with_reducible assumption) | (with_reducible refine Below.drew ?_) | (with_reducible refine below_drewN ?_ _) | ((with_reducible refine Below.setCell ?_ ?_ _); rotate_left; focus (first | (simp; done) | omega | (simp; omega))) | ((with_reducible refine Below.alloc ?_ ?_ _); rotate_left; focus (first | exact Nat.le_refl _ | omega | (simp; done) | (simp; omega))))))⟩
    · obtain rfl : k = n := by omega
      have ha := hall.out
      have hv : seOk k L = decide ((k : Int) ≤ 200) := by rw [seOk, ha, Bool.true_and]; apply decide_eq_decide.2; omega
      go_wp2_with fail
      go_ret
      exact ⟨ret_bool hv.symm, hbr⟩
end Go.Proofs.Ytondmakaednpdaa
