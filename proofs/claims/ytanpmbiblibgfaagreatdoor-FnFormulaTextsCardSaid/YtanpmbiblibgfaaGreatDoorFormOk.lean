/- FormulaOk of the program and of the reference. Conditions: the nodes can be read. -/
import Derived.Test.YtanpmbiblibgfaaGreatDoorNodeT
namespace Go.Proofs.YtanpmbiblibgfaaGreatDoor
open Go.RowKit

def allUp (P : Nat → Bool) : Nat → Bool
  | 0 => true
  | k + 1 => allUp P k && P k
theorem allUp_at {P : Nat → Bool} : ∀ {n : Nat}, allUp P n = true → ∀ i, i < n → P i = true
  | 0, _, i, hi => by omega
  | n + 1, h, i, hi => by
    simp only [allUp, Bool.and_eq_true] at h
    by_cases e : i = n
    · subst e; exact h.2
    · exact allUp_at h.1 i (by omega)
theorem allUp_mk {P : Nat → Bool} : ∀ {n : Nat}, (∀ i, i < n → P i = true) → allUp P n = true
  | 0, _ => rfl
  | n + 1, h => by
    simp only [allUp, Bool.and_eq_true]
    exact ⟨allUp_mk fun i hi => h i (by omega), h n (by omega)⟩
theorem allUp_no {P : Nat → Bool} {n i : Nat} (h : i < n) (hz : P i = false) : allUp P n = false := by
  cases e : allUp P n with
  | false => rfl
  | true => have := allUp_at e i h; rw [hz] at this; cases this
def formB (n : Nat) (L : Nat → No) : Bool := allUp (fun i => nodeB (L i) (i : Int)) n && inB (n : Int) 1 30
theorem formB_no {n k : Nat} {L : Nat → No} (h : k < n) (hz : nodeB (L k) (k : Int) = false) : formB n L = false := by rw [formB, allUp_no (P := fun i => nodeB (L i) (i : Int)) h hz]; rfl
theorem formB_len {n : Nat} {L : Nat → No} (h : formB n L = true) : 1 ≤ n ∧ n ≤ 30 := by
  simp only [formB, Bool.and_eq_true, inB_iff] at h
  omega
theorem formB_at {n : Nat} {L : Nat → No} (h : formB n L = true) (i : Nat) (hi : i < n) : nodeB (L i) (i : Int) = true := by
  simp only [formB, Bool.and_eq_true] at h
  exact allUp_at (P := fun i => nodeB (L i) (i : Int)) h.1 i hi
theorem formB_congr {n : Nat} {L M : Nat → No} (h : ∀ i, i < n → L i = M i) : formB n L = formB n M := by
  have e : ∀ k, k ≤ n → allUp (fun i => nodeB (L i) (i : Int)) k = allUp (fun i => nodeB (M i) (i : Int)) k := by
    intro k
    induction k with
    | zero => intro _; rfl
    | succ k ih => intro hk; rw [allUp, allUp, ih (by omega), h k (by omega)]
  rw [formB, formB, e n (Nat.le_refl _)]

set_option maxRecDepth 4000 in
set_option maxHeartbeats 1600000 in
theorem iFormulaOk (w : World) (A : Option Addr) (n c : Nat) (L : Nat → No) (h : RdNo w w.heap.size A n L) (hn : n ≤ 1099511627776) :
    Calls Tryz.prog 15 #[.slice A n c] w fun e w' => e = .returned (.bool (formB n L)) ∧ Below w.heap.size w w' := by
  go_enter Tryz.func15, Tryz.ntmps15
  go_wp2_with fail
  go_loopw [7] (fun i wr => ∃ k : Nat, k ≤ n ∧ i = .int .i64 k ∧ Hid (allUp (fun i => nodeB (L i) (i : Int)) k = true) ∧ Below w.heap.size w wr) (fun i _ => n - (intOf i).toNat)
  case atStart => exact ⟨0, Nat.zero_le _, rfl, Lib.hid rfl, Below.refl _ _⟩
  case round =>
    obtain ⟨k, hk, rfl, hall, hbr⟩ := hrel
    have hs1 := hbr.size
    by_cases hlt : k < n
    · obtain ⟨b, off, rfl, hbB, h0, h1, h2, h3, h4, h5⟩ := (h.below hbr).2 k hlt
      have hlt2 : (k : Int) < n := by omega
      have hne : ¬ b = wr.heap.size := by omega
      clear h
      cases e1 : nodeB (L k) (k : Int)
      · have NK := fun v => iNodeOk (L k) (k : Int) (by omega) (by omega) v
        rw [e1] at NK
        have hbx : Below wr.heap.size wr (wr.alloc (.cells #[.int .i64 (L k).k, .int .i64 (L k).a, .int .i64 (L k).b, .int .i64 (L k).c, .int .i64 (L k).p, .int .i64 (L k).q] 46)) := (Below.refl _ _).alloc (Nat.le_refl _) _
        go_wp2_with fail
        refine (NK _).mono ?_
        rintro e w5 ⟨rfl, hb5⟩
        have hB5 := hbr.trans ((hbx.trans (hb5.mono (by simp))).mono hs1)
        clear hb5 hbx NK
        go_wp2_with fail
        go_ret
        exact ⟨ret_bool (formB_no hlt e1).symm, hB5⟩
      · have NK := fun v => iNodeOk (L k) (k : Int) (by omega) (by omega) v
        rw [e1] at NK
        have hbx : Below wr.heap.size wr (wr.alloc (.cells #[.int .i64 (L k).k, .int .i64 (L k).a, .int .i64 (L k).b, .int .i64 (L k).c, .int .i64 (L k).p, .int .i64 (L k).q] 46)) := (Below.refl _ _).alloc (Nat.le_refl _) _
        go_wp2_with fail
        refine (NK _).mono ?_
        rintro e w5 ⟨rfl, hb5⟩
        have hB5 := hbr.trans ((hbx.trans (hb5.mono (by simp))).mono hs1)
        clear hb5 hbx NK
        go_wp2_with fail
        go_roundw
        case rel => exact ⟨k + 1, by omega, by go_num, Lib.hid (by rw [allUp, hall.out, e1]; rfl), hB5⟩
        case measure => simp [intOf]; omega
    · obtain rfl : k = n := by omega
      have hv : formB k L = inB (k : Int) 1 30 := by rw [formB, hall.out]; rfl
      go_wp2_with (go_at_call 30; refine (within_any _ _ _ _).mono ?_; rintro e w' ⟨rfl, rfl⟩)
      go_ret
      exact ⟨ret_bool hv.symm, hbr⟩

set_option maxRecDepth 4000 in
set_option maxHeartbeats 1600000 in
theorem sFormulaOk (w : World) (A : Option Addr) (n c : Nat) (L : Nat → No) (h : RdNo w w.heap.size A n L) (hn : n ≤ 1099511627776) :
    Calls Tryz.prog 36 #[.slice A n c] w fun e w' => e = .returned (.bool (formB n L)) ∧ Below w.heap.size w w' := by
  go_enter Tryz.func36, Tryz.ntmps36
  go_wp2_with fail
  go_loopw [3] (fun i wr => ∃ k : Nat, k ≤ n ∧ i = .int .i64 k ∧ Hid (allUp (fun i => nodeB (L i) (i : Int)) k = true) ∧ Below w.heap.size w wr) (fun i _ => n - (intOf i).toNat)
  case atStart => exact ⟨0, Nat.zero_le _, rfl, Lib.hid rfl, Below.refl _ _⟩
  case round =>
    obtain ⟨k, hk, rfl, hall, hbr⟩ := hrel
    have hs1 := hbr.size
    by_cases hlt : k < n
    · obtain ⟨b, off, rfl, hbB, h0, h1, h2, h3, h4, h5⟩ := (h.below hbr).2 k hlt
      have hlt2 : (k : Int) < n := by omega
      have hne : ¬ b = wr.heap.size := by omega
      clear h
      cases e1 : nodeB (L k) (k : Int)
      · have NK := fun v => sNodeOk (L k) (k : Int) (by omega) (by omega) v
        rw [e1] at NK
        go_wp2_with fail
        refine (NK _).mono ?_
        rintro e w5 ⟨rfl, hb5⟩
        have hB5 := hbr.trans (hb5.mono hs1)
        clear hb5 NK
        go_wp2_with fail
        go_ret
        exact ⟨ret_bool (formB_no hlt e1).symm, hB5⟩
      · have NK := fun v => sNodeOk (L k) (k : Int) (by omega) (by omega) v
        rw [e1] at NK
        go_wp2_with fail
        refine (NK _).mono ?_
        rintro e w5 ⟨rfl, hb5⟩
        have hB5 := hbr.trans (hb5.mono hs1)
        clear hb5 NK
        go_wp2_with fail
        go_roundw
        case rel => exact ⟨k + 1, by omega, by go_num, Lib.hid (by rw [allUp, hall.out, e1]; rfl), hB5⟩
        case measure => simp [intOf]; omega
    · obtain rfl : k = n := by omega
      have hv : formB k L = inB (k : Int) 1 30 := by rw [formB, hall.out]; rfl
      go_wp2_with (go_at_call 40; refine (l01In_any _ _ _ _).mono ?_; rintro e w' ⟨rfl, rfl⟩)
      go_ret
      exact ⟨ret_bool hv.symm, hbr⟩
end Go.Proofs.YtanpmbiblibgfaaGreatDoor
