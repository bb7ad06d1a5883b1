/- All numbers of a slice lie between two bounds. Conditions: the numbers can be read. -/
import Derived.Test.YtmbmpogdakoloaaIntS
import Derived.Lib.Hide
namespace Go.Proofs.Ytmbmpogdakoloaa
open Go.RowKit

def allIn (z : Nat → Int) (lo hi : Int) : Nat → Bool
  | 0 => true
  | k + 1 => allIn z lo hi k && inB (z k) lo hi
theorem allIn_at {z : Nat → Int} {lo hi : Int} : ∀ {n : Nat}, allIn z lo hi n = true → ∀ i, i < n → lo ≤ z i ∧ z i ≤ hi
  | 0, _, i, hi => by omega
  | n + 1, h, i, hi => by
    simp only [allIn, Bool.and_eq_true] at h
    by_cases e : i = n
    · subst e; exact inB_iff.1 h.2
    · exact allIn_at h.1 i (by omega)
theorem allIn_mk {z : Nat → Int} {lo hi : Int} : ∀ {n : Nat}, (∀ i, i < n → inB (z i) lo hi = true) → allIn z lo hi n = true
  | 0, _ => rfl
  | n + 1, h => by
    simp only [allIn, Bool.and_eq_true]
    exact ⟨allIn_mk fun i hi => h i (by omega), h n (by omega)⟩
theorem allIn_no {z : Nat → Int} {lo hi : Int} {n i : Nat} (h : i < n) (hz : inB (z i) lo hi = false) : allIn z lo hi n = false := by
  cases e : allIn z lo hi n with
  | false => rfl
  | true => have := inB_iff.2 (allIn_at e i h); rw [hz] at this; cases this

/-- The place of the first number with P from k on, -1 where none has it. -/
def idxFrom (P : Int → Bool) (z : Nat → Int) : Nat → Nat → Int
  | 0, _ => -1
  | f + 1, k => if P (z k) = true then (k : Int) else idxFrom P z f (k + 1)
theorem idx_hit {P : Int → Bool} {z : Nat → Int} {n k : Nat} (hk : k < n) (hP : P (z k) = true) : idxFrom P z (n - k) k = (k : Int) := by
  rw [show n - k = (n - (k + 1)) + 1 from by omega, idxFrom, if_pos hP]
theorem idx_miss {P : Int → Bool} {z : Nat → Int} {n k : Nat} (hk : k < n) (hP : P (z k) = false) : idxFrom P z (n - k) k = idxFrom P z (n - (k + 1)) (k + 1) := by
  rw [show n - k = (n - (k + 1)) + 1 from by omega, idxFrom, if_neg (by simp [hP])]
theorem idxFrom_neg {P : Int → Bool} {z : Nat → Int} : ∀ (f k : Nat), (∀ i, k ≤ i → i < k + f → P (z i) = false) → idxFrom P z f k = -1
  | 0, _, _ => rfl
  | f + 1, k, h => by
    rw [idxFrom, if_neg (by rw [h k (Nat.le_refl _) (by omega)]; simp)]
    exact idxFrom_neg f (k + 1) fun i h1 h2 => h i (by omega) (by omega)
theorem idxFrom_pos {P : Int → Bool} {z : Nat → Int} : ∀ (f k i : Nat), k ≤ i → i < k + f → P (z i) = true → 0 ≤ idxFrom P z f k
  | 0, k, i, h1, h2, _ => by omega
  | f + 1, k, i, h1, h2, h3 => by
    rw [idxFrom]
    split
    · omega
    · rename_i hk
      refine idxFrom_pos f (k + 1) i ?_ (by omega) h3
      rcases Nat.lt_or_ge k i with h | h
      · omega
      · obtain rfl : i = k := by omega
        exact absurd h3 hk
theorem idxFrom_bd {P : Int → Bool} {z : Nat → Int} : ∀ (f k : Nat), -1 ≤ idxFrom P z f k ∧ idxFrom P z f k < k + f ∨ idxFrom P z f k = -1
  | 0, _ => .inr rfl
  | f + 1, k => by
    rw [idxFrom]
    split
    · left; omega
    · rcases idxFrom_bd (P := P) (z := z) f (k + 1) with h | h
      · left; omega
      · right; exact h
/-- Ahead of the first place no number has P. -/
theorem idxFrom_before {P : Int → Bool} {z : Nat → Int} : ∀ (f k i : Nat), k ≤ i → i < k + f → (i : Int) < idxFrom P z f k → P (z i) = false
  | 0, k, i, h1, h2, _ => by omega
  | f + 1, k, i, h1, h2, h3 => by
    rw [idxFrom] at h3
    split at h3
    · omega
    · rename_i hk
      rcases Nat.lt_or_ge k i with h | h
      · exact idxFrom_before f (k + 1) i h (by omega) h3
      · obtain rfl : i = k := by omega
        simpa using hk

set_option maxHeartbeats 400000 in
theorem notWithin (x lo hi : Int) (p q : Nat) (w : World) (hp : w.cell? ⟨p, 0, none⟩ = some (.int .i64 lo)) (hq : w.cell? ⟨q, 0, none⟩ = some (.int .i64 hi)) :
    Calls Try.prog 64 #[.int .i64 x, .pointer (some ⟨p, 0, none⟩), .pointer (some ⟨q, 0, none⟩)] w fun e w' => e = .returned (.bool (!inB x lo hi)) ∧ w = w' := by
  go_enter Try.func64, Try.ntmps64
  go_wp2_with fail
  refine (within_any _ _ _ _).mono ?_
  rintro e w' ⟨rfl, rfl⟩
  go_wp2_with fail
  go_ret
  exact ⟨rfl, rfl⟩

set_option maxHeartbeats 800000 in
theorem idxWithin (w : World) (B : Nat) (A : Option Addr) (n c : Nat) (z : Nat → Int) (h : RdI w B A n z) (lo hi : Int) (p q : Nat) (hp : w.cell? ⟨p, 0, none⟩ = some (.int .i64 lo)) (hq : w.cell? ⟨q, 0, none⟩ = some (.int .i64 hi)) :
    Calls Try.prog 69 #[.slice A n c, .func (.func 64) #[] #[.pointer (some ⟨p, 0, none⟩), .pointer (some ⟨q, 0, none⟩)]] w fun e w' => e = .returned (.int .i64 (idxFrom (fun x => !inB x lo hi) z n 0)) ∧ w = w' := by
  have hn := h.1
  obtain ⟨R, hR⟩ : ∃ R, R = idxFrom (fun x => !inB x lo hi) z n 0 := ⟨_, rfl⟩
  rw [← hR]
  have HR := Lib.hid hR.symm
  clear hR
  go_enter Try.func69, Try.ntmps69
  go_wp2_with fail
  go_loop [8] (fun i => ∃ k : Nat, k ≤ n ∧ i = .int .i64 k ∧ Hid (idxFrom (fun x => !inB x lo hi) z (n - k) k = R)) (fun i => n - (intOf i).toNat)
  case atStart => exact ⟨0, Nat.zero_le _, rfl, HR⟩
  case round =>
    obtain ⟨k, hk, rfl, HK⟩ := hrel
    clear HR
    by_cases hlt : k < n
    · obtain ⟨b, off, rfl, hbB, hcell⟩ := h.2 k hlt
      go_wp2_with fail
      refine (notWithin _ lo hi p q _ hp hq).mono ?_
      rintro e w' ⟨rfl, rfl⟩
      cases hP : (fun x => !inB x lo hi) (z k)
      · have HN := Lib.hid ((idx_miss (P := (fun x => !inB x lo hi)) hlt hP).symm.trans HK.out)
        simp only [hP]
        dsimp only at hP
        go_wp2_with fail
        go_round
        case rel => exact ⟨k + 1, by omega, by go_num, HN⟩
        case measure => simp [intOf]; omega
      · have HN := Lib.hid ((idx_hit (P := (fun x => !inB x lo hi)) hlt hP).symm.trans HK.out)
        simp only [hP]
        dsimp only at hP
        go_wp2_with fail
        go_ret
        exact ⟨ret_int HN.out, rfl⟩
    · obtain rfl : k = n := by omega
      have HN := Lib.hid (show (-1 : Int) = R by rw [← HK.out, Nat.sub_self]; rfl)
      go_wp2_with fail
      go_ret
      exact ⟨ret_int HN.out, rfl⟩

set_option maxHeartbeats 800000 in
theorem conWithin (w : World) (B : Nat) (A : Option Addr) (n c : Nat) (z : Nat → Int) (h : RdI w B A n z) (lo hi : Int) (p q : Nat) (hp : w.cell? ⟨p, 0, none⟩ = some (.int .i64 lo)) (hq : w.cell? ⟨q, 0, none⟩ = some (.int .i64 hi)) :
    Calls Try.prog 63 #[.slice A n c, .func (.func 64) #[] #[.pointer (some ⟨p, 0, none⟩), .pointer (some ⟨q, 0, none⟩)]] w fun e w' => e = .returned (.bool (!allIn z lo hi n)) ∧ w = w' := by
  have e : (!allIn z lo hi n) = decide (0 ≤ idxFrom (fun x => !inB x lo hi) z n 0) := by
    cases ha : allIn z lo hi n
    · have : ∃ i, i < n ∧ inB (z i) lo hi = false := by
        refine Classical.byContradiction fun hno => ?_
        have := allIn_mk (z := z) (lo := lo) (hi := hi) (n := n) fun i hi' => by
          cases hb : inB (z i) lo hi with
          | true => rfl
          | false => exact absurd ⟨i, hi', hb⟩ hno
        rw [ha] at this
        cases this
      obtain ⟨i, hi1, hi2⟩ := this
      have := idxFrom_pos (P := (fun x => !inB x lo hi)) (z := z) n 0 i (Nat.zero_le _) (by omega) (by simp [hi2])
      simp [this]
    · have := idxFrom_neg (P := (fun x => !inB x lo hi)) (z := z) n 0 fun i _ hi2 => by simp [inB_iff.2 (allIn_at ha i (by omega))]
      rw [this]
      rfl
  rw [e]
  have E := Lib.hid e
  clear e
  go_enter Try.func63, Try.ntmps63
  go_wp2_with fail
  refine (idxWithin w B A n c z h lo hi p q hp hq).mono ?_
  rintro e w' ⟨rfl, rfl⟩
  go_wp2_with fail
  go_ret
  exact ⟨rfl, rfl⟩

set_option maxHeartbeats 800000 in
theorem iAllWithin (w : World) (A : Option Addr) (n c : Nat) (z : Nat → Int) (h : RdI w w.heap.size A n z) (lo hi : Int) :
    Calls Try.prog 50 #[.slice A n c, .int .i64 lo, .int .i64 hi] w fun e w' => e = .returned (.bool (allIn z lo hi n)) ∧ Below w.heap.size w w' := by
  have hb : Below w.heap.size w ((w.alloc (.cells #[.int .i64 lo] 3)).alloc (.cells #[.int .i64 hi] 3)) := by (repeat (first | (with_reducible exact Below.refl _ _) | (with_reducible assumption) | (with_reducible refine Below.drew ?_) | (with_reducible refine below_drewN ?_ _) | ((with_reducible refine Below.setCell ?_ ?_ _); rotate_left; focus (first | (simp; done) | omega | (simp; omega))) | ((with_reducible refine Below.alloc ?_ ?_ _); rotate_left; focus (first | exact Nat.le_refl _ | omega | (simp; done) | (simp; omega)))))
  have h2 := h.below hb
  go_enter Try.func50, Try.ntmps50
  go_wp2_with fail
  refine (conWithin _ w.heap.size A n c z h2 lo hi w.heap.size (w.heap.size + 1) (by simp [go_sem]) (by simp [go_sem])).mono ?_
  rintro e w' ⟨rfl, rfl⟩
  go_wp2_with fail
  go_ret
  exact ⟨ret_bool (by simp), hb⟩
end Go.Proofs.Ytmbmpogdakoloaa
