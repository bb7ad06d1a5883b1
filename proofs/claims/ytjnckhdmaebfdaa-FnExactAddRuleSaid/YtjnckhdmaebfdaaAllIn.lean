/- All numbers of a slice lie between two bounds. Conditions: the numbers can be read. -/
import Derived.Test.YtjnckhdmaebfdaaIntS
import Derived.Lib.Hide
namespace Go.Proofs.Ytjnckhdmaebfdaa
open Go.RowKit

def allIn (z : Nat → Int) (lo hi : Int) : Nat → Bool
  | 0 => true
  | k + 1 => allIn z lo hi k && inB (z k) lo hi
theorem allIn_at {z : Nat → Int} {lo hi : Int} : ∀ {n : Nat}, allIn z lo hi n = true → ∀ i, i < n → lo ≤ z i ∧ z i ≤ hi
  | 0, _, i, hi => by omega
  | n + 1, h, i, hi => by
    simp only [allIn, Bool.and_eq_true] at h
    by_cases e : i = n
    · subst e; exact inB_iff.1 h.2
    · exact allIn_at h.1 i (by omega)
theorem allIn_mk {z : Nat → Int} {lo hi : Int} : ∀ {n : Nat}, (∀ i, i < n → inB (z i) lo hi = true) → allIn z lo hi n = true
  | 0, _ => rfl
  | n + 1, h => by
    simp only [allIn, Bool.and_eq_true]
    exact ⟨allIn_mk fun i hi => h i (by omega), h n (by omega)⟩
theorem allIn_no {z : Nat → Int} {lo hi : Int} {n i : Nat} (h : i < n) (hz : inB (z i) lo hi = false) : allIn z lo hi n = false := by
  cases e : allIn z lo hi n with
  | false => rfl
  | true => have := inB_iff.2 (allIn_at e i h); rw [hz] at this; cases this

/-- The place of the first number with P from k on, -1 where none has it. -/
def idxFrom (P : Int → Bool) (z : Nat → Int) : Nat → Nat → Int
  | 0, _ => -1
  | f + 1, k => if P (z k) = true then (k : Int) else idxFrom P z f (k + 1)
theorem idx_hit {P : Int → Bool} {z : Nat → Int} {n k : Nat} (hk : k < n) (hP : P (z k) = true) : idxFrom P z (n - k) k = (k : Int) := by
  rw [show n - k = (n - (k + 1)) + 1 from by omega, idxFrom, if_pos hP]
theorem idx_miss {P : Int → Bool} {z : Nat → Int} {n k : Nat} (hk : k < n) (hP : P (z k) = false) : idxFrom P z (n - k) k = idxFrom P z (n - (k + 1)) (k + 1) := by
  rw [show n - k = (n - (k + 1)) + 1 from by omega, idxFrom, if_neg (by simp [hP])]
theorem idxFrom_neg {P : Int → Bool} {z : Nat → Int} : ∀ (f k : Nat), (∀ i, k ≤ i → i < k + f → P (z i) = false) → idxFrom P z f k = -1
  | 0, _, _ => rfl
  | f + 1, k, h => by
    rw [idxFrom, if_neg (by rw [h k (Nat.le_refl _) (by omega)]; simp)]
    exact idxFrom_neg f (k + 1) fun i h1 h2 => h i (by omega) (by omega)
theorem idxFrom_pos {P : Int → Bool} {z : Nat → Int} : ∀ (f k i : Nat), k ≤ i → i < k + f → P (z i) = true → 0 ≤ idxFrom P z f k
  | 0, k, i, h1, h2, _ => by omega
  | f + 1, k, i, h1, h2, h3 => by
    rw [idxFrom]
    split
    · omega
    · rename_i hk
      refine idxFrom_pos f (k + 1) i ?_ (by omega) h3
      rcases Nat.lt_or_ge k i with h | h
      · omega
      · obtain rfl : i = k := by omega
        exact absurd h3 hk
theorem idxFrom_bd {P : Int → Bool} {z : Nat → Int} : ∀ (f k : Nat), -1 ≤ idxFrom P z f k ∧ idxFrom P z f k < k + f ∨ idxFrom P z f k = -1
  | 0, _ => .inr rfl
  | f + 1, k => by
    rw [idxFrom]
    split
    · left; omega
    · rcases idxFrom_bd (P := P) (z := z) f (k + 1) with h | h
      · left; omega
      · right; exact h
/-- Ahead of the first place no number has P. -/
theorem idxFrom_before {P : Int → Bool} {z : Nat → Int} : ∀ (f k i : Nat), k ≤ i → i < k + f → (i : Int) < idxFrom P z f k → P (z i) = false
  | 0, k, i, h1, h2, _ => by omega
  | f + 1, k, i, h1, h2, h3 => by
    rw [idxFrom] at h3
    split at h3
    · omega
    · rename_i hk
      rcases Nat.lt_or_ge k i with h | h
      · exact idxFrom_before f (k + 1) i h (by omega) h3
      · obtain rfl : i = k := by omega
        simpa using hk

end Go.Proofs.Ytjnckhdmaebfdaa
