/- Plain arithmetic of an account: balances and interest. No program in sight. -/
import Derived.Test.YtjiinkbjmamdmaaSettleL
import Derived.Test.YtjiinkbjmamdmaaNum
namespace Go.Proofs.Ytjiinkbjmamdmaa

def allIn (z : Nat → Int) (lo hi : Int) : Nat → Bool
  | 0 => true
  | k + 1 => allIn z lo hi k && inB (z k) lo hi
theorem allIn_at {z : Nat → Int} {lo hi : Int} : ∀ {n : Nat}, allIn z lo hi n = true → ∀ i, i < n → lo ≤ z i ∧ z i ≤ hi
  | 0, _, i, hi => by omega
  | n + 1, h, i, hi => by
    simp only [allIn, Bool.and_eq_true] at h
    by_cases e : i = n
    · subst e; exact inB_iff.1 h.2
    · exact allIn_at h.1 i (by omega)
theorem allIn_mk {z : Nat → Int} {lo hi : Int} : ∀ {n : Nat}, (∀ i, i < n → inB (z i) lo hi = true) → allIn z lo hi n = true
  | 0, _ => rfl
  | n + 1, h => by
    simp only [allIn, Bool.and_eq_true]
    exact ⟨allIn_mk fun i hi => h i (by omega), h n (by omega)⟩
theorem allIn_no {z : Nat → Int} {lo hi : Int} {n i : Nat} (h : i < n) (hz : inB (z i) lo hi = false) : allIn z lo hi n = false := by
  cases e : allIn z lo hi n with
  | false => rfl
  | true => have := inB_iff.2 (allIn_at e i h); rw [hz] at this; cases this

/-- The place of the first number with P from k on, -1 where none has it. -/
def idxFrom (P : Int → Bool) (z : Nat → Int) : Nat → Nat → Int
  | 0, _ => -1
  | f + 1, k => if P (z k) = true then (k : Int) else idxFrom P z f (k + 1)
theorem idx_hit {P : Int → Bool} {z : Nat → Int} {n k : Nat} (hk : k < n) (hP : P (z k) = true) : idxFrom P z (n - k) k = (k : Int) := by
  rw [show n - k = (n - (k + 1)) + 1 from by omega, idxFrom, if_pos hP]
theorem idx_miss {P : Int → Bool} {z : Nat → Int} {n k : Nat} (hk : k < n) (hP : P (z k) = false) : idxFrom P z (n - k) k = idxFrom P z (n - (k + 1)) (k + 1) := by
  rw [show n - k = (n - (k + 1)) + 1 from by omega, idxFrom, if_neg (by simp [hP])]
theorem idxFrom_neg {P : Int → Bool} {z : Nat → Int} : ∀ (f k : Nat), (∀ i, k ≤ i → i < k + f → P (z i) = false) → idxFrom P z f k = -1
  | 0, _, _ => rfl
  | f + 1, k, h => by
    rw [idxFrom, if_neg (by rw [h k (Nat.le_refl _) (by omega)]; simp)]
    exact idxFrom_neg f (k + 1) fun i h1 h2 => h i (by omega) (by omega)
theorem idxFrom_pos {P : Int → Bool} {z : Nat → Int} : ∀ (f k i : Nat), k ≤ i → i < k + f → P (z i) = true → 0 ≤ idxFrom P z f k
  | 0, k, i, h1, h2, _ => by omega
  | f + 1, k, i, h1, h2, h3 => by
    rw [idxFrom]
    split
    · omega
    · rename_i hk
      refine idxFrom_pos f (k + 1) i ?_ (by omega) h3
      rcases Nat.lt_or_ge k i with h | h
      · omega
      · obtain rfl : i = k := by omega
        exact absurd h3 hk
theorem idxFrom_bd {P : Int → Bool} {z : Nat → Int} : ∀ (f k : Nat), -1 ≤ idxFrom P z f k ∧ idxFrom P z f k < k + f ∨ idxFrom P z f k = -1
  | 0, _ => .inr rfl
  | f + 1, k => by
    rw [idxFrom]
    split
    · left; omega
    · rcases idxFrom_bd (P := P) (z := z) f (k + 1) with h | h
      · left; omega
      · right; exact h
/-- Ahead of the first place no number has P. -/
theorem idxFrom_before {P : Int → Bool} {z : Nat → Int} : ∀ (f k i : Nat), k ≤ i → i < k + f → (i : Int) < idxFrom P z f k → P (z i) = false
  | 0, k, i, h1, h2, _ => by omega
  | f + 1, k, i, h1, h2, h3 => by
    rw [idxFrom] at h3
    split at h3
    · omega
    · rename_i hk
      rcases Nat.lt_or_ge k i with h | h
      · exact idxFrom_before f (k + 1) i h (by omega) h3
      · obtain rfl : i = k := by omega
        simpa using hk

def accStep (rate due paid : Int) (s : Int × Int) : Int × Int :=
  if 0 < s.1 then (s.1 + s.1 * rate / 12000 + (due - paid), s.2 + s.1 * rate / 12000) else (s.1 + (due - paid), s.2)
/-- The balance and the sum of the interest after k months. -/
def accAt (rate : Int) (d p : Nat → Int) : Nat → Int × Int
  | 0 => (0, 0)
  | k + 1 => accStep rate (d k) (p k) (accAt rate d p k)
def accOuts (rate : Int) (d p : Nat → Int) (k : Nat) : List Int := (List.range k).map fun i => (accAt rate d p (i + 1)).1
theorem accOuts_len (rate : Int) (d p : Nat → Int) (k : Nat) : (accOuts rate d p k).length = k := by simp [accOuts]
theorem accOuts_succ (rate : Int) (d p : Nat → Int) (k : Nat) : accOuts rate d p (k + 1) = accOuts rate d p k ++ [(accAt rate d p (k + 1)).1] := by simp [accOuts, List.range_succ]

def capA : Nat → Int
  | 0 => 0
  | k + 1 => capA k + capA k * 500 / 12000 + 10000000
theorem capA_pos : ∀ k, 0 ≤ capA k
  | 0 => by decide
  | k + 1 => by have := capA_pos k; simp only [capA]; omega
theorem capA_mono (k : Nat) : ∀ d, capA k ≤ capA (k + d)
  | 0 => Int.le_refl _
  | d + 1 => by have := capA_mono k d; have := capA_pos (k + d); rw [← Nat.add_assoc]; simp only [capA]; omega
theorem capA_300 : capA 300 ≤ 60000000000000 := by decide +kernel
theorem capA_le (k : Nat) (h : k ≤ 300) : capA k ≤ 60000000000000 := by
  have h1 := capA_mono k (300 - k)
  rw [show k + (300 - k) = 300 from by omega] at h1
  have := capA_300
  omega
theorem accAt_bd {rate : Int} {d p : Nat → Int} {n : Nat} (h0 : 0 ≤ rate) (h1 : rate ≤ 500) (hd : ∀ i, i < n → 0 ≤ d i ∧ d i ≤ 10000000) (hp : ∀ i, i < n → 0 ≤ p i ∧ p i ≤ 10000000) (hn : n ≤ 300) :
    ∀ k : Nat, k ≤ n → (accAt rate d p k).1 ≤ capA k ∧ -10000000 * (k : Int) ≤ (accAt rate d p k).1 ∧ 0 ≤ (accAt rate d p k).2 ∧ (accAt rate d p k).2 ≤ 3000000000000 * (k : Int)
  | 0, _ => by simp [accAt, capA]
  | k + 1, hk => by
    have ih := accAt_bd h0 h1 hd hp hn k (by omega)
    have hdk := hd k (by omega)
    have hpk := hp k (by omega)
    have cp := capA_pos k
    have cl := capA_le k (by omega)
    simp only [accAt, accStep, capA]
    generalize accAt rate d p k = s at *
    obtain ⟨b, t⟩ := s
    dsimp only at ih ⊢
    by_cases hb : 0 < b
    · have := mulDiv_le hb ih.1 h0 h1
      rw [if_pos hb]
      dsimp only
      omega
    · rw [if_neg hb]
      dsimp only
      omega

def askB (n n' : Nat) (d p : Nat → Int) (rate : Int) : Bool := n == n' && decide (n ≤ 300) && (allIn d 0 10000000 n && allIn p 0 10000000 n' && inB rate 0 500)
theorem askB_yes {n n' : Nat} {d p : Nat → Int} {rate : Int} (h : askB n n' d p rate = true) :
    n = n' ∧ n ≤ 300 ∧ (∀ i, i < n → 0 ≤ d i ∧ d i ≤ 10000000) ∧ (∀ i, i < n → 0 ≤ p i ∧ p i ≤ 10000000) ∧ 0 ≤ rate ∧ rate ≤ 500 := by
  simp only [askB, Bool.and_eq_true, beq_iff_eq, decide_eq_true_eq] at h
  obtain ⟨⟨rfl, h2⟩, ⟨h3, h4⟩, h5⟩ := h
  exact ⟨rfl, h2, allIn_at h3, allIn_at h4, inB_iff.1 h5⟩
/-- What an account gives: the balances and the interest. -/
def accList (n n' : Nat) (d p : Nat → Int) (rate : Int) : List Int := if askB n n' d p rate = true then accOuts rate d p n else []
def accSum (n n' : Nat) (d p : Nat → Int) (rate : Int) : Int := if askB n n' d p rate = true then (accAt rate d p n).2 else 0
end Go.Proofs.Ytjiinkbjmamdmaa
