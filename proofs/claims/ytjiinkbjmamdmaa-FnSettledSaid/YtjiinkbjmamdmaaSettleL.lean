/- Plain arithmetic of a balance with interest and a fixed payment, and of a search by halves. -/
import Derived.Below
namespace Go.Proofs.Ytjiinkbjmamdmaa

def stepB (rate x b : Int) : Int := (if 0 < b then b + b * rate / 12000 else b) - x
def leftB (bal rate x : Int) : Nat → Int
  | 0 => bal
  | k + 1 => stepB rate x (leftB bal rate x k)
def capB : Nat → Int
  | 0 => 1000000
  | k + 1 => capB k + capB k * 500 / 12000

theorem capB_pos : ∀ k, 0 < capB k
  | 0 => by decide
  | k + 1 => by have := capB_pos k; simp only [capB]; omega
theorem capB_mono (k : Nat) : ∀ d, capB k ≤ capB (k + d)
  | 0 => Int.le_refl _
  | d + 1 => by have := capB_mono k d; have := capB_pos (k + d); rw [← Nat.add_assoc]; simp only [capB]; omega
theorem capB_120 : capB 120 ≤ 200000000 := by decide +kernel
theorem capB_le (k : Nat) (h : k ≤ 120) : capB k ≤ 200000000 := by
  have := capB_mono k (120 - k)
  rw [show k + (120 - k) = 120 from by omega] at this
  have := capB_120
  omega
theorem mulDiv_le {b c r : Int} (h0 : 0 < b) (h1 : b ≤ c) (h2 : 0 ≤ r) (h3 : r ≤ 500) : 0 ≤ b * r / 12000 ∧ b * r / 12000 ≤ c * 500 / 12000 := by
  have e1 : 0 ≤ b * r := Int.mul_nonneg (by omega) h2
  have e2 : b * r ≤ c * 500 := Int.mul_le_mul h1 h3 h2 (by omega)
  omega
theorem leftB_bd {bal rate x : Int} (h0 : 0 ≤ bal) (h1 : bal ≤ 1000000) (h2 : 0 ≤ rate) (h3 : rate ≤ 500) (h4 : 0 ≤ x) (h5 : x ≤ 2000000) :
    ∀ k : Nat, leftB bal rate x k ≤ capB k ∧ -2000000 * (k : Int) ≤ leftB bal rate x k
  | 0 => by simp only [leftB, capB]; omega
  | k + 1 => by
    have ih := leftB_bd h0 h1 h2 h3 h4 h5 k
    have cp := capB_pos k
    simp only [leftB, stepB, capB]
    by_cases hb : 0 < leftB bal rate x k
    · have := mulDiv_le hb ih.1 h2 h3
      rw [if_pos hb]
      omega
    · rw [if_neg hb]
      omega
/-- One step, with all that lies within the bounds. -/
theorem leftB_at {bal rate x : Int} (h0 : 0 ≤ bal) (h1 : bal ≤ 1000000) (h2 : 0 ≤ rate) (h3 : rate ≤ 500) (h4 : 0 ≤ x) (h5 : x ≤ 2000000) (k : Nat) (hk : k ≤ 120) :
    -240000000 ≤ leftB bal rate x k ∧ leftB bal rate x k ≤ 200000000 := by
  have := leftB_bd h0 h1 h2 h3 h4 h5 k
  have := capB_le k hk
  omega

/-- The search by halves between lo and hi, with fuel. -/
def bs (f : Int → Bool) : Nat → Int → Int → Int
  | 0, lo, _ => lo
  | n + 1, lo, hi => if lo < hi then (if f ((lo + hi) / 2) = true then bs f n lo ((lo + hi) / 2) else bs f n ((lo + hi) / 2 + 1) hi) else lo
theorem bs_fuel (f : Int → Bool) : ∀ (n m : Nat) (lo hi : Int), (hi - lo).toNat ≤ n → (hi - lo).toNat ≤ m → bs f n lo hi = bs f m lo hi
  | 0, 0, _, _, _, _ => rfl
  | 0, m + 1, lo, hi, h, _ => by simp only [bs]; rw [if_neg (by omega)]
  | n + 1, 0, lo, hi, _, h => by simp only [bs]; rw [if_neg (by omega)]
  | n + 1, m + 1, lo, hi, h, k => by
    simp only [bs]
    by_cases hl : lo < hi
    · rw [if_pos hl, if_pos hl, bs_fuel f n m lo _ (by omega) (by omega), bs_fuel f n m _ hi (by omega) (by omega)]
    · rw [if_neg hl, if_neg hl]
def bsr (f : Int → Bool) (lo hi : Int) : Int := bs f (hi - lo).toNat lo hi
theorem bsr_done (f : Int → Bool) {lo hi : Int} (h : ¬ lo < hi) : bsr f lo hi = lo := by
  unfold bsr
  rw [show (hi - lo).toNat = 0 from by omega]
  rfl
theorem bsr_yes (f : Int → Bool) {lo hi : Int} (h : lo < hi) (hf : f ((lo + hi) / 2) = true) : bsr f lo hi = bsr f lo ((lo + hi) / 2) := by
  unfold bsr
  rw [bs_fuel f (hi - lo).toNat ((hi - lo).toNat + 1) lo hi (by omega) (by omega)]
  simp only [bs]
  rw [if_pos h, if_pos hf]
  exact bs_fuel f _ _ _ _ (by omega) (by omega)
theorem bsr_no (f : Int → Bool) {lo hi : Int} (h : lo < hi) (hf : f ((lo + hi) / 2) = false) : bsr f lo hi = bsr f ((lo + hi) / 2 + 1) hi := by
  unfold bsr
  rw [bs_fuel f (hi - lo).toNat ((hi - lo).toNat + 1) lo hi (by omega) (by omega)]
  simp only [bs]
  rw [if_pos h, if_neg (by simp [hf])]
  exact bs_fuel f _ _ _ _ (by omega) (by omega)

/-- Whether a payment settles a balance. -/
def settlesB (bal rate : Int) (months : Nat) (x : Int) : Bool := decide (leftB bal rate x months ≤ 0)
def settleL (bal rate months : Int) : Int := if (0 ≤ bal ∧ bal ≤ 1000000) ∧ (0 ≤ rate ∧ rate ≤ 500) ∧ (1 ≤ months ∧ months ≤ 120) then bsr (settlesB bal rate months.toNat) 0 (2 * bal) else -1
end Go.Proofs.Ytjiinkbjmamdmaa
