/- The least and the greatest pay of twelve months, the average and the best average: plain facts. No program in sight. -/
import Derived.Test.YtondmakaednpdaaAverL
import Derived.Test.YtondmakaednpdaaBestP
namespace Go.Proofs.Ytondmakaednpdaa
open Go.RowKit

/-- The least pay of the first k months from month 24 on. -/
def lowF (n : Nat) (L : Nat → Fa) : Nat → Int
  | 0 => 1000000000
  | k + 1 => min (lowF n L k) ((valFrom L 1 (24 + (k : Int)) 99 n).getD 0)
def highF (n : Nat) (L : Nat → Fa) : Nat → Int
  | 0 => 0
  | k + 1 => max (highF n L k) ((valFrom L 1 (24 + (k : Int)) 99 n).getD 0)
theorem lowF_succ (n : Nat) (L : Nat → Fa) (k : Nat) : lowF n L (k + 1) = min (lowF n L k) ((valFrom L 1 (24 + (k : Int)) 99 n).getD 0) := rfl
theorem highF_succ (n : Nat) (L : Nat → Fa) (k : Nat) : highF n L (k + 1) = max (highF n L k) ((valFrom L 1 (24 + (k : Int)) 99 n).getD 0) := rfl
theorem payS.mid {n : Nat} {L : Nat → Fa} (h : payS n L) {m : Int} (h0 : 0 ≤ m) (h1 : m < 60) : 100000 ≤ (valFrom L 1 m 99 n).getD 0 ∧ (valFrom L 1 m 99 n).getD 0 ≤ 199900 := by
  obtain ⟨v, hv, a, b⟩ := h.val (m := m) (known := 99) h0 h1 (by omega)
  rw [hv]
  exact ⟨a, b⟩
theorem payS.low {n : Nat} {L : Nat → Fa} (h : payS n L) : ∀ k : Nat, k ≤ 12 → 100000 ≤ lowF n L k ∧ lowF n L k ≤ 1000000000 ∧ (k : Int) * lowF n L k ≤ avS (payF L n 99) 24 k
  | 0, _ => by simp [lowF, avS]
  | k + 1, hk => by
    obtain ⟨a, b, c⟩ := h.low k (by omega)
    obtain ⟨d, e⟩ := h.mid (m := 24 + (k : Int)) (by omega) (by omega)
    rw [lowF_succ, avS, payF]
    generalize (valFrom L 1 (24 + (k : Int)) 99 n).getD 0 = v at *
    generalize lowF n L k = l at *
    have h1 : (k : Int) * min l v ≤ (k : Int) * l := Int.mul_le_mul_of_nonneg_left (by omega) (by omega)
    refine ⟨by omega, by omega, ?_⟩
    push_cast
    rw [Int.add_mul]
    omega
theorem payS.high {n : Nat} {L : Nat → Fa} (h : payS n L) : ∀ k : Nat, k ≤ 12 → 0 ≤ highF n L k ∧ (0 < k → 100000 ≤ highF n L k) ∧ highF n L k ≤ 199900 ∧ avS (payF L n 99) 24 k ≤ (k : Int) * highF n L k
  | 0, _ => by simp [highF, avS]
  | k + 1, hk => by
    obtain ⟨a, _, b, c⟩ := h.high k (by omega)
    obtain ⟨d, e⟩ := h.mid (m := 24 + (k : Int)) (by omega) (by omega)
    rw [highF_succ, avS, payF]
    generalize (valFrom L 1 (24 + (k : Int)) 99 n).getD 0 = v at *
    generalize highF n L k = l at *
    have h1 : (k : Int) * l ≤ (k : Int) * max l v := Int.mul_le_mul_of_nonneg_left (by omega) (by omega)
    refine ⟨by omega, by omega, by omega, ?_⟩
    push_cast
    rw [Int.add_mul]
    omega
theorem fracOk_one {z : Int} (h1 : -1000000000000 ≤ z) (h2 : z ≤ 1000000000000) : fracOkL (z, 1) = true :=
  fracOkL_iff.2 ⟨⟨by simp, by simp⟩, ⟨h1, h2⟩, by simp⟩
theorem cmpL_ge {a b : Fr} (ha : fracOkL a = true) (hb : fracOkL b = true) (h : b.1 * a.2 ≤ a.1 * b.2) : 0 ≤ cmpL a b := by
  rw [cmpL, if_pos (by rw [ha, hb]; rfl), if_neg (by omega)]
  split <;> omega
theorem cmpL_le {a b : Fr} (ha : fracOkL a = true) (hb : fracOkL b = true) (h : a.1 * b.2 ≤ b.1 * a.2) : cmpL a b ≤ 0 := by
  rw [cmpL, if_pos (by rw [ha, hb]; rfl)]
  split
  · omega
  · rw [if_neg (by omega)]; omega
/-- The average of twelve months: a valid fraction that stands for the sum over twelve. -/
theorem payS.avg12 {n : Nat} {L : Nat → Fa} (h : payS n L) {a : Int} (ha : 0 ≤ a) (ha2 : a ≤ 48) : ∃ x : Fr, avgL (payF L n 99) a (a + 12) = some x ∧ payAvgL n L a (a + 12) 99 = some x ∧ fracOkL x = true ∧ avS (payF L n 99) a 12 * x.2 = x.1 * 12 ∧ 1 ≤ x.2 := by
  have ht := h.tot ha 12 (by omega)
  obtain ⟨x, y, e, k, f, g, -, -⟩ := redL_parts (n := avS (payF L n 99) a 12) (d := 12) (by omega) (by omega) (by omega) (by omega)
  have e1 : avgL (payF L n 99) a (a + 12) = some (x, y) := by
    rw [avgL, show (a + 12 - a).toNat = 12 by omega, h.cnt ha 12 (by omega), if_neg (by omega)]
    exact e
  refine ⟨(x, y), e1, ?_, k, f, g⟩
  rw [payAvgL, if_pos (by rw [h.ok, show endB a = true from inB_t (by omega) (by omega), show endB (a + 12) = true from inB_t (by omega) (by omega)]; rfl)]
  exact e1
theorem payS.bests {n : Nat} {L : Nat → Fa} (h : payS n L) : ∀ k : Nat, k ≤ 24 → ∃ (b : Fr) (m : Int), bestF (payF L n 99) 0 12 (k + 1) = some (b, m) ∧ fracOkL b = true ∧ 0 ≤ m ∧ m ≤ (k : Int) ∧ ∀ x, avgL (payF L n 99) (k : Int) ((k : Int) + 12) = some x → 0 ≤ cmpL b x
  | 0, _ => by
    obtain ⟨x, e1, -, ok, -, -⟩ := h.avg12 (a := 0) (by omega) (by omega)
    have e2 : avgL (payF L n 99) (0 + ((0 : Nat) : Int)) (0 + ((0 : Nat) : Int) + 12) = some x := by simpa using e1
    refine ⟨x, 0, ?_, ok, by omega, by simp, fun y hy => ?_⟩
    · rw [bestF, e2]; rfl
    · rw [show avgL (payF L n 99) ((0 : Nat) : Int) (((0 : Nat) : Int) + 12) = some x by simpa using e1] at hy
      injection hy with hy
      subst hy
      exact cmpL_ge ok ok (by omega)
  | k + 1, hk => by
    obtain ⟨b, m, e, ok, h0, h1, -⟩ := h.bests k (by omega)
    obtain ⟨x, e1, -, okx, -, -⟩ := h.avg12 (a := ((k + 1 : Nat) : Int)) (by omega) (by omega)
    have e2 : avgL (payF L n 99) (0 + ((k + 1 : Nat) : Int)) (0 + ((k + 1 : Nat) : Int) + 12) = some x := by rw [Int.zero_add]; exact e1
    rw [bestF, e2, e]
    by_cases hc : 0 < cmpL x b
    · refine ⟨x, ((k + 1 : Nat) : Int), ?_, okx, by omega, by omega, fun y hy => ?_⟩
      · simp only [bestStep, if_pos hc, Int.zero_add]
      · rw [e1] at hy
        injection hy with hy
        subst hy
        exact cmpL_ge okx okx (by omega)
    · refine ⟨b, m, ?_, ok, h0, by push_cast; omega, fun y hy => ?_⟩
      · simp only [bestStep, if_neg hc]
      · rw [e1] at hy
        injection hy with hy
        subst hy
        refine cmpL_ge ok okx ?_
        rw [cmpL, if_pos (by rw [okx, ok]; rfl)] at hc
        split at hc
        · omega
        · split at hc <;> omega
/-- All that the law compares. -/
theorem pays_law {n : Nat} {L : Nat → Fa} (h : payS n L) : ∃ (x b : Fr) (m v : Int), payAvgL n L 24 36 99 = some x ∧ bestL n L 0 36 12 99 = some (b, m) ∧ finalL n L 36 99 = some v ∧ valFrom L 1 35 99 n = some v ∧ 0 ≤ cmpL x (lowF n L 12, 1) ∧ cmpL x (highF n L 12, 1) ≤ 0 ∧ 0 ≤ cmpL b x ∧ 0 ≤ m ∧ m ≤ 24 := by
  obtain ⟨x, e1, e2, okx, f, g⟩ := h.avg12 (a := 24) (by omega) (by omega)
  obtain ⟨b, m, e3, okb, h0, h1, hx⟩ := h.bests 24 (by omega)
  obtain ⟨v, hv, -⟩ := h.val (m := 35) (known := 99) (by omega) (by omega) (by omega)
  obtain ⟨l1, l2, l3⟩ := h.low 12 (by omega)
  obtain ⟨u0, u1, u2, u3⟩ := h.high 12 (by omega)
  refine ⟨x, b, m, v, e2, ?_, ?_, hv, ?_, ?_, hx x e1, h0, by omega⟩
  · rw [bestL, if_pos (by rw [h.ok]; decide)]
    exact e3
  · rw [h.final (by omega) (by omega) (by omega)]; exact hv
  · refine cmpL_ge okx (fracOk_one (by omega) (by omega)) ?_
    show lowF n L 12 * x.2 ≤ x.1 * 1
    have k1 : (12 : Int) * lowF n L 12 * x.2 ≤ avS (payF L n 99) 24 12 * x.2 := Int.mul_le_mul_of_nonneg_right l3 (by omega)
    rw [Int.mul_assoc] at k1
    omega
  · refine cmpL_le okx (fracOk_one (by omega) (by omega)) ?_
    show x.1 * 1 ≤ highF n L 12 * x.2
    have k1 : avS (payF L n 99) 24 12 * x.2 ≤ (12 : Int) * highF n L 12 * x.2 := Int.mul_le_mul_of_nonneg_right u3 (by omega)
    rw [Int.mul_assoc] at k1
    omega
end Go.Proofs.Ytondmakaednpdaa
