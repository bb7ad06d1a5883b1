/- The pay that a draw gives: plain facts. No program in sight. -/
import Derived.Test.YtondmakaednpdaaReval
namespace Go.Proofs.Ytondmakaednpdaa
open Go.RowKit

def upd {α : Type} (L : Nat → α) (n : Nat) (s : α) (i : Nat) : α := if i = n then s else L i
theorem upd_same {α : Type} (L : Nat → α) (n : Nat) (s : α) : upd L n s n = s := by rw [upd, if_pos rfl]
theorem upd_lt {α : Type} (L : Nat → α) {n i : Nat} (s : α) (h : i < n) : upd L n s i = L i := by rw [upd, if_neg (by omega)]
/-- A store that a draw gives: n facts of the pay; the first holds in the months 0 .. 59. -/
def payS (n : Nat) (L : Nat → Fa) : Prop :=
  1 ≤ n ∧ n ≤ 7 ∧ ((L 0).f = 0 ∧ (L 0).t = 60 ∧ (L 0).n = 0) ∧ (∀ i, i < n → (L i).k = 1 ∧ 0 ≤ (L i).f ∧ (L i).f < (L i).t ∧ (L i).t ≤ 60 ∧ 0 ≤ (L i).n ∧ (L i).n ≤ 50 ∧ 100000 ≤ (L i).v ∧ (L i).v ≤ 199900) ∧ ∀ i, i + 1 < n → (L i).n ≤ (L (i + 1)).n
def serS (n : Nat) (P : Nat → Po) : Prop :=
  1 ≤ n ∧ n ≤ 7 ∧ (∀ i, i < n → 0 ≤ (P i).m ∧ (P i).m = (P i).n ∧ (P i).n ≤ 50 ∧ 9000 ≤ (P i).v ∧ (P i).v ≤ 13000) ∧ ∀ i, i + 1 < n → (P i).n ≤ (P (i + 1)).n
theorem payS.ok {n : Nat} {L : Nat → Fa} (h : payS n L) : stOk n L = true := by
  obtain ⟨h1, h2, -, h4, h5⟩ := h
  simp only [stOk, Bool.and_eq_true]
  refine ⟨allUp_mk fun i hi => ?_, by simp; omega⟩
  have hh := h4 i hi
  simp only [stGood, factB, Bool.and_eq_true, inB_iff, spanB_iff, Bool.or_eq_true, beq_iff_eq, Bool.not_eq_true', decide_eq_false_iff_not]
  cases i with
  | zero => omega
  | succ i => have := h5 i hi; simp only [Nat.add_sub_cancel]; omega
theorem serS.ok {n : Nat} {P : Nat → Po} (h : serS n P) : seOk n P = true := by
  obtain ⟨h1, h2, h4, h5⟩ := h
  simp only [seOk, Bool.and_eq_true]
  refine ⟨allUp_mk fun i hi => ?_, by simp; omega⟩
  have hh := h4 i hi
  simp only [poGood, Bool.and_eq_true, inB_iff, Bool.or_eq_true, beq_iff_eq, Bool.not_eq_true', decide_eq_false_iff_not]
  cases i with
  | zero => omega
  | succ i => have := h5 i hi; simp only [Nat.add_sub_cancel]; omega
theorem payS_one (L : Nat → Fa) {v : Int} (h1 : 100000 ≤ v) (h2 : v ≤ 199900) : payS 1 (upd L 0 ⟨1, 0, 60, 0, v⟩) := by
  refine ⟨Nat.le_refl _, by omega, by rw [upd_same]; exact ⟨rfl, rfl, rfl⟩, fun i hi => ?_, fun i hi => by omega⟩
  obtain rfl : i = 0 := by omega
  rw [upd_same]
  exact ⟨rfl, by simp, by simp, by simp, by simp, by simp, h1, h2⟩
theorem serS_one (P : Nat → Po) {v : Int} (h1 : 9000 ≤ v) (h2 : v ≤ 13000) : serS 1 (upd P 0 ⟨0, 0, v⟩) := by
  refine ⟨Nat.le_refl _, by omega, fun i hi => ?_, fun i hi => by omega⟩
  obtain rfl : i = 0 := by omega
  rw [upd_same]
  exact ⟨by simp, rfl, by simp, h1, h2⟩
theorem payS.more {n : Nat} {L : Nat → Fa} (h : payS n L) (hn : n ≤ 6) {f t k v : Int} (hk : (L (n - 1)).n ≤ k) (h1 : 0 ≤ f) (h2 : f < t) (h3 : t ≤ 60) (h4 : k ≤ 50) (h5 : 100000 ≤ v) (h6 : v ≤ 199900) : payS (n + 1) (upd L n ⟨1, f, t, k, v⟩) := by
  obtain ⟨g1, g2, g3, g4, g5⟩ := h
  have hk0 : 0 ≤ k := by have := g4 (n - 1) (by omega); omega
  refine ⟨by omega, by omega, by rw [upd_lt L _ (by omega)]; exact g3, fun i hi => ?_, fun i hi => ?_⟩
  · by_cases e : i = n
    · subst e
      rw [upd_same]
      exact ⟨rfl, h1, h2, h3, hk0, h4, h5, h6⟩
    · rw [upd_lt L _ (by omega)]
      exact g4 i (by omega)
  · by_cases e : i + 1 = n
    · have e2 : i = n - 1 := by omega
      rw [upd_lt L _ (by omega), e, upd_same, e2]
      exact hk
    · rw [upd_lt L _ (by omega), upd_lt L _ (by omega)]
      exact g5 i (by omega)
theorem serS.more {n : Nat} {P : Nat → Po} (h : serS n P) (hn : n ≤ 6) {k v : Int} (hk : (P (n - 1)).n ≤ k) (h4 : k ≤ 50) (h5 : 9000 ≤ v) (h6 : v ≤ 13000) : serS (n + 1) (upd P n ⟨k, k, v⟩) := by
  obtain ⟨g1, g2, g4, g5⟩ := h
  have hk0 : 0 ≤ k := by have := g4 (n - 1) (by omega); omega
  refine ⟨by omega, by omega, fun i hi => ?_, fun i hi => ?_⟩
  · by_cases e : i = n
    · subst e
      rw [upd_same]
      exact ⟨hk0, rfl, h4, h5, h6⟩
    · rw [upd_lt P _ (by omega)]
      exact g4 i (by omega)
  · by_cases e : i + 1 = n
    · have e2 : i = n - 1 := by omega
      rw [upd_lt P _ (by omega), e, upd_same, e2]
      exact hk
    · rw [upd_lt P _ (by omega), upd_lt P _ (by omega)]
      exact g5 i (by omega)
theorem payS.len {n : Nat} {L : Nat → Fa} (h : payS n L) : n ≤ 7 := h.2.1
theorem valFrom_first {L : Nat → Fa} {key m known : Int} (hh : vHit (L 0) key m known = true) : ∀ r : Nat, 1 ≤ r → ∃ v, valFrom L key m known r = some v
  | 0, hr => by omega
  | 1, _ => ⟨_, by rw [valFrom, if_pos hh]⟩
  | r + 2, _ => by
    rw [valFrom]
    split
    · exact ⟨_, rfl⟩
    · exact valFrom_first hh (r + 1) (by omega)
/-- Every month 0 .. 59 has a pay. -/
theorem payS.val {n : Nat} {L : Nat → Fa} (h : payS n L) {m known : Int} (h0 : 0 ≤ m) (h1 : m < 60) (hk : 0 ≤ known) : ∃ v, valFrom L 1 m known n = some v ∧ 100000 ≤ v ∧ v ≤ 199900 := by
  obtain ⟨g1, g2, ⟨z1, z2, z3⟩, g4, g5⟩ := h
  have hh : vHit (L 0) 1 m known = true := by
    have := (g4 0 (by omega)).1
    simp [vHit, this, z1, z2, z3, h0, h1, hk]
  obtain ⟨v, hv⟩ := valFrom_first hh n g1
  obtain ⟨j, hj, rfl⟩ := valFrom_mem hv
  have := g4 j hj
  exact ⟨_, hv, by omega, by omega⟩
theorem payS.none {n : Nat} {L : Nat → Fa} (h : payS n L) {m known : Int} (h1 : 60 ≤ m) : valFrom L 1 m known n = none :=
  valFrom_none fun i hi => by
    have := h.2.2.2.1 i hi
    have e : decide (m < (L i).t) = false := by simp; omega
    simp [vHit, e]
theorem payS.fin {n : Nat} {L : Nat → Fa} (h : payS n L) {known : Int} (hk : 0 ≤ known) : ∀ k : Nat, 60 ≤ k → finFrom L n known k = valFrom L 1 59 known n
  | 0, hk => by omega
  | k + 1, hk2 => by
    rw [finFrom]
    by_cases e : k = 59
    · subst e
      obtain ⟨v, hv, -⟩ := h.val (m := 59) (by omega) (by omega) hk
      rw [show ((59 : Nat) : Int) = 59 from rfl, hv]
    · rw [h.none (by omega)]
      exact h.fin hk k (by omega)
theorem payS.final {n : Nat} {L : Nat → Fa} (h : payS n L) {m known : Int} (hk : 0 ≤ known) (h0 : 1 ≤ m) (h1 : m ≤ 60) : finalL n L m known = valFrom L 1 (m - 1) known n := by
  have e : endB m = true := inB_t (by omega) (by omega)
  rw [finalL, if_pos (by rw [h.ok, e]; rfl)]
  obtain ⟨k, hk2⟩ : ∃ k : Nat, m.toNat = k + 1 := ⟨m.toNat - 1, by omega⟩
  obtain ⟨v, hv, -⟩ := h.val (m := m - 1) (by omega) (by omega) hk
  rw [hk2, finFrom, show ((k : Nat) : Int) = m - 1 by omega, hv]
theorem payS.finalL_far {n : Nat} {L : Nat → Fa} (h : payS n L) {m known : Int} (hk : 0 ≤ known) (h0 : 60 ≤ m) (h1 : m ≤ 3600) : finalL n L m known = valFrom L 1 59 known n := by
  have e : endB m = true := inB_t (by omega) (by omega)
  rw [finalL, if_pos (by rw [h.ok, e]; rfl)]
  exact h.fin hk _ (by omega)
theorem finalL_zero (n : Nat) (L : Nat → Fa) (known : Int) : finalL n L 0 known = none := by
  rw [finalL]
  split <;> rfl
end Go.Proofs.Ytondmakaednpdaa
