/- A drawn book, as it is read. No conditions. -/
import Derived.Test.YtjnckhdmaebfdaaDrawB
import Derived.Test.YtjnckhdmaebfdaaRuleFor
namespace Go.Proofs.Ytjnckhdmaebfdaa
open Go.RowKit

set_option linter.unusedVariables false
/-- A drawn book, as it is read. -/
def drawnQ (m : Nat) (R : Nat → Rn) (mo nm : Int) : Prop := bookB m R = true ∧ (1 ≤ m ∧ m ≤ 6) ∧ (∃ i, i < m ∧ (R i).s.nm = nm ∧ (R i).s.fr ≤ mo ∧ mo < (R i).s.to) ∧ (∀ i, i < m → 1 ≤ (R i).s.nm ∧ (R i).s.nm ≤ 3 ∧ 0 ≤ (R i).s.ra ∧ (R i).s.ra ≤ 3) ∧ ∀ i, i < m → (R i).A = none → (R i).n = 0 ∧ (R i).c = 0
theorem drawnQ.month {m : Nat} {R : Nat → Rn} {mo nm : Int} (h : drawnQ m R mo nm) : 0 ≤ mo ∧ mo < 3600 := by
  obtain ⟨h1, -, ⟨i, hi, -, h3, h4⟩, -⟩ := h
  obtain ⟨a, b, c⟩ := rule_span (bookB_rule h1 i hi)
  omega
theorem drawnQ.n {m : Nat} {R : Nat → Rn} {mo nm : Int} (h : drawnQ m R mo nm) : ∀ i, i < m → (R i).n ≤ 1099511627776 := fun i hi => Nat.le_trans (bookB_n h.1 i hi) (by omega)
theorem sDrawBookR (w : World) (A : Option Addr) (n c : Nat) (hb : Bys w w.heap.size A n) :
    Calls Try.prog 21 #[.slice A n c] w fun e w' => ∃ (m : Nat) (R : Nat → Rn) (D : Option Addr) (cd : Nat) (mo nm : Int), e = .returned (.tuple #[.agg #[.slice D m cd], .int .i64 mo, .int .i64 nm]) ∧ drawnQ m R mo nm ∧ m ≤ cd ∧ cd ≤ 9223372036854775807 ∧ RdRu w' w'.heap.size D m R ∧ Below w.heap.size w w' := by
  refine (sDrawBook w A n c hb).mono ?_
  rintro e w' ⟨xs, D, cd, mo, nm, rfl, hx, h1, hex, own, hbl⟩
  exact ⟨xs.length, fun i => xs.getD i Rn.zero, D, cd, mo, nm, rfl, ⟨hx.1, h1, hex, hx.2, fun i hi => owr_nil (own.2.1 i hi)⟩, own.cap.1, (by have := own.cap.2; unfold maxLen at this; omega), own.rd, hbl⟩
theorem ite_some {c : Prop} [Decidable c] {a b : Nat} : ∃ j, (if c then some a else some b) = some j := by split <;> exact ⟨_, rfl⟩
theorem ruBest_ex {R : Nat → Rn} {name mo jo : Int} : ∀ {k i : Nat}, i < k → ruHit (R i).s name mo jo = true → ∃ j, ruBest R name mo jo k = some j
  | 0, i, hi, _ => by omega
  | k + 1, i, hi, hh => by
    rw [ruBest]
    by_cases e : i = k
    · subst e
      rw [hh, Bool.true_and]
      cases hq : ruBest R name mo jo i with
      | none => exact ⟨i, rfl⟩
      | some j =>
        exact ite_some
    · obtain ⟨j, hj⟩ := ruBest_ex (show i < k by omega) hh
      rw [hj]
      exact ite_some
theorem ruBest_hit {R : Nat → Rn} {name mo jo : Int} : ∀ {k j : Nat}, ruBest R name mo jo k = some j → ruHit (R j).s name mo jo = true ∧ ∀ i, i < k → ruHit (R i).s name mo jo = true → (R i).s.ra ≤ (R j).s.ra
  | 0, j, h => by simp [ruBest] at h
  | k + 1, j, h => by
    rw [ruBest] at h
    cases hq : ruBest R name mo jo k with
    | none =>
      rw [hq] at h
      have hno : ∀ i, i < k → ruHit (R i).s name mo jo = true → False := fun i hi hh => by obtain ⟨j, hj⟩ := ruBest_ex hi hh; rw [hq] at hj; cases hj
      cases hh : ruHit (R k).s name mo jo with
      | false => rw [hh] at h; simp at h
      | true =>
        rw [hh] at h
        simp at h
        subst h
        exact ⟨hh, fun i hi hi2 => by
          by_cases e : i = k
          · subst e; exact Int.le_refl _
          · exact (hno i (by omega) hi2).elim⟩
    | some q =>
      rw [hq] at h
      obtain ⟨h1, h2⟩ := ruBest_hit hq
      cases hh : ruHit (R k).s name mo jo with
      | false =>
        rw [hh] at h
        simp at h
        subst h
        exact ⟨h1, fun i hi hi2 => by
          by_cases e : i = k
          · subst e; rw [hh] at hi2; cases hi2
          · exact h2 i (by omega) hi2⟩
      | true =>
        rw [hh, Bool.true_and] at h
        by_cases hr : (R q).s.ra < (R k).s.ra
        · simp only [decide_eq_true hr, if_pos] at h
          injection h with h
          subst h
          exact ⟨hh, fun i hi hi2 => by
            by_cases e : i = k
            · subst e; exact Int.le_refl _
            · have := h2 i (by omega) hi2; omega⟩
        · simp only [decide_eq_false hr] at h
          simp at h
          subst h
          exact ⟨h1, fun i hi hi2 => by
            by_cases e : i = k
            · subst e; omega
            · exact h2 i (by omega) hi2⟩
/-- A drawn book has a rule for its month and name, for who joined at first. -/
theorem drawnQ.best {m : Nat} {R : Nat → Rn} {mo nm : Int} (h : drawnQ m R mo nm) : ∃ j, ruBest R nm mo 0 m = some j := by
  obtain ⟨h1, -, ⟨i, hi, h2, h3, h4⟩, -⟩ := h
  refine ruBest_ex hi ?_
  have hr := bookB_rule h1 i hi
  simp only [ruleB, Bool.and_eq_true, inB_iff] at hr
  have hj := hr.2.2.1.1
  simp [ruHit, h2, h3, h4]
  omega
theorem bys_up {w : World} {B B' n : Nat} {A : Option Addr} (h : Bys w B A n) (hB : B ≤ B') : Bys w B' A n :=
  ⟨h.1, fun k hk => by
    obtain ⟨b, off, z, e, hb, hc⟩ := h.2 k hk
    exact ⟨b, off, z, e, by omega, hc⟩⟩
end Go.Proofs.Ytjnckhdmaebfdaa
