/- The value of a formula: plain facts. No program in sight. -/
import Derived.Test.YtanpmbiblibgfaaGreatDoorFormOk
import Derived.Test.YtanpmbiblibgfaaGreatDoorGa
namespace Go.Proofs.YtanpmbiblibgfaaGreatDoor
open Go.RowKit

theorem redL_good {n d : Int} {x : Fr} (h : redL n d = some x) : fracOkL x = true := (redL_ok h).1
/-- The value of a node whose operands have the values K, at the variables V. -/
def nodeV (s : No) (K V : Nat → Fr) : Option Fr :=
  if s.k = 1 then some (s.p, s.q)
  else if s.k = 2 then some (V s.a.toNat)
  else if s.k = 3 then addL (K s.a.toNat) (K s.b.toNat)
  else if s.k = 4 then subL (K s.a.toNat) (K s.b.toNat)
  else if s.k = 5 then mulL (K s.a.toNat) (K s.b.toNat)
  else if s.k = 6 then divL (K s.a.toNat) (K s.b.toNat)
  else if s.k = 7 then (if cmpL (K s.a.toNat) (K s.b.toNat) ≤ 0 then some (K s.a.toNat) else some (K s.b.toNat))
  else if s.k = 8 then (if cmpL (K s.a.toNat) (K s.b.toNat) ≤ 0 then some (K s.b.toNat) else some (K s.a.toNat))
  else if 0 < (K s.a.toNat).1 then some (K s.b.toNat) else some (K s.c.toNat)
/-- K with x at place k. -/
def updK (K : Nat → Fr) (k : Nat) (x : Fr) (i : Nat) : Fr := if i = k then x else K i
theorem updK_same (K : Nat → Fr) (k : Nat) (x : Fr) : updK K k x k = x := by rw [updK, if_pos rfl]
theorem updK_lt (K : Nat → Fr) {k i : Nat} (x : Fr) (h : i < k) : updK K k x i = K i := by rw [updK, if_neg (by omega)]
/-- The values of the first k nodes. -/
def evF (N : Nat → No) (V : Nat → Fr) : Nat → Option (Nat → Fr)
  | 0 => some fun _ => (0, 0)
  | k + 1 => match evF N V k with
    | none => none
    | some K => match nodeV (N k) K V with
      | none => none
      | some x => some (updK K k x)
def varsB (V : Nat → Fr) (m : Nat) : Bool := allUp (fun i => fracOkL (V i)) m && inB (m : Int) 8 8
/-- All values of a formula of n nodes at m variables. -/
def evAll (n m : Nat) (N : Nat → No) (V : Nat → Fr) : Option (Nat → Fr) := if (formB n N && varsB V m) = true then evF N V n else none
def evOne (n m : Nat) (N : Nat → No) (V : Nat → Fr) : Option Fr := (evAll n m N V).map fun K => K (n - 1)

theorem evF_succ {N : Nat → No} {V K : Nat → Fr} {k : Nat} (h : evF N V k = some K) : evF N V (k + 1) = (nodeV (N k) K V).map (updK K k) := by
  rw [evF, h]
  cases e : nodeV (N k) K V <;> simp [e]
theorem evF_stop {N : Nat → No} {V : Nat → Fr} {k : Nat} (h : evF N V k = none) : ∀ {n : Nat}, k ≤ n → evF N V n = none
  | 0, hk => by
    obtain rfl : k = 0 := by omega
    exact h
  | n + 1, hk => by
    by_cases e : k = n + 1
    · subst e; exact h
    · rw [evF, evF_stop h (show k ≤ n by omega)]
theorem varsB_len {V : Nat → Fr} {m : Nat} (h : varsB V m = true) : m = 8 := by
  simp only [varsB, Bool.and_eq_true, inB_iff] at h
  omega
theorem varsB_at {V : Nat → Fr} {m : Nat} (h : varsB V m = true) (i : Nat) (hi : i < m) : fracOkL (V i) = true := by
  simp only [varsB, Bool.and_eq_true] at h
  exact allUp_at (P := fun i => fracOkL (V i)) h.1 i hi
/-- What a good node says of its parts. -/
theorem nodeB_parts {s : No} {m : Int} (h : nodeB s m = true) :
    (s.k = 1 ∧ fracOkL (s.p, s.q) = true) ∨ (s.k = 2 ∧ 0 ≤ s.a ∧ s.a ≤ 7) ∨ (3 ≤ s.k ∧ s.k ≤ 8 ∧ 0 ≤ s.a ∧ s.a < m ∧ 0 ≤ s.b ∧ s.b < m) ∨ (s.k = 9 ∧ 0 ≤ s.a ∧ s.a < m ∧ 0 ≤ s.b ∧ s.b < m ∧ 0 ≤ s.c ∧ s.c < m) := by
  unfold nodeB at h
  split at h
  · simp only [Bool.and_eq_true] at h
    exact .inl ⟨by assumption, h.2⟩
  · split at h
    · simp only [Bool.and_eq_true, inB_iff] at h
      exact .inr (.inl ⟨by assumption, h.1.1, h.1.2⟩)
    · split at h
      · rename_i _ _ hk
        simp only [Bool.and_eq_true, atB, decide_eq_true_eq] at h
        exact .inr (.inr (.inl ⟨hk.1, hk.2, h.1.1.1, h.1.1.2, h.1.2.1, h.1.2.2⟩))
      · split at h
        · simp only [Bool.and_eq_true, atB, decide_eq_true_eq] at h
          exact .inr (.inr (.inr ⟨by assumption, h.1.1.1, h.1.1.2, h.1.2.1, h.1.2.2, h.2.1.1, h.2.1.2⟩))
        · cases h
theorem addL_good {a b x : Fr} (h : addL a b = some x) : fracOkL x = true := by
  unfold addL at h
  split at h
  · exact redL_good h
  · cases h
theorem subL_good {a b x : Fr} (h : subL a b = some x) : fracOkL x = true := by
  unfold subL at h
  split at h
  · exact redL_good h
  · cases h
theorem mulL_good {a b x : Fr} (h : mulL a b = some x) : fracOkL x = true := by
  unfold mulL at h
  split at h
  · exact redL_good h
  · cases h
theorem divL_good {a b x : Fr} (h : divL a b = some x) : fracOkL x = true := by
  unfold divL at h
  split at h
  · exact redL_good h
  · cases h
/-- A good node at good values has a good value. -/
theorem nodeV_good {s : No} {m : Nat} {K V : Nat → Fr} {x : Fr} (h : nodeB s (m : Int) = true) (hK : ∀ i, i < m → fracOkL (K i) = true) (hV : ∀ i, i < 8 → fracOkL (V i) = true) (hx : nodeV s K V = some x) : fracOkL x = true := by
  rcases nodeB_parts h with ⟨k, hf⟩ | ⟨k, a0, a1⟩ | ⟨k1, k2, a0, a1, b0, b1⟩ | ⟨k, a0, a1, b0, b1, c0, c1⟩
  · rw [nodeV, if_pos k] at hx
    injection hx with hx
    rw [← hx]; exact hf
  · rw [nodeV, if_neg (by omega), if_pos k] at hx
    injection hx with hx
    rw [← hx]; exact hV _ (by omega)
  · rw [nodeV, if_neg (by omega), if_neg (by omega)] at hx
    have ga := hK s.a.toNat (by omega)
    have gb := hK s.b.toNat (by omega)
    split at hx
    · exact addL_good hx
    split at hx
    · exact subL_good hx
    split at hx
    · exact mulL_good hx
    split at hx
    · exact divL_good hx
    split at hx
    · split at hx <;> (injection hx with hx; rw [← hx]; assumption)
    split at hx
    · split at hx <;> (injection hx with hx; rw [← hx]; assumption)
    · omega
  · rw [nodeV, if_neg (by omega), if_neg (by omega), if_neg (by omega), if_neg (by omega), if_neg (by omega), if_neg (by omega), if_neg (by omega), if_neg (by omega)] at hx
    have gb := hK s.b.toNat (by omega)
    have gc := hK s.c.toNat (by omega)
    split at hx <;> (injection hx with hx; rw [← hx]; assumption)
theorem evF_good {n : Nat} {N : Nat → No} {V : Nat → Fr} (hf : ∀ i, i < n → nodeB (N i) (i : Int) = true) (hV : ∀ i, i < 8 → fracOkL (V i) = true) : ∀ {k : Nat} {K : Nat → Fr}, k ≤ n → evF N V k = some K → ∀ i, i < k → fracOkL (K i) = true
  | 0, _, _, _, i, hi => by omega
  | k + 1, K, hk, h, i, hi => by
    cases e : evF N V k with
    | none => rw [evF, e] at h; cases h
    | some K0 =>
      rw [evF_succ e] at h
      cases e2 : nodeV (N k) K0 V with
      | none => rw [e2] at h; cases h
      | some x =>
        rw [e2] at h
        injection h with h
        have hh := evF_good hf hV (show k ≤ n by omega) e
        rw [← h]
        by_cases ei : i = k
        · subst ei; rw [updK_same]; exact nodeV_good (hf i (by omega)) hh hV e2
        · rw [updK_lt K0 x (by omega)]; exact hh i (by omega)
end Go.Proofs.YtanpmbiblibgfaaGreatDoor
