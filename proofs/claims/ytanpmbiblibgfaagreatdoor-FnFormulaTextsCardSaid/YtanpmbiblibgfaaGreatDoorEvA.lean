/- What a node's value leans on. No program's function in sight. -/
import Derived.Test.YtanpmbiblibgfaaGreatDoorEvalL
namespace Go.Proofs.YtanpmbiblibgfaaGreatDoor
open Go.RowKit
set_option linter.unusedVariables false
theorem nodeV_congr {s : No} {m : Nat} {K K' V : Nat → Fr} (h : nodeB s (m : Int) = true) (e : ∀ j, j < m → K j = K' j) : nodeV s K V = nodeV s K' V := by
  rcases nodeB_parts h with ⟨h1, -⟩ | ⟨h1, -⟩ | ⟨h1, h2, a0, a1, b0, b1⟩ | ⟨h1, a0, a1, b0, b1, c0, c1⟩
  · rw [nodeV, nodeV, if_pos h1, if_pos h1]
  · rw [nodeV, nodeV, if_neg (by omega), if_pos h1, if_neg (by omega), if_pos h1]
  · have ea := e s.a.toNat (by omega)
    have eb := e s.b.toNat (by omega)
    have h9 : ¬ s.k = 9 := by omega
    unfold nodeV
    rw [ea, eb]
    rcases (show s.k = 3 ∨ s.k = 4 ∨ s.k = 5 ∨ s.k = 6 ∨ s.k = 7 ∨ s.k = 8 by omega) with e | e | e | e | e | e <;> simp [e]
  · have ea := e s.a.toNat (by omega)
    have eb := e s.b.toNat (by omega)
    have ec := e s.c.toNat (by omega)
    unfold nodeV
    rw [ea, eb, ec]
theorem evF_node {N : Nat → No} {V : Nat → Fr} : ∀ {n : Nat} {K : Nat → Fr}, (∀ i, i < n → nodeB (N i) (i : Int) = true) → evF N V n = some K → ∀ i, i < n → nodeV (N i) K V = some (K i)
  | 0, K, _, _, i, hi => by omega
  | n + 1, K, hN, h, i, hi => by
    rw [evF] at h
    cases h0 : evF N V n with
    | none => rw [h0] at h; cases h
    | some K0 =>
      rw [h0] at h
      dsimp only at h
      cases h1 : nodeV (N n) K0 V with
      | none => rw [h1] at h; cases h
      | some x =>
        rw [h1] at h
        injection h with h
        subst h
        by_cases e : i = n
        · subst e
          rw [updK_same, ← h1]
          exact nodeV_congr (hN i hi) fun j hj => updK_lt _ _ hj
        · rw [updK_lt _ _ (show i < n by omega), ← evF_node (fun i hi => hN i (by omega)) h0 i (by omega)]
          exact nodeV_congr (hN i hi) fun j hj => updK_lt _ _ (by omega)
end Go.Proofs.YtanpmbiblibgfaaGreatDoor
