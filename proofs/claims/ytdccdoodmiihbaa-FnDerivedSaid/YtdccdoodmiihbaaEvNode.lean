/- The values of nodes, and what a value needs. No program in sight. -/
import Derived.Test.YtdccdoodmiihbaaVarsOf
namespace Go.Proofs.Ytdccdoodmiihbaa
open Go.RowKit

theorem nodeV_congr {s : No} {m : Nat} {K K' V : Nat → Fr} (h : nodeB s (m : Int) = true) (e : ∀ j, j < m → K j = K' j) : nodeV s K V = nodeV s K' V := by
  rcases nodeB_parts h with ⟨h1, -⟩ | ⟨h1, -⟩ | ⟨h1, h2, a0, a1, b0, b1⟩ | ⟨h1, a0, a1, b0, b1, c0, c1⟩
  · rw [nodeV, nodeV, if_pos h1, if_pos h1]
  · rw [nodeV, nodeV, if_neg (by omega), if_pos h1, if_neg (by omega), if_pos h1]
  · have ea := e s.a.toNat (by omega)
    have eb := e s.b.toNat (by omega)
    have h9 : ¬ s.k = 9 := by omega
    unfold nodeV
    rw [ea, eb]
    rcases (show s.k = 3 ∨ s.k = 4 ∨ s.k = 5 ∨ s.k = 6 ∨ s.k = 7 ∨ s.k = 8 by omega) with e | e | e | e | e | e <;> simp [e]
  · have ea := e s.a.toNat (by omega)
    have eb := e s.b.toNat (by omega)
    have ec := e s.c.toNat (by omega)
    unfold nodeV
    rw [ea, eb, ec]
theorem evF_node {N : Nat → No} {V : Nat → Fr} : ∀ {n : Nat} {K : Nat → Fr}, (∀ i, i < n → nodeB (N i) (i : Int) = true) → evF N V n = some K → ∀ i, i < n → nodeV (N i) K V = some (K i)
  | 0, K, _, _, i, hi => by omega
  | n + 1, K, hN, h, i, hi => by
    rw [evF] at h
    cases h0 : evF N V n with
    | none => rw [h0] at h; cases h
    | some K0 =>
      rw [h0] at h
      dsimp only at h
      cases h1 : nodeV (N n) K0 V with
      | none => rw [h1] at h; cases h
      | some x =>
        rw [h1] at h
        injection h with h
        subst h
        by_cases e : i = n
        · subst e
          rw [updK_same, ← h1]
          exact nodeV_congr (hN i hi) fun j hj => updK_lt _ _ hj
        · rw [updK_lt _ _ (show i < n by omega), ← evF_node (fun i hi => hN i (by omega)) h0 i (by omega)]
          exact nodeV_congr (hN i hi) fun j hj => updK_lt _ _ (by omega)
theorem needed_same {n k : Nat} {N : Nat → No} {V V' K K' : Nat → Fr} {nd o : Nat → Bool} (hN : ∀ i, i < n → nodeB (N i) (i : Int) = true) (h : evF N V n = some K) (h' : evF N V' n = some K') (hc : ∀ q, q < n → nd q = true → closedP N nd o q) (ho : o k = false) (hv : ∀ i, i ≠ k → V i = V' i) :
    ∀ q, q < n → nd q = true → K q = K' q := by
  intro q
  induction q using Nat.strongRecOn with
  | ind q ih =>
    intro hq hnd
    have e := evF_node hN h q hq
    have e' := evF_node hN h' q hq
    have hcl := hc q hq hnd
    have hb := hN q hq
    have hop : ∀ t, t < (opL (N q)).length → K ((opL (N q)).getD t 0).toNat = K' ((opL (N q)).getD t 0).toNat := fun t ht => by
      have hp := opL_at hb t ht
      exact ih _ (by omega) (by omega) (hcl.2 t ht)
    have key : nodeV (N q) K V = nodeV (N q) K' V' := by
      rcases nodeB_parts hb with ⟨h1, -⟩ | ⟨h1, h2, h3⟩ | ⟨h1, h2, -⟩ | ⟨h1, -⟩
      · rw [nodeV, nodeV, if_pos h1, if_pos h1]
      · have hk : (N q).a.toNat ≠ k := fun e2 => by
          have := hcl.1 h1
          rw [e2, ho] at this
          cases this
        rw [nodeV, nodeV, if_neg (by omega), if_pos h1, if_neg (by omega), if_pos h1, hv _ hk]
      · rw [opL_two h1 h2] at hop
        have ea : K (N q).a.toNat = K' (N q).a.toNat := hop 0 (by simp)
        have eb : K (N q).b.toNat = K' (N q).b.toNat := hop 1 (by simp)
        unfold nodeV
        rw [ea, eb]
        rcases (show (N q).k = 3 ∨ (N q).k = 4 ∨ (N q).k = 5 ∨ (N q).k = 6 ∨ (N q).k = 7 ∨ (N q).k = 8 by omega) with e | e | e | e | e | e <;> simp [e]
      · rw [opL_pick h1] at hop
        have ea : K (N q).a.toNat = K' (N q).a.toNat := hop 0 (by simp)
        have eb : K (N q).b.toNat = K' (N q).b.toNat := hop 1 (by simp)
        have ec : K (N q).c.toNat = K' (N q).c.toNat := hop 2 (by simp)
        unfold nodeV
        rw [ea, eb, ec]
        simp [h1]
    rw [e, e'] at key
    injection key
end Go.Proofs.Ytdccdoodmiihbaa
