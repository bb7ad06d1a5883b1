/- The words of a formula. No program's function in sight. -/
import Derived.Test.YtanpmbiblibgfaaGreatDoorTxtL
import Derived.Test.YtanpmbiblibgfaaGreatDoorFSize
import Derived.Lib.Join
namespace Go.Proofs.YtanpmbiblibgfaaGreatDoor
open Go.RowKit Go.Lib
set_option linter.unusedVariables false

def nameL (k : Int) : List UInt8 := if k = 3 then [43] else if k = 4 then [45] else if k = 5 then [42] else if k = 6 then [47] else if k = 7 then [109, 105, 110] else if k = 8 then [109, 97, 120] else if k = 9 then [112, 105, 99, 107] else []
theorem nameL_len (k : Int) : (nameL k).length ≤ 4 := by
  unfold nameL
  repeat' split
  all_goals simp
/-- The words of a node whose operands have the words W. -/
def wdV (s : No) (W : Nat → List (List UInt8)) : List (List UInt8) :=
  if s.k = 1 then [fmtL (s.p, s.q)] else if s.k = 2 then [118 :: itoa s.a]
  else if s.k = 9 then [nameL s.k] ++ W s.a.toNat ++ W s.b.toNat ++ W s.c.toNat else [nameL s.k] ++ W s.a.toNat ++ W s.b.toNat
def wdF (N : Nat → No) : Nat → Nat → List (List UInt8)
  | 0, _ => []
  | k + 1, i => if i = k then wdV (N k) (wdF N k) else wdF N k i
/-- The words of node k. -/
def wd (N : Nat → No) (k : Nat) : List (List UInt8) := wdV (N k) (wdF N k)
theorem wdF_lt (N : Nat → No) : ∀ (k i : Nat), i < k → wdF N k i = wd N i
  | 0, i, h => by omega
  | k + 1, i, h => by
    rw [wdF]
    by_cases e : i = k
    · subst e; rw [if_pos rfl]; rfl
    · rw [if_neg e]; exact wdF_lt N k i (by omega)
section
variable {N : Nat → No} {k : Nat}
theorem wd_const (h : (N k).k = 1) : wd N k = [fmtL ((N k).p, (N k).q)] := by rw [wd, wdV, if_pos h]
theorem wd_var (h : (N k).k = 2) : wd N k = [118 :: itoa (N k).a] := by rw [wd, wdV, if_neg (by omega), if_pos h]
theorem wd_two (h : 3 ≤ (N k).k) (h' : (N k).k ≤ 8) (ha : (N k).a.toNat < k) (hb : (N k).b.toNat < k) : wd N k = [nameL (N k).k] ++ wd N (N k).a.toNat ++ wd N (N k).b.toNat := by
  rw [wd, wdV, if_neg (by omega), if_neg (by omega), if_neg (by omega), wdF_lt N k _ ha, wdF_lt N k _ hb]
theorem wd_pick (h : (N k).k = 9) (ha : (N k).a.toNat < k) (hb : (N k).b.toNat < k) (hc : (N k).c.toNat < k) : wd N k = [nameL (N k).k] ++ wd N (N k).a.toNat ++ wd N (N k).b.toNat ++ wd N (N k).c.toNat := by
  rw [wd, wdV, if_neg (by omega), if_neg (by omega), if_pos h, wdF_lt N k _ ha, wdF_lt N k _ hb, wdF_lt N k _ hc]
end
/-- Every node of the first n is well formed. -/
def nodesOk (N : Nat → No) (n : Nat) : Prop := ∀ i, i < n → nodeB (N i) (i : Int) = true
theorem wd_ne {N : Nat → No} {n : Nat} (hN : nodesOk N n) (k : Nat) (hk : k < n) : wd N k ≠ [] := by
  rcases nodeB_parts (hN k hk) with ⟨h1, -⟩ | ⟨h1, -⟩ | ⟨h1, h2, a0, a1, b0, b1⟩ | ⟨h1, a0, a1, b0, b1, c0, c1⟩
  · rw [wd_const h1]; simp
  · rw [wd_var h1]; simp
  · rw [wd_two h1 h2 (by omega) (by omega)]; simp
  · rw [wd_pick h1 (by omega) (by omega) (by omega)]; simp
theorem wd_word {N : Nat → No} {n : Nat} (hN : nodesOk N n) : ∀ k, k < n → ∀ x ∈ wd N k, x.length ≤ 25 := by
  intro k
  induction k using Nat.strongRecOn with
  | ind k ih =>
    intro hk x hx
    rcases nodeB_parts (hN k hk) with ⟨h1, -⟩ | ⟨h1, a0, a1⟩ | ⟨h1, h2, a0, a1, b0, b1⟩ | ⟨h1, a0, a1, b0, b1, c0, c1⟩
    · rw [wd_const h1] at hx
      rw [List.mem_singleton.1 hx]
      exact fmtL_len_any _
    · rw [wd_var h1] at hx
      rw [List.mem_singleton.1 hx, List.length_cons]
      have := itoa_len (n := (N k).a) (by omega) (by omega)
      omega
    · rw [wd_two h1 h2 (by omega) (by omega)] at hx
      rcases List.mem_append.1 hx with hx | hx
      · rcases List.mem_append.1 hx with hx | hx
        · rw [List.mem_singleton.1 hx]; have := nameL_len (N k).k; omega
        · exact ih _ (by omega) (by omega) x hx
      · exact ih _ (by omega) (by omega) x hx
    · rw [wd_pick h1 (by omega) (by omega) (by omega)] at hx
      rcases List.mem_append.1 hx with hx | hx
      · rcases List.mem_append.1 hx with hx | hx
        · rcases List.mem_append.1 hx with hx | hx
          · rw [List.mem_singleton.1 hx]; have := nameL_len (N k).k; omega
          · exact ih _ (by omega) (by omega) x hx
        · exact ih _ (by omega) (by omega) x hx
      · exact ih _ (by omega) (by omega) x hx
/-- The text of some words. -/
def txt (ws : List (List UInt8)) : List UInt8 := join ws [32]
theorem txt_one (x : List UInt8) : txt [x] = x := join_one x [32]
theorem txt_append {a b : List (List UInt8)} (ha : a ≠ []) (hb : b ≠ []) : txt (a ++ b) = txt a ++ [32] ++ txt b := by
  cases a with
  | nil => exact absurd rfl ha
  | cons x r =>
    cases b with
    | nil => exact absurd rfl hb
    | cons y t =>
      rw [txt, txt, txt, List.cons_append, join_cons, join_cons, join_cons]
      simp [joinTail]
theorem lens_le {ws : List (List UInt8)} (h : ∀ x ∈ ws, x.length ≤ 25) : lens ws ≤ 25 * ws.length := by
  induction ws with
  | nil => simp [lens]
  | cons x r ih =>
    have h1 := h x (List.mem_cons_self ..)
    have h2 := ih fun y hy => h y (List.mem_cons_of_mem _ hy)
    simp only [lens, List.length_cons, List.map_cons, List.sum_cons] at h2 ⊢
    omega
theorem txt_len {ws : List (List UInt8)} (h : ∀ x ∈ ws, x.length ≤ 25) : (txt ws).length ≤ 26 * ws.length := by
  cases ws with
  | nil => simp [txt, join_nil]
  | cons x r =>
    have := lens_le h
    rw [txt, join_length]
    simp only [List.length_cons, List.length_nil] at this ⊢
    omega
/-- The size of node k is the number of its words, up to 25. -/
theorem szF_wd {N : Nat → No} {n : Nat} (hN : nodesOk N n) : ∀ m, m ≤ n → ∀ k, k < m → (szF N m).getD k 0 = m25 ((wd N k).length : Int)
  | 0, _, k, hk => by omega
  | m + 1, hm, k, hk => by
    have ih := szF_wd hN m (by omega)
    rw [szF_last]
    by_cases e : k = m
    · subst e
      rw [show (szF N k ++ [szV (N k) fun i => (szF N k).getD i 0]).getD k 0 = szV (N k) (fun i => (szF N k).getD i 0) from by
        rw [List.getD_eq_getElem?_getD, List.getElem?_append_right (by rw [szF_len]; omega), szF_len]; simp]
      rcases nodeB_parts (hN k (by omega)) with ⟨h1, -⟩ | ⟨h1, a0, a1⟩ | ⟨h1, h2, a0, a1, b0, b1⟩ | ⟨h1, a0, a1, b0, b1, c0, c1⟩
      · rw [wd_const h1, szV, if_neg (by omega), if_neg (by omega)]; rfl
      · rw [wd_var h1, szV, if_neg (by omega), if_neg (by omega)]; rfl
      · rw [wd_two h1 h2 (by omega) (by omega), szV, if_neg (by omega), if_pos ⟨h1, h2⟩]
        have ea := ih (N k).a.toNat (by omega)
        have eb := ih (N k).b.toNat (by omega)
        rw [ea, eb]
        simp only [List.length_append, List.length_singleton]
        unfold m25
        push_cast
        repeat' split
        all_goals omega
      · rw [wd_pick h1 (by omega) (by omega) (by omega), szV, if_pos h1]
        have ea := ih (N k).a.toNat (by omega)
        have eb := ih (N k).b.toNat (by omega)
        have ec := ih (N k).c.toNat (by omega)
        rw [ea, eb, ec]
        simp only [List.length_append, List.length_singleton]
        unfold m25
        push_cast
        repeat' split
        all_goals omega
    · rw [List.getD_eq_getElem?_getD, List.getElem?_append_left (by rw [szF_len]; omega), ← List.getD_eq_getElem?_getD]
      exact ih k (by omega)
end Go.Proofs.YtanpmbiblibgfaaGreatDoor
