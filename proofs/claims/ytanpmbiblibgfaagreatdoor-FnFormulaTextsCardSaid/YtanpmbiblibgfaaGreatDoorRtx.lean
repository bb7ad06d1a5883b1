/- The text of a formula, and the formula out of its text. No program's function in sight. -/
import Derived.Test.YtanpmbiblibgfaaGreatDoorRdl
import Derived.Test.YtanpmbiblibgfaaGreatDoorSSpl
import Derived.Test.YtanpmbiblibgfaaGreatDoorEvA
namespace Go.Proofs.YtanpmbiblibgfaaGreatDoor
open Go.RowKit Go.Lib
set_option linter.unusedVariables false

/-- A word's byte: printed, no space. -/
def inkB (b : UInt8) : Prop := 33 ≤ b.toNat ∧ b.toNat ≤ 126
theorem ink_sp {b : UInt8} (h : inkB b) : isSp b = false := isSp_good (by have := h.1; omega) (by have := h.1; omega)
theorem itoa_ink (n : Int) : ∀ b ∈ itoa n, inkB b := fun b hb => by
  have := itoa_byte n b hb
  unfold inkB
  omega
theorem fmt_ink (x : Fr) : ∀ b ∈ fmtL x, inkB b := fun b hb => by
  rw [fmtL] at hb
  split at hb
  · split at hb
    · exact itoa_ink _ b hb
    · rcases List.mem_append.1 hb with h | h
      · exact itoa_ink _ b h
      · rcases List.mem_cons.1 h with h | h
        · subst h; unfold inkB; decide
        · exact itoa_ink _ b h
  · cases hb
theorem name_ink (k : Int) : ∀ b ∈ nameL k, inkB b := by
  unfold nameL
  repeat' split
  all_goals (intro b hb; revert b; unfold inkB; decide)
theorem name_ne {k : Int} (h3 : 3 ≤ k) (h9 : k ≤ 9) : nameL k ≠ [] := by
  rcases (show k = 3 ∨ k = 4 ∨ k = 5 ∨ k = 6 ∨ k = 7 ∨ k = 8 ∨ k = 9 by omega) with rfl | rfl | rfl | rfl | rfl | rfl | rfl <;> decide
theorem name_len3 {k : Int} (h9 : k ≠ 9) : (nameL k).length ≤ 3 := by
  unfold nameL
  repeat' split
  all_goals first | omega | simp
def inkW (x : List UInt8) : Prop := x ≠ [] ∧ ∀ b ∈ x, inkB b
theorem wd_ink {N : Nat → No} {n : Nat} (hN : nodesOk N n) : ∀ k, k < n → ∀ x ∈ wd N k, inkW x := by
  intro k
  induction k using Nat.strongRecOn with
  | ind k ih =>
    intro hk x hx
    rcases nodeB_parts (hN k hk) with ⟨h1, hf⟩ | ⟨h1, a0, a1⟩ | ⟨h1, h2, a0, a1, b0, b1⟩ | ⟨h1, a0, a1, b0, b1, c0, c1⟩
    · rw [wd_const h1] at hx
      rw [List.mem_singleton.1 hx]
      exact ⟨fmtL_ne hf, fmt_ink _⟩
    · rw [wd_var h1] at hx
      rw [List.mem_singleton.1 hx]
      refine ⟨List.cons_ne_nil _ _, fun b hb => ?_⟩
      rcases List.mem_cons.1 hb with h | h
      · subst h; unfold inkB; decide
      · exact itoa_ink _ b h
    · rw [wd_two h1 h2 (by omega) (by omega)] at hx
      rcases List.mem_append.1 hx with hx | hx
      · rcases List.mem_append.1 hx with hx | hx
        · rw [List.mem_singleton.1 hx]; exact ⟨name_ne h1 (by omega), name_ink _⟩
        · exact ih _ (by omega) (by omega) x hx
      · exact ih _ (by omega) (by omega) x hx
    · rw [wd_pick h1 (by omega) (by omega) (by omega)] at hx
      rcases List.mem_append.1 hx with hx | hx
      · rcases List.mem_append.1 hx with hx | hx
        · rcases List.mem_append.1 hx with hx | hx
          · rw [List.mem_singleton.1 hx]; exact ⟨name_ne (by omega) (by omega), name_ink _⟩
          · exact ih _ (by omega) (by omega) x hx
        · exact ih _ (by omega) (by omega) x hx
      · exact ih _ (by omega) (by omega) x hx
theorem lens_append (a b : List (List UInt8)) : lens (a ++ b) = lens a + lens b := by simp [lens]
theorem lens_one (x : List UInt8) : lens [x] = x.length := by simp [lens]
theorem wd_lens {N : Nat → No} {n : Nat} (hN : nodesOk N n) : ∀ k, k < n → lens (wd N k) ≤ 18 * (wd N k).length + 7 := by
  intro k
  induction k using Nat.strongRecOn with
  | ind k ih =>
    intro hk
    rcases nodeB_parts (hN k hk) with ⟨h1, hf⟩ | ⟨h1, a0, a1⟩ | ⟨h1, h2, a0, a1, b0, b1⟩ | ⟨h1, a0, a1, b0, b1, c0, c1⟩
    · rw [wd_const h1, lens_one]
      have := fmtL_len_any ((N k).p, (N k).q)
      simp only [List.length_singleton]
      omega
    · rw [wd_var h1, lens_one]
      have := itoa_len (n := (N k).a) (by omega) (by omega)
      simp only [List.length_cons]
      omega
    · rw [wd_two h1 h2 (by omega) (by omega)]
      have ea := ih (N k).a.toNat (by omega) (by omega)
      have eb := ih (N k).b.toNat (by omega) (by omega)
      have en := name_len3 (k := (N k).k) (by omega)
      simp only [lens_append, lens_one, List.length_append, List.length_singleton]
      omega
    · rw [wd_pick h1 (by omega) (by omega) (by omega)]
      have ea := ih (N k).a.toNat (by omega) (by omega)
      have eb := ih (N k).b.toNat (by omega) (by omega)
      have ec := ih (N k).c.toNat (by omega) (by omega)
      have en := nameL_len (N k).k
      simp only [lens_append, lens_one, List.length_append, List.length_singleton]
      omega
theorem fieldsGo_word : ∀ (x cur l : List UInt8), (∀ b ∈ x, inkB b) → fieldsGo cur (x ++ l) = fieldsGo (cur ++ x) l
  | [], cur, l, _ => by simp
  | b :: x, cur, l, h => by
    rw [List.cons_append, fieldsGo_more _ _ _ (ink_sp (h b List.mem_cons_self)), fieldsGo_word x (cur ++ [b]) l fun c hc => h c (List.mem_cons_of_mem _ hc)]
    simp
theorem fieldsGo_tail : ∀ (r : List (List UInt8)) (x : List UInt8), x ≠ [] → (∀ y ∈ r, inkW y) → fieldsGo x (joinTail [32] r) = x :: r
  | [], x, hx, _ => by
    cases x with
    | nil => exact absurd rfl hx
    | cons _ _ => rfl
  | y :: r, x, hx, h => by
    have hy := h y List.mem_cons_self
    have e : joinTail [32] (y :: r) = 32 :: (y ++ joinTail [32] r) := by simp [joinTail]
    rw [e, fieldsGo_end x 32 _ isSp_32 hx, fieldsGo_word y [] _ hy.2, List.nil_append, fieldsGo_tail r y hy.1 fun z hz => h z (List.mem_cons_of_mem _ hz)]
theorem fields_txt {ws : List (List UInt8)} (hn : ws ≠ []) (h : ∀ y ∈ ws, inkW y) : fields (txt ws) = ws := by
  cases ws with
  | nil => exact absurd rfl hn
  | cons x r =>
    have hx := h x List.mem_cons_self
    rw [fields, txt, join_cons, fieldsGo_word x [] _ hx.2, List.nil_append, fieldsGo_tail r x hx.1 fun z hz => h z (List.mem_cons_of_mem _ hz)]
theorem joinTail_bytes {r : List (List UInt8)} (h : ∀ y ∈ r, inkW y) : ∀ b ∈ joinTail [32] r, 32 ≤ b.toNat ∧ b.toNat ≤ 126 := by
  intro b hb
  simp only [joinTail, List.mem_flatten, List.mem_map] at hb
  obtain ⟨l, ⟨y, hy, rfl⟩, hb⟩ := hb
  rcases List.mem_append.1 hb with h1 | h1
  · rw [List.mem_singleton.1 h1]; decide
  · have := (h y hy).2 b h1
    unfold inkB at this
    omega
theorem sfL_txt {N : Nat → No} {n k : Nat} (hN : nodesOk N n) (hk : k < n) (h24 : (wd N k).length ≤ 24) : sfL (txt (wd N k)) = some (wd N k) := by
  have hne := wd_ne hN k hk
  have hink := wd_ink hN k hk
  have hl := wd_lens hN k hk
  have hf := fields_txt hne hink
  have hlen : (txt (wd N k)).length ≤ 600 := by
    cases e : wd N k with
    | nil => exact absurd e hne
    | cons x r =>
      rw [e] at hl h24
      rw [txt, join_length]
      simp only [List.length_cons, List.length_nil] at hl h24 ⊢
      omega
  have hb : ∀ b ∈ txt (wd N k), 32 ≤ b.toNat ∧ b.toNat ≤ 126 := by
    cases e : wd N k with
    | nil => exact absurd e hne
    | cons x r =>
      rw [e] at hink
      intro b hb
      rw [txt, join_cons] at hb
      rcases List.mem_append.1 hb with h1 | h1
      · have := (hink x List.mem_cons_self).2 b h1
        unfold inkB at this
        omega
      · exact joinTail_bytes (fun y hy => hink y (List.mem_cons_of_mem _ hy)) b h1
  have k0 := sfL_ok hlen hb (by rw [hf]; exact h24)
  rw [hf] at k0
  exact k0

/-- F holds xs from base on. -/
def holds {α : Type} (F : Nat → α) (base : Nat) (xs : List α) : Prop := ∀ (i : Nat) x, xs[i]? = some x → F (base + i) = x
theorem holds.left {α : Type} {F : Nat → α} {base : Nat} {xs ys : List α} (h : holds F base (xs ++ ys)) : holds F base xs := fun i x hx => h i x (by rw [List.getElem?_append_left (List.getElem?_eq_some_iff.1 hx).1]; exact hx)
theorem holds.right {α : Type} {F : Nat → α} {base : Nat} {xs ys : List α} (h : holds F base (xs ++ ys)) : holds F (base + xs.length) ys := fun i x hx => by
  have := h (xs.length + i) x (by rw [List.getElem?_append_right (by omega), Nat.add_sub_cancel_left]; exact hx)
  rw [Nat.add_assoc]
  exact this
theorem holds.one {α : Type} {F : Nat → α} {base : Nat} {x : α} (h : holds F base [x]) : F base = x := h 0 x rfl
/-- ns, laid from base on, is the formula of node k: the same words, and the same values. -/
def copyOf (N : Nat → No) (n base : Nat) (ns : List No) (k : Nat) : Prop :=
  1 ≤ ns.length ∧ (∀ N', holds N' base ns → wd N' (base + ns.length - 1) = wd N k) ∧
  ∀ V K : Nat → Fr, (∀ i, i < n → nodeV (N i) K V = some (K i)) → ∃ vs : List Fr, vs.length = ns.length ∧ ∀ N' K', holds N' base ns → holds K' base vs →
    (∀ j, j < ns.length → nodeV (N' (base + j)) K' V = some (K' (base + j))) ∧ K' (base + ns.length - 1) = K k
theorem nodeV_ops {s s' : No} {K K' V : Nat → Fr} (hk : s'.k = s.k) (h3 : 3 ≤ s.k) (h9 : s.k ≤ 9) (ea : K' s'.a.toNat = K s.a.toNat) (eb : K' s'.b.toNat = K s.b.toNat) (ec : s.k = 9 → K' s'.c.toNat = K s.c.toNat) : nodeV s' K' V = nodeV s K V := by
  unfold nodeV
  rw [hk, ea, eb]
  by_cases h : s.k = 9
  · rw [ec h]
    simp [h]
  · rcases (show s.k = 3 ∨ s.k = 4 ∨ s.k = 5 ∨ s.k = 6 ∨ s.k = 7 ∨ s.k = 8 by omega) with e | e | e | e | e | e <;> simp [e]
theorem cls_fmt {x : Fr} (h : fracOkL x = true) : cls (fmtL x) = .frac x := by rw [cls, pfI_iff.2 ⟨h, rfl⟩]
theorem cls_name {k : Int} (h3 : 3 ≤ k) (h9 : k ≤ 9) : cls (nameL k) = .op k := by
  have e := kindW_name h3 h9
  rw [cls_op (by omega), e]
theorem cls_itoa {a : Int} (h0 : 0 ≤ a) (h7 : a ≤ 7) : cls (118 :: itoa a) = .var a := by
  rw [cls_v, puL_itoa h0 (by omega)]
  simp only
  rw [if_pos (by omega)]
theorem last_nat {b m : Nat} (h : 1 ≤ m) : (((b + m : Nat) : Int) - 1).toNat = b + m - 1 := by omega
theorem rdN_wd {N : Nat → No} {n : Nat} (hN : nodesOk N n) : ∀ k, k < n → ∀ (f : Nat) (rest : List (List UInt8)) (base : Nat), (wd N k).length ≤ f → ∃ ns, rdN f (wd N k ++ rest) base = some (ns, rest) ∧ copyOf N n base ns k := by
  intro k
  induction k using Nat.strongRecOn with
  | ind k ih =>
    intro hk f rest base hf
    rcases nodeB_parts (hN k hk) with ⟨h1, hfr⟩ | ⟨h1, a0, a1⟩ | ⟨h1, h2, a0, a1, b0, b1⟩ | ⟨h1, a0, a1, b0, b1, c0, c1⟩
    · rw [wd_const h1] at hf ⊢
      obtain ⟨f, rfl⟩ : ∃ g, f = g + 1 := ⟨f - 1, by simp at hf; omega⟩
      refine ⟨[⟨1, 0, 0, 0, (N k).p, (N k).q⟩], ?_, by simp, ?_, ?_⟩
      · rw [List.cons_append, List.nil_append, rdN, cls_fmt hfr]
      · intro N' h
        have e := h.one
        have : (N' base).k = 1 := by rw [e]
        rw [List.length_singleton, Nat.add_sub_cancel, wd_const this, wd_const h1, e]
      · intro V K hK
        refine ⟨[K k], rfl, fun N' K' h h' => ⟨fun j hj => ?_, ?_⟩⟩
        · have hj : j = 0 := by simp at hj; omega
          subst hj
          have e := h.one
          have e' := h'.one
          have q := hK k hk
          rw [nodeV, if_pos h1] at q
          rw [Nat.add_zero, e, e', ← q]
          rfl
        · rw [List.length_singleton, Nat.add_sub_cancel]
          exact h'.one
    · rw [wd_var h1] at hf ⊢
      obtain ⟨f, rfl⟩ : ∃ g, f = g + 1 := ⟨f - 1, by simp at hf; omega⟩
      refine ⟨[⟨2, (N k).a, 0, 0, 0, 0⟩], ?_, by simp, ?_, ?_⟩
      · rw [List.cons_append, List.nil_append, rdN, cls_itoa a0 a1]
      · intro N' h
        have e := h.one
        have : (N' base).k = 2 := by rw [e]
        rw [List.length_singleton, Nat.add_sub_cancel, wd_var this, wd_var h1, e]
      · intro V K hK
        refine ⟨[K k], rfl, fun N' K' h h' => ⟨fun j hj => ?_, ?_⟩⟩
        · have hj : j = 0 := by simp at hj; omega
          subst hj
          have e := h.one
          have e' := h'.one
          have q := hK k hk
          rw [nodeV, if_neg (by omega), if_pos h1] at q
          rw [Nat.add_zero, e, e', ← q]
          rfl
        · rw [List.length_singleton, Nat.add_sub_cancel]
          exact h'.one
    · rw [wd_two h1 h2 (by omega) (by omega)] at hf ⊢
      obtain ⟨f, rfl⟩ : ∃ g, f = g + 1 := ⟨f - 1, by simp at hf; omega⟩
      simp only [List.length_append, List.length_singleton] at hf
      obtain ⟨nA, eA, lA, wA, vA⟩ := ih (N k).a.toNat (by omega) (by omega) f (wd N (N k).b.toNat ++ rest) base (by omega)
      obtain ⟨nB, eB, lB, wB, vB⟩ := ih (N k).b.toNat (by omega) (by omega) f rest (base + nA.length) (by omega)
      have r1 := rdL_more (rdL_zero (rdN f) (wd N (N k).a.toNat ++ (wd N (N k).b.toNat ++ rest)) base) eA
      have r2 := rdL_more r1 (by simpa using eB)
      simp only [List.length_nil, Nat.add_zero, List.nil_append, List.singleton_append] at r2
      have ho : opN (N k).k = 2 := by rw [opN, if_neg (by omega)]
      refine ⟨nA ++ nB ++ [⟨(N k).k, ((base + nA.length : Nat) : Int) - 1, ((base + nA.length + nB.length : Nat) : Int) - 1, 0, 0, 0⟩], ?_, by simp; omega, ?_, ?_⟩
      · rw [show [nameL (N k).k] ++ wd N (N k).a.toNat ++ wd N (N k).b.toNat ++ rest = nameL (N k).k :: (wd N (N k).a.toNat ++ (wd N (N k).b.toNat ++ rest)) by simp, rdN, cls_name h1 (by omega)]
        simp only [ho, r2]
        rfl
      · intro N' h
        have e := h.right.one
        have hA := wA N' h.left.left
        have hB := wB N' h.left.right
        simp only [List.length_append] at e
        have k0 : (N' (base + (nA.length + nB.length))).k = (N k).k := by rw [e]
        have ka : (N' (base + (nA.length + nB.length))).a.toNat = base + nA.length - 1 := by rw [e]; exact last_nat lA
        have kb : (N' (base + (nA.length + nB.length))).b.toNat = base + nA.length + nB.length - 1 := by rw [e]; exact last_nat lB
        simp only [List.length_append, List.length_singleton]
        rw [show base + (nA.length + nB.length + 1) - 1 = base + (nA.length + nB.length) by omega, wd_two (by omega) (by omega) (by omega) (by omega), k0, ka, kb, hA, hB]
        exact (wd_two h1 h2 (by omega) (by omega)).symm
      · intro V K hK
        obtain ⟨xA, qA, fA⟩ := vA V K hK
        obtain ⟨xB, qB, fB⟩ := vB V K hK
        refine ⟨xA ++ xB ++ [K k], by simp [qA, qB], fun N' K' h h' => ?_⟩
        obtain ⟨jA, zA⟩ := fA N' K' h.left.left h'.left.left
        obtain ⟨jB, zB⟩ := fB N' K' h.left.right (by have := h'.left.right; rw [qA] at this; exact this)
        have e := h.right.one
        have e' := h'.right.one
        simp only [List.length_append, qA, qB] at e e'
        have hv : nodeV (N' (base + (nA.length + nB.length))) K' V = nodeV (N k) K V := by
          rw [e]
          refine nodeV_ops rfl h1 (by omega) ?_ ?_ (fun h9 => by omega)
          · show K' (((base + nA.length : Nat) : Int) - 1).toNat = _
            rw [last_nat lA]; exact zA
          · show K' (((base + nA.length + nB.length : Nat) : Int) - 1).toNat = _
            rw [last_nat lB]; exact zB
        refine ⟨fun j hj => ?_, ?_⟩
        · simp only [List.length_append, List.length_singleton] at hj
          by_cases h1 : j < nA.length
          · exact jA j h1
          · by_cases h2 : j < nA.length + nB.length
            · have := jB (j - nA.length) (by omega)
              rw [show base + nA.length + (j - nA.length) = base + j by omega] at this
              exact this
            · have hj : j = nA.length + nB.length := by omega
              subst hj
              rw [hv, e']
              exact hK k hk
        · simp only [List.length_append, List.length_singleton]
          rw [show base + (nA.length + nB.length + 1) - 1 = base + (nA.length + nB.length) by omega]
          exact e'
    · rw [wd_pick h1 (by omega) (by omega) (by omega)] at hf ⊢
      obtain ⟨f, rfl⟩ : ∃ g, f = g + 1 := ⟨f - 1, by simp at hf; omega⟩
      simp only [List.length_append, List.length_singleton] at hf
      obtain ⟨nA, eA, lA, wA, vA⟩ := ih (N k).a.toNat (by omega) (by omega) f (wd N (N k).b.toNat ++ (wd N (N k).c.toNat ++ rest)) base (by omega)
      obtain ⟨nB, eB, lB, wB, vB⟩ := ih (N k).b.toNat (by omega) (by omega) f (wd N (N k).c.toNat ++ rest) (base + nA.length) (by omega)
      obtain ⟨nC, eC, lC, wC, vC⟩ := ih (N k).c.toNat (by omega) (by omega) f rest (base + nA.length + nB.length) (by omega)
      have r1 := rdL_more (rdL_zero (rdN f) (wd N (N k).a.toNat ++ (wd N (N k).b.toNat ++ (wd N (N k).c.toNat ++ rest))) base) eA
      have r2 := rdL_more r1 (by simpa using eB)
      have r3 := rdL_more r2 (by simpa [Nat.add_assoc] using eC)
      simp only [List.length_nil, Nat.add_zero, List.nil_append, List.length_append, List.cons_append] at r3
      have ho : opN (N k).k = 3 := by rw [opN, if_pos h1]
      refine ⟨nA ++ nB ++ nC ++ [⟨(N k).k, ((base + nA.length : Nat) : Int) - 1, ((base + nA.length + nB.length : Nat) : Int) - 1, ((base + nA.length + nB.length + nC.length : Nat) : Int) - 1, 0, 0⟩], ?_, by simp; omega, ?_, ?_⟩
      · rw [show [nameL (N k).k] ++ wd N (N k).a.toNat ++ wd N (N k).b.toNat ++ wd N (N k).c.toNat ++ rest = nameL (N k).k :: (wd N (N k).a.toNat ++ (wd N (N k).b.toNat ++ (wd N (N k).c.toNat ++ rest))) by simp, rdN, cls_name (by omega) (by omega)]
        simp only [ho, r3]
        simp [Nat.add_assoc]
      · intro N' h
        have e := h.right.one
        have hA := wA N' h.left.left.left
        have hB := wB N' h.left.left.right
        have hC := wC N' (by have := h.left.right; rw [List.length_append, ← Nat.add_assoc] at this; exact this)
        simp only [List.length_append] at e
        have k0 : (N' (base + (nA.length + nB.length + nC.length))).k = (N k).k := by rw [e]
        have ka : (N' (base + (nA.length + nB.length + nC.length))).a.toNat = base + nA.length - 1 := by rw [e]; exact last_nat lA
        have kb : (N' (base + (nA.length + nB.length + nC.length))).b.toNat = base + nA.length + nB.length - 1 := by rw [e]; exact last_nat lB
        have kc : (N' (base + (nA.length + nB.length + nC.length))).c.toNat = base + nA.length + nB.length + nC.length - 1 := by rw [e]; exact last_nat lC
        simp only [List.length_append, List.length_singleton]
        rw [show base + (nA.length + nB.length + nC.length + 1) - 1 = base + (nA.length + nB.length + nC.length) by omega, wd_pick (by omega) (by omega) (by omega) (by omega), k0, ka, kb, kc, hA, hB, hC]
        exact (wd_pick h1 (by omega) (by omega) (by omega)).symm
      · intro V K hK
        obtain ⟨xA, qA, fA⟩ := vA V K hK
        obtain ⟨xB, qB, fB⟩ := vB V K hK
        obtain ⟨xC, qC, fC⟩ := vC V K hK
        refine ⟨xA ++ xB ++ xC ++ [K k], by simp [qA, qB, qC], fun N' K' h h' => ?_⟩
        obtain ⟨jA, zA⟩ := fA N' K' h.left.left.left h'.left.left.left
        obtain ⟨jB, zB⟩ := fB N' K' h.left.left.right (by have := h'.left.left.right; rw [qA] at this; exact this)
        obtain ⟨jC, zC⟩ := fC N' K' (by have := h.left.right; rw [List.length_append, ← Nat.add_assoc] at this; exact this) (by have := h'.left.right; rw [List.length_append, qA, qB, ← Nat.add_assoc] at this; exact this)
        have e := h.right.one
        have e' := h'.right.one
        simp only [List.length_append, qA, qB, qC] at e e'
        have hv : nodeV (N' (base + (nA.length + nB.length + nC.length))) K' V = nodeV (N k) K V := by
          rw [e]
          refine nodeV_ops rfl (by omega) (by omega) ?_ ?_ (fun h9 => ?_)
          · show K' (((base + nA.length : Nat) : Int) - 1).toNat = _
            rw [last_nat lA]; exact zA
          · show K' (((base + nA.length + nB.length : Nat) : Int) - 1).toNat = _
            rw [last_nat lB]; exact zB
          · show K' (((base + nA.length + nB.length + nC.length : Nat) : Int) - 1).toNat = _
            rw [last_nat lC]; exact zC
        refine ⟨fun j hj => ?_, ?_⟩
        · simp only [List.length_append, List.length_singleton] at hj
          by_cases h1 : j < nA.length
          · exact jA j h1
          · by_cases h2 : j < nA.length + nB.length
            · have := jB (j - nA.length) (by omega)
              rw [show base + nA.length + (j - nA.length) = base + j by omega] at this
              exact this
            · by_cases h3 : j < nA.length + nB.length + nC.length
              · have := jC (j - (nA.length + nB.length)) (by omega)
                rw [show base + nA.length + nB.length + (j - (nA.length + nB.length)) = base + j by omega] at this
                exact this
              · have hj : j = nA.length + nB.length + nC.length := by omega
                subst hj
                rw [hv, e']
                exact hK k hk
        · simp only [List.length_append, List.length_singleton]
          rw [show base + (nA.length + nB.length + nC.length + 1) - 1 = base + (nA.length + nB.length + nC.length) by omega]
          exact e'
theorem evF_mk {N : Nat → No} {V K : Nat → Fr} : ∀ {n : Nat}, (∀ i, i < n → nodeB (N i) (i : Int) = true) → (∀ i, i < n → nodeV (N i) K V = some (K i)) → ∃ K2, evF N V n = some K2 ∧ ∀ i, i < n → K2 i = K i
  | 0, _, _ => ⟨fun _ => (0, 0), rfl, fun i hi => by omega⟩
  | n + 1, hN, h => by
    obtain ⟨K2, e, hk⟩ := evF_mk (n := n) (fun i hi => hN i (by omega)) (fun i hi => h i (by omega))
    have q : nodeV (N n) K2 V = some (K n) := by rw [nodeV_congr (hN n (by omega)) hk]; exact h n (by omega)
    refine ⟨updK K2 n (K n), by rw [evF_succ e, q]; rfl, fun i hi => ?_⟩
    by_cases e2 : i = n
    · subst e2; rw [updK_same]
    · rw [updK_lt _ _ (show i < n by omega)]; exact hk i (by omega)
/-- The nodes of a list, as a function. -/
abbrev noL (ns : List No) (i : Nat) : No := ns.getD i No.zero
theorem holds_noL (ns : List No) : holds (noL ns) 0 ns := fun i x hx => by
  show ns.getD (0 + i) No.zero = x
  rw [Nat.zero_add, List.getD_eq_getElem?_getD, hx]
  rfl
/-- What is read of words: a good formula of as many nodes, none more than the words. -/
theorem pfm_good {ws : List (List UInt8)} {ns : List No} (h : pfm ws = some ns) : ns.length = ws.length ∧ nodesOk (noL ns) ns.length ∧ 1 ≤ ns.length := by
  rw [pfm] at h
  cases e : rdN ws.length ws 0 with
  | none => rw [e] at h; cases h
  | some q =>
    obtain ⟨n0, r⟩ := q
    rw [e] at h
    cases r with
    | cons _ _ => cases h
    | nil =>
      injection h with h
      subst h
      obtain ⟨⟨-, g2, g3⟩, g4⟩ := rdN_good _ _ _ _ _ e
      refine ⟨by simpa using g2, fun i hi => ?_, g4⟩
      have := g3 i (n0[i]) (List.getElem?_eq_getElem hi)
      rw [Nat.zero_add] at this
      rw [show noL n0 i = n0[i] by rw [noL, List.getD_eq_getElem?_getD, List.getElem?_eq_getElem hi]; rfl]
      exact this
theorem pfm_formB {ws : List (List UInt8)} {ns : List No} (h : pfm ws = some ns) (h24 : ws.length ≤ 30) : formB ns.length (noL ns) = true := by
  obtain ⟨h1, h2, h3⟩ := pfm_good h
  rw [formB, allUp_mk (P := fun i => nodeB (noL ns i) (i : Int)) h2, Bool.true_and, inB_iff]
  omega
/-- A formula out of its text: as many nodes as words, the same words, the same value. -/
theorem text_back {N : Nat → No} {n : Nat} (hf : formB n N = true) (h24 : (wd N (n - 1)).length ≤ 24) : ∃ ns, pfm (wd N (n - 1)) = some ns ∧ ns.length = (wd N (n - 1)).length ∧ formB ns.length (noL ns) = true ∧ wd (noL ns) (ns.length - 1) = wd N (n - 1) ∧ ∀ m V x, evOne n m N V = some x → evOne ns.length m (noL ns) V = some x := by
  have hl := formB_len hf
  have hN := formB_at hf
  obtain ⟨ns, e, l1, hw, hv⟩ := rdN_wd hN (n - 1) (by omega) (wd N (n - 1)).length [] 0 (Nat.le_refl _)
  rw [List.append_nil] at e
  have hp : pfm (wd N (n - 1)) = some ns := by rw [pfm, e]
  have hg := pfm_formB hp (by omega)
  have hw' := hw _ (holds_noL ns)
  rw [Nat.zero_add] at hw'
  refine ⟨ns, hp, (pfm_good hp).1, hg, hw', fun m V x hx => ?_⟩
  rw [evOne, evAll, hf, Bool.true_and] at hx
  rw [evOne, evAll, hg, Bool.true_and]
  split at hx
  · rename_i hvb
    rw [if_pos hvb]
    cases e1 : evF N V n with
    | none => rw [e1] at hx; cases hx
    | some K =>
      rw [e1] at hx
      injection hx with hx
      have hK := evF_node hN e1
      obtain ⟨vs, q, hvs⟩ := hv V K hK
      obtain ⟨j1, z1⟩ := hvs (noL ns) (fun i => vs.getD i (0, 0)) (holds_noL ns) (fun i x hx => by
        show vs.getD (0 + i) (0, 0) = x
        rw [Nat.zero_add, List.getD_eq_getElem?_getD, hx]; rfl)
      obtain ⟨K2, e2, hk2⟩ := evF_mk (K := fun i => vs.getD i (0, 0)) (formB_at hg) (fun i hi => by have := j1 i hi; rw [Nat.zero_add] at this; exact this)
      rw [e2]
      rw [Nat.zero_add] at z1
      show some (K2 (ns.length - 1)) = some x
      rw [hk2 _ (by omega), z1, ← hx]
  · cases hx
end Go.Proofs.YtanpmbiblibgfaaGreatDoor
