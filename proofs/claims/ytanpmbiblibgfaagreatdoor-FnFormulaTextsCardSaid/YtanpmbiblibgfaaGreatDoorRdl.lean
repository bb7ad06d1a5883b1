/- Reading a formula from words. No program's function in sight. -/
import Derived.Test.YtanpmbiblibgfaaGreatDoorWds
import Derived.Test.YtanpmbiblibgfaaGreatDoorFormOk
namespace Go.Proofs.YtanpmbiblibgfaaGreatDoor
open Go.RowKit Go.Lib
set_option linter.unusedVariables false

/-- A word's kind: 3 .. 9, or 0. -/
def kindW (w : List UInt8) : Int := if w = nameL 3 then 3 else if w = nameL 4 then 4 else if w = nameL 5 then 5 else if w = nameL 6 then 6 else if w = nameL 7 then 7 else if w = nameL 8 then 8 else if w = nameL 9 then 9 else 0
/-- A variable's word. -/
def varW (w : List UInt8) : Bool := w.length == 2 && (w.getD 0 0 == 118 && (decide (48 ≤ (w.getD 1 0).toNat) && decide ((w.getD 1 0).toNat ≤ 55)))
inductive Cl where
  | frac (x : Fr) : Cl
  | var (d : Int) : Cl
  | op (k : Int) : Cl
  | bad : Cl
def cls (w : List UInt8) : Cl := match pfI w with
  | some x => .frac x
  | none => if varW w = true then .var (((w.getD 1 0).toNat : Int) - 48) else if kindW w ≠ 0 then .op (kindW w) else .bad
theorem kindW_bd (w : List UInt8) : kindW w = 0 ∨ 3 ≤ kindW w ∧ kindW w ≤ 9 := by
  unfold kindW
  repeat (split <;> try omega)
theorem kindW_name {k : Int} (h3 : 3 ≤ k) (h9 : k ≤ 9) : kindW (nameL k) = k := by
  rcases (show k = 3 ∨ k = 4 ∨ k = 5 ∨ k = 6 ∨ k = 7 ∨ k = 8 ∨ k = 9 by omega) with rfl | rfl | rfl | rfl | rfl | rfl | rfl <;> decide
theorem kindW_is {w : List UInt8} (h : kindW w ≠ 0) : w = nameL (kindW w) := by
  unfold kindW at h ⊢
  repeat (split <;> try assumption)
  simp_all
theorem kindW_iff {w : List UInt8} {k : Int} (h3 : 3 ≤ k) (h9 : k ≤ 9) : nameL k = w ↔ kindW w = k := by
  constructor
  · rintro rfl
    exact kindW_name h3 h9
  · rintro rfl
    exact (kindW_is (by omega)).symm
/-- A fraction's text begins with a digit, or with a sign and goes on. -/
theorem fmt_head {x : Fr} (h : fracOkL x = true) : ∃ c r, fmtL x = c :: r ∧ (c.toNat = 45 ∧ r ≠ [] ∨ 48 ≤ c.toNat ∧ c.toNat ≤ 57) := by
  have key : ∃ c r, itoa x.1 = c :: r ∧ (c.toNat = 45 ∧ r ≠ [] ∨ 48 ≤ c.toNat ∧ c.toNat ≤ 57) := by
    by_cases h0 : x.1 < 0
    · rw [itoa_minus h0]
      exact ⟨45, _, rfl, .inl ⟨rfl, dec_ne _⟩⟩
    · rw [itoa_pos h0]
      have hd := dec_digit x.1.toNat
      have hn := dec_ne x.1.toNat
      cases e : decDigits x.1.toNat with
      | nil => exact absurd e hn
      | cons c r => exact ⟨c, r, rfl, .inr (hd c (by rw [e]; exact List.mem_cons_self))⟩
  obtain ⟨c, r, e, hc⟩ := key
  rw [fmtL, if_pos h]
  split
  · exact ⟨c, r, e, hc⟩
  · rw [e]
    refine ⟨c, _, rfl, ?_⟩
    rcases hc with ⟨h1, h2⟩ | h1
    · exact .inl ⟨h1, by simp⟩
    · exact .inr h1
theorem pfI_none {w : List UInt8} (h : ∀ c r, w = c :: r → ¬ (c.toNat = 45 ∧ r ≠ [] ∨ 48 ≤ c.toNat ∧ c.toNat ≤ 57)) : pfI w = none := by
  cases e : pfI w with
  | none => rfl
  | some x =>
    exfalso
    obtain ⟨h1, h2⟩ := pfI_iff.1 e
    obtain ⟨c, r, h3, h4⟩ := fmt_head h1
    exact h c r (h2.symm.trans h3) h4
theorem pfI_name {k : Int} (h3 : 3 ≤ k) (h9 : k ≤ 9) : pfI (nameL k) = none := by
  refine pfI_none fun c r e => ?_
  rcases (show k = 3 ∨ k = 4 ∨ k = 5 ∨ k = 6 ∨ k = 7 ∨ k = 8 ∨ k = 9 by omega) with rfl | rfl | rfl | rfl | rfl | rfl | rfl
  all_goals
    first
      | (change [43] = _ at e; injection e with e1 e2; subst e1 e2; decide)
      | (change [45] = _ at e; injection e with e1 e2; subst e1 e2; decide)
      | (change [42] = _ at e; injection e with e1 e2; subst e1 e2; decide)
      | (change [47] = _ at e; injection e with e1 e2; subst e1 e2; decide)
      | (change [109, 105, 110] = _ at e; injection e with e1 e2; subst e1 e2; decide)
      | (change [109, 97, 120] = _ at e; injection e with e1 e2; subst e1 e2; decide)
      | (change [112, 105, 99, 107] = _ at e; injection e with e1 e2; subst e1 e2; decide)
theorem pfI_v (r : List UInt8) : pfI (118 :: r) = none := by
  refine pfI_none fun c r' e => ?_
  injection e with e1 e2
  subst e1
  rintro (⟨h, _⟩ | ⟨_, h⟩)
  · revert h; decide
  · revert h; decide
theorem varW_iff {w : List UInt8} : varW w = true ↔ ∃ d : Nat, d ≤ 7 ∧ w = [118, UInt8.ofNat (48 + d)] := by
  constructor
  · intro h
    simp only [varW, Bool.and_eq_true, beq_iff_eq, decide_eq_true_eq] at h
    obtain ⟨h1, h2, h3, h4⟩ := h
    match w, h1 with
    | [x, y], _ =>
      simp at h2 h3 h4
      refine ⟨y.toNat - 48, by omega, ?_⟩
      rw [show 48 + (y.toNat - 48) = y.toNat by omega, UInt8.ofNat_toNat, h2]
  · rintro ⟨d, hd, rfl⟩
    have := ofNat48 (d := d) (by omega)
    simp only [varW, Bool.and_eq_true, beq_iff_eq, decide_eq_true_eq]
    refine ⟨rfl, rfl, ?_, ?_⟩
    · show 48 ≤ (UInt8.ofNat (48 + d)).toNat
      omega
    · show (UInt8.ofNat (48 + d)).toNat ≤ 55
      omega
theorem varW_v {w : List UInt8} (h : varW w = true) : ∃ r, w = 118 :: r := by
  obtain ⟨d, _, rfl⟩ := varW_iff.1 h
  exact ⟨_, rfl⟩
theorem kindW_v (r : List UInt8) : kindW (118 :: r) = 0 := by
  rcases kindW_bd (118 :: r) with h | h
  · exact h
  · exfalso
    have e := kindW_is (w := 118 :: r) (by omega)
    rcases (show kindW (118 :: r) = 3 ∨ kindW (118 :: r) = 4 ∨ kindW (118 :: r) = 5 ∨ kindW (118 :: r) = 6 ∨ kindW (118 :: r) = 7 ∨ kindW (118 :: r) = 8 ∨ kindW (118 :: r) = 9 by omega) with k | k | k | k | k | k | k
    all_goals
      rw [k] at e
      first
        | (change _ = [43] at e; injection e with e1 e2; revert e1; decide)
        | (change _ = [45] at e; injection e with e1 e2; revert e1; decide)
        | (change _ = [42] at e; injection e with e1 e2; revert e1; decide)
        | (change _ = [47] at e; injection e with e1 e2; revert e1; decide)
        | (change _ = [109, 105, 110] at e; injection e with e1 e2; revert e1; decide)
        | (change _ = [109, 97, 120] at e; injection e with e1 e2; revert e1; decide)
        | (change _ = [112, 105, 99, 107] at e; injection e with e1 e2; revert e1; decide)
/-- The program's order of the looks. -/
theorem cls_op {w : List UInt8} (h : kindW w ≠ 0) : cls w = .op (kindW w) := by
  have hb := kindW_bd w
  have e := kindW_is h
  have h1 : pfI w = none := by rw [e]; exact pfI_name (by omega) (by omega)
  have h2 : varW w = false := by
    cases q : varW w with
    | false => rfl
    | true =>
      obtain ⟨r, hr⟩ := varW_v q
      rw [hr] at h
      exact absurd (kindW_v r) h
  rw [cls, h1]
  simp [h2, h]
theorem digit_itoa {d : Nat} (h : d ≤ 7) : itoa (d : Int) = [UInt8.ofNat (48 + d)] := by
  rw [itoa_nonneg, decDigits_one (by omega)]
theorem puL_is {s : List UInt8} {v : Int} (h : puL s = some v) : 0 ≤ v ∧ itoa v = s := by
  unfold puL at h
  split at h
  · split at h
    · split at h
      · injection h with h
        subst h
        rename_i h2
        exact ⟨h2.1.1, h2.2⟩
      · cases h
    · cases h
  · cases h
theorem cls_v (r : List UInt8) : cls (118 :: r) = match puL r with | some v => if v < 8 then .var v else .bad | none => .bad := by
  have hk := kindW_v r
  have hv : ∀ d : Nat, d ≤ 7 → puL r = some (d : Int) → varW (118 :: r) = true ∧ (((118 :: r : List UInt8).getD 1 0).toNat : Int) - 48 = d := fun d hd hp => by
    have h1 := (puL_is hp).2
    rw [digit_itoa hd] at h1
    rw [← h1]
    refine ⟨varW_iff.2 ⟨d, hd, rfl⟩, ?_⟩
    have := ofNat48 (d := d) (by omega)
    show ((UInt8.ofNat (48 + d)).toNat : Int) - 48 = d
    omega
  have hn : varW (118 :: r) = true → ∃ d : Nat, d ≤ 7 ∧ puL r = some (d : Int) := fun h => by
    obtain ⟨d, hd, e⟩ := varW_iff.1 h
    injection e with _ e
    refine ⟨d, hd, ?_⟩
    rw [e, ← digit_itoa hd]
    exact puL_itoa (by omega) (by omega)
  rw [cls, pfI_v]
  simp only [hk, ne_eq, not_true_eq_false, if_false]
  cases e : puL r with
  | none =>
    have : varW (118 :: r) = false := by
      cases q : varW (118 :: r) with
      | false => rfl
      | true =>
        obtain ⟨d, _, h⟩ := hn q
        rw [h] at e
        cases e
    simp [this]
  | some v =>
    have hv0 := (puL_is e).1
    by_cases h8 : v < 8
    · obtain ⟨d, rfl⟩ := Int.eq_ofNat_of_zero_le hv0
      obtain ⟨h1, h2⟩ := hv d (by omega) e
      simp only [h1, if_true]
      rw [h2, if_pos h8]
    · have : varW (118 :: r) = false := by
        cases q : varW (118 :: r) with
        | false => rfl
        | true =>
          obtain ⟨d, hd, h⟩ := hn q
          rw [h] at e
          injection e with e
          omega
      simp [this, h8]
theorem cls_rest {w : List UInt8} (h : kindW w = 0) (hv : ∀ r, w ≠ 118 :: r) : cls w = match pfI w with | some x => .frac x | none => .bad := by
  have : varW w = false := by
    cases q : varW w with
    | false => rfl
    | true =>
      obtain ⟨r, hr⟩ := varW_v q
      exact absurd hr (hv r)
  rw [cls]
  cases pfI w with
  | some x => rfl
  | none => simp [this, h]

/-- m operands, one behind the other; their places. -/
def rdL (R : List (List UInt8) → Nat → Option (List No × List (List UInt8))) (ws : List (List UInt8)) (base : Nat) : Nat → Option (List No × List (List UInt8) × List Int)
  | 0 => some ([], ws, [])
  | m + 1 => match rdL R ws base m with
    | none => none
    | some (ns, r, ps) => match R r (base + ns.length) with
      | none => none
      | some (n1, r1) => some (ns ++ n1, r1, ps ++ [((base + ns.length + n1.length : Nat) : Int) - 1])
def opN (k : Int) : Nat := if k = 9 then 3 else 2
/-- A formula's nodes, the first word's node last; the rest of the words. -/
def rdN : Nat → List (List UInt8) → Nat → Option (List No × List (List UInt8))
  | 0, _, _ => none
  | _ + 1, [], _ => none
  | f + 1, w :: ws, base => match cls w with
    | .frac x => some ([⟨1, 0, 0, 0, x.1, x.2⟩], ws)
    | .var d => some ([⟨2, d, 0, 0, 0, 0⟩], ws)
    | .bad => none
    | .op k => match rdL (rdN f) ws base (opN k) with
      | none => none
      | some (ns, r, ps) => some (ns ++ [⟨k, ps.getD 0 0, ps.getD 1 0, ps.getD 2 0, 0, 0⟩], r)
theorem rdL_zero (R : List (List UInt8) → Nat → Option (List No × List (List UInt8))) (ws : List (List UInt8)) (base : Nat) : rdL R ws base 0 = some ([], ws, []) := rfl
theorem rdL_more {R : List (List UInt8) → Nat → Option (List No × List (List UInt8))} {ws : List (List UInt8)} {base m : Nat} {ns n1 : List No} {r r1 : List (List UInt8)} {ps : List Int} (h : rdL R ws base m = some (ns, r, ps)) (h1 : R r (base + ns.length) = some (n1, r1)) : rdL R ws base (m + 1) = some (ns ++ n1, r1, ps ++ [((base + ns.length + n1.length : Nat) : Int) - 1]) := by
  rw [rdL, h]
  simp only [h1]
theorem rdL_stop {R : List (List UInt8) → Nat → Option (List No × List (List UInt8))} {ws : List (List UInt8)} {base m : Nat} {ns : List No} {r : List (List UInt8)} {ps : List Int} (h : rdL R ws base m = some (ns, r, ps)) (h1 : R r (base + ns.length) = none) : ∀ j, m < j → rdL R ws base j = none
  | 0, hj => by omega
  | j + 1, hj => by
    by_cases e : m < j
    · rw [rdL, rdL_stop h h1 j e]
    · have e2 : m = j := by omega
      subst e2
      rw [rdL, h]
      simp only [h1]
/-- What a reading leaves: one node a word, good in their places. -/
def good (ws : List (List UInt8)) (base : Nat) (ns : List No) (r : List (List UInt8)) : Prop := r <:+ ws ∧ ns.length + r.length = ws.length ∧ ∀ (i : Nat) (s : No), ns[i]? = some s → nodeB s ((base + i : Nat) : Int) = true
theorem rdL_good {R : List (List UInt8) → Nat → Option (List No × List (List UInt8))} (hR : ∀ ws base ns r, R ws base = some (ns, r) → good ws base ns r ∧ 1 ≤ ns.length) {ws : List (List UInt8)} {base : Nat} : ∀ {m : Nat} {ns : List No} {r : List (List UInt8)} {ps : List Int}, rdL R ws base m = some (ns, r, ps) → good ws base ns r ∧ ps.length = m ∧ ∀ (j : Nat) (p : Int), ps[j]? = some p → 0 ≤ p ∧ p < ((base + ns.length : Nat) : Int)
  | 0, ns, r, ps, h => by
    rw [rdL] at h
    injection h with h
    injection h with h1 h
    injection h with h2 h3
    subst h1 h2 h3
    exact ⟨⟨List.suffix_refl _, by simp, fun i s hs => by simp at hs⟩, rfl, fun j p hp => by simp at hp⟩
  | m + 1, ns, r, ps, h => by
    rw [rdL] at h
    cases e : rdL R ws base m with
    | none => rw [e] at h; cases h
    | some q =>
      obtain ⟨ns0, r0, ps0⟩ := q
      rw [e] at h
      simp only at h
      cases e1 : R r0 (base + ns0.length) with
      | none => rw [e1] at h; cases h
      | some q1 =>
        obtain ⟨n1, r1⟩ := q1
        rw [e1] at h
        injection h with h
        injection h with h1 h
        injection h with h2 h3
        subst h1 h2 h3
        obtain ⟨⟨g1, g2, g3⟩, g4, g5⟩ := rdL_good hR e
        obtain ⟨⟨k1, k2, k3⟩, k4⟩ := hR _ _ _ _ e1
        refine ⟨⟨k1.trans g1, by rw [List.length_append]; omega, fun i s hs => ?_⟩, by simp [g4], fun j p hp => ?_⟩
        · by_cases hi : i < ns0.length
          · rw [List.getElem?_append_left hi] at hs
            exact g3 i s hs
          · rw [List.getElem?_append_right (by omega)] at hs
            have := k3 _ s hs
            rw [show base + ns0.length + (i - ns0.length) = base + i by omega] at this
            exact this
        · rw [List.length_append]
          by_cases hj : j < ps0.length
          · rw [List.getElem?_append_left hj] at hp
            have := g5 j p hp
            omega
          · rw [List.getElem?_append_right (by omega)] at hp
            have hj0 : j - ps0.length = 0 := by
              rcases Nat.eq_zero_or_pos (j - ps0.length) with h | h
              · exact h
              · rw [List.getElem?_eq_none (by simp; omega)] at hp
                cases hp
            rw [hj0] at hp
            simp at hp
            omega
theorem cls_frac {w : List UInt8} {x : Fr} (h : cls w = .frac x) : fracOkL x = true := by
  rw [cls] at h
  cases e : pfI w with
  | some y =>
    rw [e] at h
    injection h with h
    subst h
    exact (pfI_iff.1 e).1
  | none =>
    rw [e] at h
    simp only at h
    split at h
    · cases h
    · split at h <;> cases h
theorem cls_var {w : List UInt8} {d : Int} (h : cls w = .var d) : 0 ≤ d ∧ d ≤ 7 := by
  rw [cls] at h
  cases e : pfI w with
  | some y => rw [e] at h; cases h
  | none =>
    rw [e] at h
    simp only at h
    split at h
    · injection h with h
      rename_i hv
      simp only [varW, Bool.and_eq_true, beq_iff_eq, decide_eq_true_eq] at hv
      omega
    · split at h <;> cases h
theorem cls_kind {w : List UInt8} {k : Int} (h : cls w = .op k) : kindW w = k ∧ 3 ≤ k ∧ k ≤ 9 := by
  rw [cls] at h
  cases e : pfI w with
  | some y => rw [e] at h; cases h
  | none =>
    rw [e] at h
    simp only at h
    split at h
    · cases h
    · split at h
      · injection h with h
        have := kindW_bd w
        omega
      · cases h
theorem rdN_good : ∀ (f : Nat) (ws : List (List UInt8)) (base : Nat) (ns : List No) (r : List (List UInt8)), rdN f ws base = some (ns, r) → good ws base ns r ∧ 1 ≤ ns.length
  | 0, _, _, _, _, h => by cases h
  | _ + 1, [], _, _, _, h => by cases h
  | f + 1, w :: ws, base, ns, r, h => by
    rw [rdN] at h
    cases e : cls w with
    | bad => rw [e] at h; cases h
    | frac x =>
      rw [e] at h
      injection h with h
      injection h with h1 h2
      subst h1 h2
      refine ⟨⟨List.suffix_cons _ _, by simp; omega, fun i s hs => ?_⟩, by simp⟩
      match i, hs with
      | 0, hs =>
        injection hs with hs
        subst hs
        simp [nodeB, cls_frac e]
    | var d =>
      rw [e] at h
      injection h with h
      injection h with h1 h2
      subst h1 h2
      refine ⟨⟨List.suffix_cons _ _, by simp; omega, fun i s hs => ?_⟩, by simp⟩
      match i, hs with
      | 0, hs =>
        injection hs with hs
        subst hs
        have := cls_var e
        simp [nodeB, inB_iff]
        omega
    | op k =>
      rw [e] at h
      simp only at h
      cases e1 : rdL (rdN f) ws base (opN k) with
      | none => rw [e1] at h; cases h
      | some q =>
        obtain ⟨ns0, r0, ps⟩ := q
        rw [e1] at h
        injection h with h
        injection h with h1 h2
        subst h1 h2
        obtain ⟨⟨g1, g2, g3⟩, g4, g5⟩ := rdL_good (rdN_good f) e1
        obtain ⟨-, hk3, hk9⟩ := cls_kind e
        refine ⟨⟨g1.trans (List.suffix_cons _ _), by simp; omega, fun i s hs => ?_⟩, by simp⟩
        by_cases hi : i < ns0.length
        · rw [List.getElem?_append_left hi] at hs
          exact g3 i s hs
        · rw [List.getElem?_append_right (by omega)] at hs
          have hi0 : i = ns0.length := by
            rcases Nat.lt_or_ge ns0.length i with h | h
            · rw [List.getElem?_eq_none (by simp; omega)] at hs
              cases hs
            · omega
          subst hi0
          rw [Nat.sub_self] at hs
          injection hs with hs
          subst hs
          have hp : ∀ j, j < opN k → 0 ≤ ps.getD j 0 ∧ ps.getD j 0 < ((base + ns0.length : Nat) : Int) := fun j hj => by
            have hl : j < ps.length := by omega
            have := g5 j (ps[j]) (List.getElem?_eq_getElem hl)
            rw [List.getD_eq_getElem?_getD, List.getElem?_eq_getElem hl]
            exact this
          by_cases h9 : k = 9
          · subst h9
            have p0 := hp 0 (by decide)
            have p1 := hp 1 (by decide)
            have p2 := hp 2 (by decide)
            generalize ps.getD 0 0 = a at p0 ⊢
            generalize ps.getD 1 0 = b at p1 ⊢
            generalize ps.getD 2 0 = c at p2 ⊢
            simp [nodeB, atB]
            omega
          · have ho : opN k = 2 := by rw [opN, if_neg h9]
            rw [ho] at hp g4
            have p0 := hp 0 (by omega)
            have p1 := hp 1 (by omega)
            have p2 : ps.getD 2 0 = 0 := by rw [List.getD_eq_getElem?_getD, List.getElem?_eq_none (by omega)]; rfl
            have n1 : ¬ k = 1 := by omega
            have n2 : ¬ k = 2 := by omega
            have n3 : 3 ≤ k ∧ k ≤ 8 := by omega
            generalize ps.getD 0 0 = a at p0 ⊢
            generalize ps.getD 1 0 = b at p1 ⊢
            generalize ps.getD 2 0 = c at p2 ⊢
            simp [nodeB, atB, n1, n2, n3]
            omega
/-- What ParseFormula answers over the words. -/
def pfm (ws : List (List UInt8)) : Option (List No) := match rdN ws.length ws 0 with
  | some (ns, []) => some ns
  | _ => none
end Go.Proofs.YtanpmbiblibgfaaGreatDoor
