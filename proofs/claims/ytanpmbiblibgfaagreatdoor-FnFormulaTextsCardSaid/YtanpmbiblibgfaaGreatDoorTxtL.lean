/- Fractions as texts, and what is read out of a text. No program in sight. -/
import Derived.Test.YtanpmbiblibgfaaGreatDoorGa
import Derived.Lib.ItoaMem
import Derived.Lib.AtoiTie
import Derived.Lib.IndexMore
import Derived.Lib.IndexBytes
namespace Go.Proofs.YtanpmbiblibgfaaGreatDoor
open Go.Lib

theorem decFrom_app : ∀ (l r : List UInt8) (a : Nat), decFrom a (l ++ r) = (decFrom a l).bind fun n => decFrom n r
  | [], r, a => rfl
  | c :: l, r, a => by
    rw [List.cons_append, decFrom, decFrom]
    cases digitVal c with
    | none => rfl
    | some d => exact decFrom_app l r _
theorem ofNat48 {d : Nat} (h : d < 10) : (UInt8.ofNat (48 + d)).toNat = 48 + d := by
  rw [UInt8.toNat_ofNat']
  exact Nat.mod_eq_of_lt (by omega)
theorem digit_ofNat {d : Nat} (h : d < 10) : digitVal (UInt8.ofNat (48 + d)) = some d := by
  unfold digitVal
  rw [ofNat48 h, if_pos (by omega)]
  congr 1
  omega
theorem decFrom_dec (u : Nat) : decFrom 0 (decDigits u) = some u := by
  induction u using Nat.strongRecOn with
  | ind u ih =>
    by_cases h : u < 10
    · rw [decDigits, dif_pos h, decFrom, digit_ofNat h]
      simp [decFrom]
    · rw [decDigits, dif_neg h, decFrom_app, ih _ (by omega)]
      simp only [Option.bind_some, decFrom, digit_ofNat (Nat.mod_lt u (show 10 > 0 by omega))]
      congr 1
      omega
theorem dec_ne (u : Nat) : decDigits u ≠ [] := by
  intro e
  have h1 := decDigits_length u
  have h2 := nDigits_pos u
  rw [e] at h1
  simp at h1
  omega
theorem dec_digit (u : Nat) : ∀ b ∈ decDigits u, 48 ≤ b.toNat ∧ b.toNat ≤ 57 := by
  intro b hb
  obtain ⟨k, hk⟩ := List.getElem?_of_mem hb
  obtain ⟨d, hd⟩ := digit_of_decFrom _ _ _ (decFrom_dec u) k b hk
  have := digitVal_eq hd
  omega
theorem nDigits_le : ∀ (k u : Nat), u < 10 ^ (k + 1) → nDigits u ≤ k + 1
  | 0, u, h => by rw [nDigits_small (by simpa using h)]; omega
  | k + 1, u, h => by
    by_cases h1 : u < 10
    · rw [nDigits_small h1]; omega
    · rw [nDigits_big h1]
      have := nDigits_le k (u / 10) (by rw [Nat.pow_succ] at h; omega)
      omega
theorem dec_len {u : Nat} (h : u ≤ 1000000000000) : (decDigits u).length ≤ 13 := by
  rw [decDigits_length]
  exact nDigits_le 12 u (by omega)
theorem itoa_pos {n : Int} (h : ¬ n < 0) : itoa n = decDigits n.toNat := by rw [itoa, if_neg h]
theorem itoa_minus {n : Int} (h : n < 0) : itoa n = 45 :: decDigits n.natAbs := by rw [itoa, if_pos h]
theorem itoa_ne (n : Int) : itoa n ≠ [] := by
  by_cases h : n < 0
  · rw [itoa_minus h]; exact List.cons_ne_nil _ _
  · rw [itoa_pos h]; exact dec_ne _
theorem itoa_len {n : Int} (h0 : -1000000000000 ≤ n) (h1 : n ≤ 1000000000000) : (itoa n).length ≤ 14 := by
  by_cases h : n < 0
  · rw [itoa_minus h, List.length_cons]
    have := dec_len (u := n.natAbs) (by omega)
    omega
  · rw [itoa_pos h]
    have := dec_len (u := n.toNat) (by omega)
    omega
theorem itoa_byte (n : Int) : ∀ b ∈ itoa n, b.toNat = 45 ∨ 48 ≤ b.toNat ∧ b.toNat ≤ 57 := by
  intro b hb
  by_cases h : n < 0
  · rw [itoa_minus h] at hb
    rcases List.mem_cons.1 hb with rfl | hb
    · exact .inl rfl
    · exact .inr (dec_digit _ b hb)
  · rw [itoa_pos h] at hb
    exact .inr (dec_digit _ b hb)
theorem itoa_slash (n : Int) : ∀ b ∈ itoa n, b ≠ 47 := by
  intro b hb e
  subst e
  have := itoa_byte n _ hb
  simp at this
theorem decNat_dec (u : Nat) : decNat (decDigits u) = some u := by
  rw [decNat, decFrom_dec]
  have := dec_ne u
  cases h : decDigits u with
  | nil => exact absurd h this
  | cons b r => rfl
theorem atoi_itoa (n : Int) : atoi (itoa n) = some n := by
  by_cases h : n < 0
  · rw [itoa_minus h, atoi]
    simp only [beq_self_eq_true, if_true, decNat_dec, Option.map_some]
    congr 1
    omega
  · rw [itoa_pos h]
    have hd := dec_digit n.toNat
    have hn := decNat_dec n.toNat
    cases e : decDigits n.toNat with
    | nil => exact absurd e (dec_ne _)
    | cons b r =>
      rw [e] at hd hn
      have hb := hd b (List.mem_cons_self ..)
      have h1 : (b == 45) = false := by rw [beq_eq_false_iff_ne]; intro e; subst e; simp at hb
      have h2 : (b == 43) = false := by rw [beq_eq_false_iff_ne]; intro e; subst e; simp at hb
      rw [atoi, h1, h2, hn]
      simp only [Bool.false_eq_true, if_false, Option.map_some]
      congr 1
      omega
theorem atoiAll_itoa {n : Int} (h0 : -1000000000000 ≤ n) (h1 : n ≤ 1000000000000) : atoiAll (itoa n) = .ok n := by
  have := itoa_len h0 h1
  rw [atoiAll_short _ (by omega), atoi_itoa]
  rfl
theorem indexByte_none : ∀ {l : List UInt8} {c : UInt8}, (∀ b ∈ l, b ≠ c) → indexByte l c = -1
  | [], _, _ => rfl
  | b :: l, c, h => by
    have hb : (b == c) = false := by rw [beq_eq_false_iff_ne]; exact h b (List.mem_cons_self ..)
    rw [indexByte, hb, indexByte_none fun x hx => h x (List.mem_cons_of_mem _ hx)]
    rfl
theorem indexByte_at : ∀ {l : List UInt8} {c : UInt8} (r : List UInt8), (∀ b ∈ l, b ≠ c) → indexByte (l ++ c :: r) c = l.length
  | [], c, r, _ => by simp [indexByte]
  | b :: l, c, r, h => by
    have hb : (b == c) = false := by rw [beq_eq_false_iff_ne]; exact h b (List.mem_cons_self ..)
    have ih := indexByte_at r fun x hx => h x (List.mem_cons_of_mem _ hx)
    rw [List.cons_append, indexByte, hb, ih]
    have hne : ((l.length : Int) == -1) = false := by rw [beq_eq_false_iff_ne]; omega
    rw [hne]
    simp
theorem cut_none {l : List UInt8} (h : ∀ b ∈ l, b ≠ 47) : cut l [47] = (l, [], false) := by
  rw [cut, index_one, indexByte_none h]
  rfl
theorem cut_at {l : List UInt8} (r : List UInt8) (h : ∀ b ∈ l, b ≠ 47) : cut (l ++ 47 :: r) [47] = (l, r, true) := by
  rw [cut, index_one, indexByte_at r h, if_pos (by omega)]
  simp [List.drop_append]

/-- The text of a fraction; none for one that is not valid. -/
def fmtL (a : Fr) : List UInt8 := if fracOkL a = true then (if a.2 = 1 then itoa a.1 else itoa a.1 ++ 47 :: itoa a.2) else []
theorem fmtL_ok {a : Fr} (h : fmtL a ≠ []) : fracOkL a = true := by
  rw [fmtL] at h
  split at h
  · assumption
  · exact absurd rfl h
theorem fmtL_one {a : Fr} (h : fracOkL a = true) (h1 : a.2 = 1) : fmtL a = itoa a.1 := by rw [fmtL, if_pos h, if_pos h1]
theorem fmtL_two {a : Fr} (h : fracOkL a = true) (h1 : a.2 ≠ 1) : fmtL a = itoa a.1 ++ 47 :: itoa a.2 := by rw [fmtL, if_pos h, if_neg h1]
theorem fmtL_bad {a : Fr} (h : fracOkL a = false) : fmtL a = [] := by rw [fmtL, h]; rfl
theorem fmtL_ne {a : Fr} (h : fracOkL a = true) : fmtL a ≠ [] := by
  by_cases h1 : a.2 = 1
  · rw [fmtL_one h h1]; exact itoa_ne _
  · rw [fmtL_two h h1]
    intro e
    exact absurd (List.append_eq_nil_iff.1 e).1 (itoa_ne _)
theorem fmtL_len {a : Fr} (h : fracOkL a = true) : (fmtL a).length ≤ 25 := by
  obtain ⟨⟨h1, h2⟩, ⟨h3, h4⟩, -⟩ := fracOkL_iff.1 h
  have k1 := itoa_len h3 h4
  by_cases e : a.2 = 1
  · rw [fmtL_one h e]; omega
  · rw [fmtL_two h e, List.length_append, List.length_cons, itoa_pos (by omega : ¬ a.2 < 0), decDigits_length]
    have k2 := nDigits_le 6 a.2.toNat (by omega)
    omega
theorem fmtL_len_any (a : Fr) : (fmtL a).length ≤ 25 := by
  cases h : fracOkL a with
  | true => exact fmtL_len h
  | false => rw [fmtL_bad h]; exact Nat.zero_le _
/-- A number of up to ten digits, as the program reads it; 0 for none. -/
def puL (s : List UInt8) : Option Int := if s.length ≤ 10 then (match atoiAll s with | .ok v => if (0 ≤ v ∧ v ≤ 1000000000) ∧ itoa v = s then some v else none | _ => none) else none
theorem puL_itoa {n : Int} (h0 : 0 ≤ n) (h1 : n ≤ 1000000) : puL (itoa n) = some n := by
  have hl : (itoa n).length ≤ 10 := by
    rw [itoa_pos (by omega), decDigits_length]
    have := nDigits_le 6 n.toNat (by omega)
    omega
  rw [puL, if_pos hl, atoiAll_itoa (by omega) (by omega)]
  dsimp only
  rw [if_pos ⟨⟨h0, by omega⟩, rfl⟩]
/-- The denominator that the program reads out of a text. -/
def denI (t : List UInt8) : Int := if (cut t [47]).2.2 = true then (puL (cut t [47]).2.1).getD 0 else 1
/-- A fraction out of a text, as the program reads it. -/
def pfI (t : List UInt8) : Option Fr :=
  match atoiAll (cut t [47]).1 with
  | .ok v => if t ≠ [] ∧ fmtL (v, denI t) = t then some (v, denI t) else none
  | _ => none
theorem pfI_iff {t : List UInt8} {x : Fr} : pfI t = some x ↔ fracOkL x = true ∧ fmtL x = t := by
  constructor
  · intro h
    rw [pfI] at h
    split at h
    · split at h
      · rename_i hh
        injection h with h
        subst h
        exact ⟨fmtL_ok (by rw [hh.2]; exact hh.1), hh.2⟩
      · cases h
    · cases h
  · rintro ⟨ho, rfl⟩
    obtain ⟨⟨h1, h2⟩, ⟨h3, h4⟩, -⟩ := fracOkL_iff.1 ho
    have hne := fmtL_ne ho
    by_cases e : x.2 = 1
    · have hc : cut (fmtL x) [47] = (itoa x.1, [], false) := by rw [fmtL_one ho e]; exact cut_none (itoa_slash _)
      have hx : (x.1, denI (fmtL x)) = x := by rw [denI, hc]; exact Prod.ext rfl e.symm
      rw [pfI, hc]
      dsimp only
      rw [atoiAll_itoa h3 h4]
      dsimp only
      rw [hx, if_pos ⟨hne, rfl⟩]
    · have hc : cut (fmtL x) [47] = (itoa x.1, itoa x.2, true) := by rw [fmtL_two ho e]; exact cut_at _ (itoa_slash _)
      have hx : (x.1, denI (fmtL x)) = x := by
        rw [denI, hc]
        dsimp only
        rw [if_pos rfl, puL_itoa (by omega) h2]
        rfl
      rw [pfI, hc]
      dsimp only
      rw [atoiAll_itoa h3 h4]
      dsimp only
      rw [hx, if_pos ⟨hne, rfl⟩]
/-- Up to 13 digits, as the reference reads them; -1 for none. -/
def dig13 (s : List UInt8) : Int := if s.length ≤ 13 then (match decFrom 0 s with | some m => (m : Int) | none => -1) else -1
theorem dig13_dec {u : Nat} (h : u ≤ 1000000000000) : dig13 (decDigits u) = u := by rw [dig13, if_pos (dec_len h), decFrom_dec]
def minusL (t : List UInt8) : Bool := t.head? == some 45
def restL (t : List UInt8) : List UInt8 := if minusL t = true then t.tail else t
/-- k is where the first slash stands, or the end. -/
def slashAt (s : List UInt8) (k : Nat) : Prop := k ≤ s.length ∧ (∀ b ∈ s.take k, b ≠ 47) ∧ (k < s.length → s[k]? = some 47)
theorem slashAt.one {s : List UInt8} {k j : Nat} (h : slashAt s k) (h' : slashAt s j) : k = j := by
  have key : ∀ {a b : Nat}, slashAt s a → slashAt s b → ¬ a < b := fun {a b} ha hb hlt => by
    have h1 := ha.2.2 (by have := hb.1; omega)
    have h2 : (s.take b)[a]? = some 47 := by rw [List.getElem?_take, if_pos hlt, h1]
    exact hb.2.1 47 (List.mem_of_getElem? h2) rfl
  have k1 := key h h'
  have k2 := key h' h
  omega
def numS (t : List UInt8) (k : Nat) : Int := dig13 ((restL t).take k)
def denS (t : List UInt8) (k : Nat) : Int := if k < (restL t).length then dig13 ((restL t).drop (k + 1)) else 1
def sgnS (t : List UInt8) : Int := if minusL t = true then -1 else 1
/-- A fraction out of a text, as the reference reads it; k is where the slash stands. -/
def pfS (t : List UInt8) (k : Nat) : Option Fr :=
  if t.length = 0 ∨ 25 < t.length then none else
    if numS t k < 0 ∨ denS t k < 0 ∨ fmtL (sgnS t * numS t k, denS t k) ≠ t then none
    else some (sgnS t * numS t k, denS t k)
theorem minusL_itoa (n : Int) (r : List UInt8) : minusL (itoa n ++ r) = decide (n < 0) ∧ restL (itoa n ++ r) = decDigits n.natAbs ++ r ∧ sgnS (itoa n ++ r) * (n.natAbs : Int) = n := by
  by_cases h : n < 0
  · have hm : minusL (itoa n ++ r) = true := by rw [itoa_minus h]; rfl
    refine ⟨by rw [hm, decide_eq_true h], by rw [restL, hm, if_pos rfl, itoa_minus h]; rfl, by rw [sgnS, hm, if_pos rfl]; omega⟩
  · have hm : minusL (itoa n ++ r) = false := by
      rw [itoa_pos h, minusL]
      have hd := dec_digit n.toNat
      cases e : decDigits n.toNat with
      | nil => exact absurd e (dec_ne _)
      | cons b q =>
        rw [e] at hd
        have hb := hd b (List.mem_cons_self ..)
        rw [List.cons_append, List.head?_cons]
        rw [beq_eq_false_iff_ne]
        intro e2
        injection e2 with e2
        subst e2
        simp at hb
    refine ⟨by rw [hm, decide_eq_false h], by rw [restL, hm, if_neg (by decide), itoa_pos h, show n.toNat = n.natAbs by omega], by rw [sgnS, hm, if_neg (by decide)]; omega⟩
theorem dec_slash (u : Nat) : ∀ b ∈ decDigits u, b ≠ 47 := by
  intro b hb e
  subst e
  have := dec_digit u _ hb
  simp at this
theorem pfS_iff {t : List UInt8} {k : Nat} (hk : slashAt (restL t) k) {x : Fr} : pfS t k = some x ↔ fracOkL x = true ∧ fmtL x = t := by
  constructor
  · intro h
    rw [pfS] at h
    split at h
    · cases h
    · rename_i hl
      split at h
      · cases h
      · rename_i hh
        injection h with h
        subst h
        have he := Classical.not_not.1 (fun e => hh (.inr (.inr e)))
        exact ⟨fmtL_ok (by rw [he]; intro e; rw [e] at hl; exact hl (.inl rfl)), he⟩
  · rintro ⟨ho, rfl⟩
    obtain ⟨⟨h1, h2⟩, ⟨h3, h4⟩, -⟩ := fracOkL_iff.1 ho
    have hne := fmtL_ne ho
    have hl25 := fmtL_len ho
    have hl0 : (fmtL x).length ≠ 0 := fun e => hne (List.length_eq_zero_iff.1 e)
    have hn : x.1.natAbs ≤ 1000000000000 := by omega
    have key : ∃ r, fmtL x = itoa x.1 ++ r ∧ ((r = [] ∧ x.2 = 1) ∨ (r = 47 :: decDigits x.2.toNat ∧ x.2 ≠ 1)) := by
      by_cases e : x.2 = 1
      · exact ⟨[], by rw [fmtL_one ho e, List.append_nil], .inl ⟨rfl, e⟩⟩
      · exact ⟨_, fmtL_two ho e, .inr ⟨by rw [itoa_pos (by omega : ¬ x.2 < 0)], e⟩⟩
    obtain ⟨r, hr, hcase⟩ := key
    obtain ⟨-, m2, m3⟩ := minusL_itoa x.1 r
    rw [← hr] at m2 m3
    have hkk : k = (decDigits x.1.natAbs).length := hk.one (by
      rw [m2]
      refine ⟨by simp, ?_, ?_⟩
      · rw [List.take_left' rfl]; exact dec_slash _
      · intro hlt
        rcases hcase with ⟨rfl, -⟩ | ⟨rfl, -⟩
        · simp at hlt
        · simp)
    have ht : numS (fmtL x) k = x.1.natAbs := by rw [numS, m2, hkk, List.take_left' rfl, dig13_dec hn]
    have hdd : denS (fmtL x) k = x.2 := by
      rw [denS]
      rcases hcase with ⟨rfl, e⟩ | ⟨rfl, e⟩
      · rw [if_neg (by rw [m2, hkk]; simp), e]
      · rw [if_pos (by rw [m2, hkk]; simp), m2, hkk]
        have hdr : (decDigits x.1.natAbs ++ 47 :: decDigits x.2.toNat).drop ((decDigits x.1.natAbs).length + 1) = decDigits x.2.toNat := by simp [List.drop_append]
        rw [hdr, dig13_dec (by omega)]
        omega
    have hx : (sgnS (fmtL x) * numS (fmtL x) k, denS (fmtL x) k) = x := by
      rw [hdd, ht, m3]
    rw [pfS, if_neg (by omega), hx, hdd, ht, if_neg (by
      rintro (h | h | h)
      · omega
      · omega
      · exact h rfl)]
theorem pfS_pfI {t : List UInt8} {k : Nat} (hk : slashAt (restL t) k) : pfS t k = pfI t := by
  cases h : pfS t k with
  | some x => exact (pfI_iff.2 ((pfS_iff hk).1 h)).symm
  | none =>
    cases h' : pfI t with
    | none => rfl
    | some x =>
      have := (pfS_iff hk).2 (pfI_iff.1 h')
      rw [h] at this
      cases this
end Go.Proofs.YtanpmbiblibgfaaGreatDoor
