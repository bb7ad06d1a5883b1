/- Numbers and fractions as texts, of the reference. Conditions: none. -/
import Derived.Test.YtanpmbiblibgfaaGreatDoorTxtL
import Derived.Test.YtanpmbiblibgfaaGreatDoorSFrac
import Derived.Laws.IdiomStrings
import Derived.Laws.Concat
import Derived.Lib.ItoaLen
namespace Go.Proofs.YtanpmbiblibgfaaGreatDoor
open Go.RowKit Go.Lib

/-- A text as a value. -/
abbrev strV (l : List UInt8) : Value := .string ⟨l.toArray⟩
/-- The digits of m ahead of s; nothing for 0. -/
def tailD (m : Nat) (s : List UInt8) : List UInt8 := if m = 0 then s else decDigits m ++ s
theorem tailD_zero (s : List UInt8) : tailD 0 s = s := by rw [tailD, if_pos rfl]
theorem tailD_step {m : Nat} (s : List UInt8) (h : m ≠ 0) : tailD (m / 10) ([UInt8.ofNat (48 + m % 10)] ++ s) = tailD m s := by
  rw [tailD, tailD, if_neg h]
  by_cases h1 : m < 10
  · rw [if_pos (by omega), decDigits, dif_pos h1, Nat.mod_eq_of_lt h1]
  · rw [if_neg (by omega)]
    conv => rhs; rw [decDigits, dif_neg h1]
    rw [List.append_assoc]
theorem tailD_len (m : Nat) (s : List UInt8) : s.length ≤ (tailD m s).length := by
  rw [tailD]
  split
  · exact Nat.le_refl _
  · rw [List.length_append]; omega
theorem dec_len20 {u : Nat} (h : u ≤ 9223372036854775808) : (decDigits u).length ≤ 20 := by
  rw [decDigits_length]
  exact nDigits_le 19 u (by omega)
/-- 'string([]byte{b})', the byte being in a new block. -/
theorem conv_byte (u : Nat) (hu : u < 10) (w : World) (b : Nat) (hc : w.cell? ⟨b, 0, none⟩ = some (.int .u8 (48 + (u : Int)))) :
    (convert 22 9 (.slice (some ⟨b, 0, none⟩) 1 1)).run Tryz.prog w = .ok (.string ⟨#[UInt8.ofNat (48 + u)]⟩) w := by
  have h := run_convert_bytes_back (P := Tryz.prog) w 22 9 5 ⟨b, 0, none⟩ 1 [UInt8.ofNat (48 + u)] Tryz.underlying22 Tryz.underlying5 Tryz.underlying9 (fun j hj => by
    have hj0 : j = 0 := by simp at hj; omega
    subst hj0
    have e : (48 + (u : Int)) = (((UInt8.ofNat (48 + u)).toNat : Nat) : Int) := by rw [ofNat48 hu]; push_cast; rfl
    rw [e] at hc
    exact hc)
  exact h
end Go.Proofs.YtanpmbiblibgfaaGreatDoor
