/- Numbers and fractions as texts, of the reference. Conditions: none. -/
import Derived.Test.YtanpmbiblibgfaaDoorTxtL
import Derived.Test.YtanpmbiblibgfaaDoorSFrac
import Derived.Laws.IdiomStrings
import Derived.Laws.Concat
import Derived.Lib.ItoaLen
namespace Go.Proofs.YtanpmbiblibgfaaDoor
open Go.RowKit Go.Lib

/-- A text as a value. -/
abbrev strV (l : List UInt8) : Value := .string ⟨l.toArray⟩
set_option maxHeartbeats 400000 in
theorem sFigure (x : Nat) (hx : x < 10) (w : World) :
    Calls Tryd.prog 49 #[.int .i64 x] w fun e w' => e = .returned (.int .u8 (48 + x)) ∧ w = w' := by
  have h1 : (x : Int) < 10 := by omega
  have h2 : IntKind.i64.wrap (48 + (x : Int)) = 48 + x := IntWalk.i64_in _ ⟨by omega, by omega⟩
  have h3 : IntKind.u8.wrap (48 + (x : Int)) = 48 + x := by show (48 + (x : Int)) % 256 = _; omega
  go_enter Tryd.func49, Tryd.ntmps49
  go_wp2
  go_ret
  exact ⟨rfl, rfl⟩
/-- The digits of m ahead of s; nothing for 0. -/
def tailD (m : Nat) (s : List UInt8) : List UInt8 := if m = 0 then s else decDigits m ++ s
theorem tailD_zero (s : List UInt8) : tailD 0 s = s := by rw [tailD, if_pos rfl]
theorem tailD_step {m : Nat} (s : List UInt8) (h : m ≠ 0) : tailD (m / 10) ([UInt8.ofNat (48 + m % 10)] ++ s) = tailD m s := by
  rw [tailD, tailD, if_neg h]
  by_cases h1 : m < 10
  · rw [if_pos (by omega), decDigits, dif_pos h1, Nat.mod_eq_of_lt h1]
  · rw [if_neg (by omega)]
    conv => rhs; rw [decDigits, dif_neg h1]
    rw [List.append_assoc]
theorem tailD_len (m : Nat) (s : List UInt8) : s.length ≤ (tailD m s).length := by
  rw [tailD]
  split
  · exact Nat.le_refl _
  · rw [List.length_append]; omega
theorem dec_len20 {u : Nat} (h : u ≤ 9223372036854775808) : (decDigits u).length ≤ 20 := by
  rw [decDigits_length]
  exact nDigits_le 19 u (by omega)
/-- 'string([]byte{b})', the byte being in a new block. -/
theorem conv_byte (u : Nat) (hu : u < 10) (w : World) (b : Nat) (hc : w.cell? ⟨b, 0, none⟩ = some (.int .u8 (48 + (u : Int)))) :
    (convert 83 9 (.slice (some ⟨b, 0, none⟩) 1 1)).run Tryd.prog w = .ok (.string ⟨#[UInt8.ofNat (48 + u)]⟩) w := by
  have h := run_convert_bytes_back (P := Tryd.prog) w 83 9 5 ⟨b, 0, none⟩ 1 [UInt8.ofNat (48 + u)] Tryd.underlying83 Tryd.underlying5 Tryd.underlying9 (fun j hj => by
    have hj0 : j = 0 := by simp at hj; omega
    subst hj0
    have e : (48 + (u : Int)) = (((UInt8.ofNat (48 + u)).toNat : Nat) : Int) := by rw [ofNat48 hu]; push_cast; rfl
    rw [e] at hc
    exact hc)
  exact h
set_option maxRecDepth 4000 in
set_option maxHeartbeats 6400000 in
theorem sFormatInt (n : Int) (h0 : -9223372036854775808 ≤ n) (h1 : n ≤ 9223372036854775807) (w : World) :
    Calls Tryd.prog 39 #[.int .i64 n] w fun e w' => e = .returned (strV (itoa n)) ∧ Below w.heap.size w w' := by
  by_cases hz : n = 0
  · subst hz
    have e : itoa 0 = [48] := by rw [itoa_pos (by decide), decDigits, dif_pos (by decide)]; rfl
    rw [e]
    go_enter Tryd.func39, Tryd.ntmps39
    go_wp2
    go_ret
    exact ⟨rfl, Below.refl _ _⟩
  have hM : n.natAbs ≤ 9223372036854775808 := by omega
  have hlen := dec_len20 hM
  by_cases hn : n < 0
  · have e : itoa n = [45] ++ decDigits n.natAbs := itoa_minus hn
    rw [e]
    obtain ⟨M, hMe⟩ : ∃ M : Nat, M = n.natAbs := ⟨_, rfl⟩
    rw [← hMe] at hM hlen ⊢
    have hM0 : M ≠ 0 := by omega
    have hne : n = -(M : Int) := by omega
    subst hne
    have hHL := Lib.hid hlen
    have hm0 : ¬ -(M : Int) = 0 := by omega
    have hM1 : 0 < M := by omega
    have hb1 : (-(M : Int) == 0) = false := by simpa using hm0
    have hb2 : decide (-(M : Int) < 0) = true := by simp; omega
    have hmn : -(M : Int) < 0 := by omega
    clear hMe h0 h1 e hlen hz hn
    go_enter Tryd.func39, Tryd.ntmps39
    go_wp2_with fail
    go_loopw [0, 4] (fun a t wr => ∃ (m : Nat) (s : List UInt8), a = .int .i64 (-(m : Int)) ∧ t = strV s ∧ m ≤ M ∧ Hid (tailD m s = decDigits M) ∧ Below w.heap.size w wr) (fun a _ _ => (-(intOf a)).toNat)
    case atStart => exact ⟨M, [], rfl, rfl, Nat.le_refl _, Lib.hid (by rw [tailD, if_neg hM0, List.append_nil]), Below.refl _ _⟩
    case round =>
      clear hm0
      obtain ⟨m, s, rfl, rfl, hm, ht, hbr⟩ := hrel
      have hsl : s.length ≤ 20 := by have h1 := tailD_len m s; rw [ht.out] at h1; have := hHL.out; omega
      by_cases hmz : m = 0
      · subst hmz
        have htz := ht.out
        rw [tailD_zero] at htz
        subst htz
        have hsl2 : ((decDigits M).length : Int) ≤ 20 := by omega
        clear ht
        have HH := Lib.hid hHL.out
        have hcat : (ByteArray.mk #[45] ++ ByteArray.mk (decDigits M).toArray) = ByteArray.mk ([45] ++ decDigits M).toArray := ByteArray.mk_append_mk [45] (decDigits M)
        go_wp2_with fail
        go_ret
        exact ⟨by first | rfl | rw [hcat], hbr⟩
      · obtain ⟨u, hu⟩ : ∃ u : Nat, u = m % 10 := ⟨_, rfl⟩
        obtain ⟨q, hq⟩ : ∃ q : Nat, q = m / 10 := ⟨_, rfl⟩
        have hu10 : u < 10 := by omega
        have htm : (-(m : Int)).tmod 10 = -(u : Int) := by rw [Int.neg_tmod, Int.tmod_eq_emod_of_nonneg (by omega)]; omega
        have htd : (-(m : Int)).tdiv 10 = -(q : Int) := by rw [Int.neg_tdiv, Int.tdiv_eq_ediv_of_nonneg (by omega)]; omega
        have hqm : q < m := by omega
        have hstep : tailD q ([UInt8.ofNat (48 + u)] ++ s) = decDigits M := by rw [hu, hq, tailD_step s hmz]; exact ht.out
        have HS := Lib.hid hstep
        have hmi : ¬ (-(m : Int)) = 0 := by omega
        have hwq : IntKind.i64.wrap (-(q : Int)) = (-(q : Int)) := IntWalk.i64_in _ ⟨by omega, by omega⟩
        have hwu : IntKind.i64.wrap (-(u : Int)) = (-(u : Int)) := IntWalk.i64_in _ ⟨by omega, by omega⟩
        have hcv := conv_byte u hu10
        have hcat : (ByteArray.mk #[UInt8.ofNat (48 + u)] ++ ByteArray.mk s.toArray) = ByteArray.mk ([UInt8.ofNat (48 + u)] ++ s).toArray := ByteArray.mk_append_mk [UInt8.ofNat (48 + u)] s
        clear hu hq hstep ht hmz
        rcases Nat.eq_zero_or_pos u with hu0 | hu0
        · subst hu0
          have htm0 : (-(m : Int)).tmod 10 = 0 := htm
          have SF : ∀ w, Calls Tryd.prog 49 #[.int .i64 0] w fun e w' => e = .returned (.int .u8 48) ∧ w = w' := fun w => sFigure 0 (by omega) w
          have hcv0 : ∀ (w : World) (b : Nat), w.cell? ⟨b, 0, none⟩ = some (.int .u8 48) → (convert 83 9 (.slice (some ⟨b, 0, none⟩) 1 1)).run Tryd.prog w = .ok (.string ⟨#[48]⟩) w := fun w b hc => conv_byte 0 (by omega) w b hc
          have hk := hcv0 (wr.alloc (.cells #[.int .u8 48] 5)) wr.heap.size (by simp [go_sem])
          have hsz : (s.length : Int) ≤ 20 := by omega
          have HC := Lib.hid hcat
          clear htm hwu hcv hcat hcv0
          go_wp2_with fail
          refine (SF _).mono ?_
          rintro e w' ⟨rfl, rfl⟩
          clear SF
          go_wp2_with fail
          go_roundw
          case rel => exact ⟨q, [UInt8.ofNat (48 + 0)] ++ s, rfl, by first | rfl | exact congrArg Value.string HC.out, by omega, HS, hbr.alloc hbr.size _⟩
          case measure => (simp [intOf]; try omega)
        · have hneg : -(u : Int) < 0 := by omega
          have hnn : IntKind.i64.wrap (- -(u : Int)) = (u : Int) := by rw [Int.neg_neg]; exact IntWalk.i64_in _ ⟨by omega, by omega⟩
          have hnn2 : IntKind.i64.wrap (u : Int) = (u : Int) := IntWalk.i64_in _ ⟨by omega, by omega⟩
          have hk := hcv (wr.alloc (.cells #[.int .u8 (48 + (u : Int))] 5)) wr.heap.size (by simp [go_sem])
          have hsz : (s.length : Int) ≤ 20 := by omega
          obtain ⟨bt, hbt⟩ : ∃ b, b = UInt8.ofNat (48 + u) := ⟨_, rfl⟩
          rw [← hbt] at hk hcat HS
          have HC := Lib.hid hcat
          have SF := sFigure u hu10
          clear hbt
          clear hcv hcat
          go_wp2_with fail
          refine (SF _).mono ?_
          rintro e w' ⟨rfl, rfl⟩
          clear SF
          go_wp2_with fail
          go_roundw
          case rel => exact ⟨q, [bt] ++ s, rfl, by first | rfl | exact congrArg Value.string HC.out, by omega, HS, hbr.alloc hbr.size _⟩
          case measure => (simp [intOf]; try omega)
  · have e : itoa n = decDigits n.natAbs := by rw [itoa_pos hn, show n.toNat = n.natAbs by omega]
    rw [e]
    obtain ⟨M, hMe⟩ : ∃ M : Nat, M = n.natAbs := ⟨_, rfl⟩
    rw [← hMe] at hM hlen ⊢
    have hM0 : M ≠ 0 := by omega
    have hne : n = (M : Int) := by omega
    subst hne
    have hHL := Lib.hid hlen
    have hm0 : ¬ (M : Int) = 0 := by omega
    have hb1 : ((M : Int) == 0) = false := by simpa using hm0
    have hmn : ¬ (M : Int) < 0 := by omega
    clear hMe h0 h1 e hlen hz hn
    go_enter Tryd.func39, Tryd.ntmps39
    go_wp2_with fail
    go_loopw [0, 4] (fun a t wr => ∃ (m : Nat) (s : List UInt8), a = .int .i64 (m : Int) ∧ t = strV s ∧ m ≤ M ∧ Hid (tailD m s = decDigits M) ∧ Below w.heap.size w wr) (fun a _ _ => ((intOf a)).toNat)
    case atStart => exact ⟨M, [], rfl, rfl, Nat.le_refl _, Lib.hid (by rw [tailD, if_neg hM0, List.append_nil]), Below.refl _ _⟩
    case round =>
      clear hm0
      obtain ⟨m, s, rfl, rfl, hm, ht, hbr⟩ := hrel
      have hsl : s.length ≤ 20 := by have h1 := tailD_len m s; rw [ht.out] at h1; have := hHL.out; omega
      by_cases hmz : m = 0
      · subst hmz
        have htz := ht.out
        rw [tailD_zero] at htz
        subst htz
        have hsl2 : ((decDigits M).length : Int) ≤ 20 := by omega
        clear ht
        have HH := Lib.hid hHL.out
        go_wp2_with fail
        go_ret
        exact ⟨rfl, hbr⟩
      · obtain ⟨u, hu⟩ : ∃ u : Nat, u = m % 10 := ⟨_, rfl⟩
        obtain ⟨q, hq⟩ : ∃ q : Nat, q = m / 10 := ⟨_, rfl⟩
        have hu10 : u < 10 := by omega
        have htm : (m : Int).tmod 10 = (u : Int) := by rw [Int.tmod_eq_emod_of_nonneg (by omega)]; omega
        have htd : (m : Int).tdiv 10 = (q : Int) := by rw [Int.tdiv_eq_ediv_of_nonneg (by omega)]; omega
        have hqm : q < m := by omega
        have hstep : tailD q ([UInt8.ofNat (48 + u)] ++ s) = decDigits M := by rw [hu, hq, tailD_step s hmz]; exact ht.out
        have HS := Lib.hid hstep
        have hmi : ¬ (m : Int) = 0 := by omega
        have hwq : IntKind.i64.wrap (q : Int) = (q : Int) := IntWalk.i64_in _ ⟨by omega, by omega⟩
        have hwu : IntKind.i64.wrap (u : Int) = (u : Int) := IntWalk.i64_in _ ⟨by omega, by omega⟩
        have hcv := conv_byte u hu10
        have hcat : (ByteArray.mk #[UInt8.ofNat (48 + u)] ++ ByteArray.mk s.toArray) = ByteArray.mk ([UInt8.ofNat (48 + u)] ++ s).toArray := ByteArray.mk_append_mk [UInt8.ofNat (48 + u)] s
        clear hu hq hstep ht hmz
        have hneg : ¬ (u : Int) < 0 := by omega
        have hk := hcv (wr.alloc (.cells #[.int .u8 (48 + (u : Int))] 5)) wr.heap.size (by simp [go_sem])
        have hsz : (s.length : Int) ≤ 20 := by omega
        obtain ⟨bt, hbt⟩ : ∃ b, b = UInt8.ofNat (48 + u) := ⟨_, rfl⟩
        rw [← hbt] at hk hcat HS
        have HC := Lib.hid hcat
        have SF := sFigure u hu10
        clear hbt
        clear hcv hcat
        go_wp2_with fail
        refine (SF _).mono ?_
        rintro e w' ⟨rfl, rfl⟩
        clear SF
        go_wp2_with fail
        go_roundw
        case rel => exact ⟨q, [bt] ++ s, rfl, by first | rfl | exact congrArg Value.string HC.out, by omega, HS, hbr.alloc hbr.size _⟩
        case measure => (simp [intOf]; try omega)
end Go.Proofs.YtanpmbiblibgfaaDoor
