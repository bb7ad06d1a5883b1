/- Numbers read out of a text, by the reference. Conditions: none. -/
import Derived.Test.YtanpmbiblibgfaaDoorTxtL
import Derived.Lib.Walk
import Derived.Laws.Strings3
namespace Go.Proofs.YtanpmbiblibgfaaDoor
open Go.RowKit Go.Lib

theorem dig13_none {l : List UInt8} {k : Nat} {b : UInt8} (hb : l[k]? = some b) (h : ¬ (48 ≤ b.toNat ∧ b.toNat ≤ 57)) : dig13 l = -1 := by
  rw [dig13]
  split
  · cases e : decFrom 0 l with
    | none => rfl
    | some m =>
      obtain ⟨d, hd⟩ := digit_of_decFrom _ _ _ e k b hb
      have := digitVal_eq hd
      omega
  · rfl
set_option maxHeartbeats 1600000 in
theorem sDigits (s : ByteArray) (w : World) (hs : s.size ≤ 9223372036854775807) :
    Calls Tryd.prog 27 #[.string s] w fun e w' => e = .returned (.int .i64 (dig13 s.data.toList)) ∧ w = w' := by
  have hlen : s.data.toList.length = s.size := Array.length_toList
  go_enter Tryd.func27, Tryd.ntmps27
  go_wp2_with fail
  go_loop [3, 4] (fun n i => ∃ (k m : Nat), k ≤ s.size ∧ i = .int .i64 k ∧ n = .int .i64 m ∧ Hid (decFrom 0 (s.data.toList.take k) = some m) ∧ (k = 0 ∨ s.size ≤ 13)) (fun _ i => s.size - (Go.RowKit.intOf i).toNat)
  case atStart => exact ⟨0, 0, Nat.zero_le _, rfl, rfl, Lib.hid rfl, .inl rfl⟩
  case round =>
    obtain ⟨k, m, hk, rfl, rfl, hd, hz⟩ := hrel
    by_cases hlt : k < s.size
    · have hlt2 : (k : Int) < s.size := by omega
      by_cases h13 : 13 < s.size
      · have h13i : (13 : Int) < s.size := by omega
        have hres : dig13 s.data.toList = -1 := by rw [dig13, if_neg (by omega)]
        go_wp2_with fail
        go_ret
        exact ⟨by first | rfl | rw [hres], rfl⟩
      · have h13i : ¬ (13 : Int) < s.size := by omega
        have hb : s.data.toList[k]? = some s[k] := by rw [List.getElem?_eq_getElem (by omega)]; rfl
        obtain ⟨c, hc⟩ : ∃ c : Nat, c = s[k].toNat := ⟨_, rfl⟩
        have hc255 : c < 256 := by rw [hc]; exact s[k].toNat_lt
        by_cases h1 : c < 48
        · have hres : dig13 s.data.toList = -1 := dig13_none hb (by omega)
          have h1' : s[k].toNat < 48 := by omega
          clear hc
          go_wp2_with fail
          go_ret
          exact ⟨by first | rfl | rw [hres], rfl⟩
        by_cases h2 : 57 < c
        · have hres : dig13 s.data.toList = -1 := dig13_none hb (by omega)
          have h1' : ¬ s[k].toNat < 48 := by omega
          have h2' : 57 < s[k].toNat := by omega
          clear hc
          go_wp2_with fail
          go_ret
          exact ⟨by first | rfl | rw [hres], rfl⟩
        · have h1' : ¬ s[k].toNat < 48 := by omega
          have h2' : ¬ 57 < s[k].toNat := by omega
          have h1i : decide ((s[k].toNat : Int) < 48) = false := by simp; omega
          have h2i : decide (57 < (s[k].toNat : Int)) = false := by simp; omega
          have hm : m < 10000000000000 := by
            have h := decFrom_lt _ _ _ hd.out
            have hl : (s.data.toList.take k).length ≤ 13 := by rw [List.length_take]; omega
            have := Nat.pow_le_pow_right (show 0 < 10 by omega) hl
            omega
          have hdv : digitVal s[k] = some (c - 48) := by unfold digitVal; rw [if_pos (by omega), hc]
          have hstep := decFrom_take _ k 0 m s[k] (c - 48) hd.out hb hdv
          have HS := Lib.hid hstep
          have HC := Lib.hid hc
          have e1 : IntKind.i64.wrap (10 * (m : Int)) = 10 * m := IntWalk.i64_in _ ⟨by omega, by omega⟩
          have e2 : IntKind.i64.wrap (s[k].toNat : Int) = (s[k].toNat : Int) := IntWalk.i64_in _ ⟨by omega, by omega⟩
          have e3 : IntKind.i64.wrap (10 * (m : Int) + (s[k].toNat : Int)) = 10 * m + (s[k].toNat : Int) := IntWalk.i64_in _ ⟨by omega, by omega⟩
          have e4 : IntKind.i64.wrap (10 * (m : Int) + (s[k].toNat : Int) - 48) = 10 * m + (s[k].toNat : Int) - 48 := IntWalk.i64_in _ ⟨by omega, by omega⟩
          clear hstep hdv hc hb hd
          go_wp2_with fail
          go_round
          case rel => exact ⟨k + 1, m * 10 + (c - 48), by omega, by go_num, by rw [← HC.out]; congr 1; omega, HS, .inr (by omega)⟩
          case measure => simp [Go.RowKit.intOf]; omega
    · have hd0 := hd.out
      rw [List.take_of_length_le (by omega)] at hd0
      have hres : dig13 s.data.toList = m := by
        rw [dig13, if_pos (by omega), hd0]
      clear hd hd0
      go_wp2_with fail
      go_ret
      exact ⟨by first | rfl | rw [hres], rfl⟩
end Go.Proofs.YtanpmbiblibgfaaDoor
