/- The words of a line, by the program. Conditions: the tables lie as the library lays them. -/
import Derived.Test.YtanpmbiblibgfaaGreatDoorSSpl
import Derived.Test.YtanpmbiblibgfaaGreatDoorShF
namespace Go.Proofs.YtanpmbiblibgfaaGreatDoor
open Go.RowKit Go.Lib
set_option linter.unusedVariables false
set_option linter.unusedSimpArgs false
theorem own_nil (w : World) (base : Nat) : w.ownsRow base 9 1 (.slice none 0 0) 0 (strs []) := ⟨by simp, .inl ⟨rfl, rfl⟩⟩
theorem own_words (w : World) (base : Nat) (h : base ≤ w.heap.size) (ws : List (List UInt8)) (hm : ws.length ≤ maxLen) : (w.alloc (.cells (strs ws).toArray 9)).ownsRow base 9 1 (.slice (some ⟨w.heap.size, 0, none⟩) ws.length ws.length) ws.length (strs ws) :=
  ⟨by simp, .inr ⟨w.heap.size, ws.length, (strs ws).toArray, rfl, h, Whole.new w _ _, Nat.le_refl _, hm, by simp, by simp; exact List.take_of_length_le (by simp)⟩⟩

set_option maxRecDepth 8000 in
set_option maxHeartbeats 3200000 in
theorem iSplitFields (s : ByteArray) (w : World) (hT : LaidP w) :
    Calls Tryz.prog 17 #[.string s] w (SplE w (sfL s.data.toList)) := by
  have hlen : s.data.toList.length = s.size := Array.length_toList
  by_cases hbig : 600 < s.size
  · have hres : sfL s.data.toList = none := sfL_long (by omega)
    have hbi : (600 : Int) < s.size := by omega
    rw [hres]
    clear hlen hres
    go_enter Tryz.func17, Tryz.ntmps17
    go_wp2_with fail
    refine bodyPost_ret (v := .tuple #[.slice none 0 0, .bool false]) (by simp [results, Tryz.results17, go_sem]) rfl ?_
    exact ⟨_, _, rfl, own_nil _ _, Below.refl _ _⟩
  · have hbi : ¬ (600 : Int) < s.size := by omega
    go_enter Tryz.func17, Tryz.ntmps17
    go_wp2_with fail
    go_loopw [11] (fun i wr => ∃ k : Nat, k ≤ s.size ∧ i = .int .i64 k ∧ Hid (∀ b ∈ s.data.toList.take k, 32 ≤ b.toNat ∧ b.toNat ≤ 126) ∧ w = wr) (fun i _ => s.size - (Go.RowKit.intOf i).toNat)
    case atStart => exact ⟨0, Nat.zero_le _, rfl, Lib.hid (fun b hb => by simp at hb), rfl⟩
    case round =>
      obtain ⟨k, hk, rfl, hG, rfl⟩ := hrel
      by_cases hlt : k < s.size
      · have hlt2 : (k : Int) < s.size := by omega
        have hb : s.data.toList[k]? = some s[k] := by rw [List.getElem?_eq_getElem (by omega)]; rfl
        have e2 : IntKind.i64.wrap (s[k].toNat : Int) = (s[k].toNat : Int) := IntWalk.i64_in _ ⟨by omega, by have := s[k].toNat_lt; omega⟩
        by_cases hg : 32 ≤ s[k].toNat ∧ s[k].toNat ≤ 126
        · have hw : inB (s[k].toNat : Int) 32 126 = true := inB_t (by omega) (by omega)
          have H2 := Lib.hid (good_snoc hb hG.out hg)
          clear hb hG hg hlen
          go_wp2_with fail
          refine (within_any _ _ _ _).mono ?_
          rintro e w' ⟨rfl, rfl⟩
          rw [hw]
          go_wp2_with fail
          go_roundw
          case rel => exact ⟨k + 1, by omega, by go_num, H2, by first | rfl | trivial⟩
          case measure => (simp [Go.RowKit.intOf]; try omega)
        · have hw : inB (s[k].toNat : Int) 32 126 = false := by
            cases hq : inB (s[k].toNat : Int) 32 126 with
            | false => rfl
            | true => exact absurd (inB_iff.1 hq) (by omega)
          have hres : sfL s.data.toList = none := sfL_bad hb hg
          have HRES := Lib.hid hres
          clear hb hG hg hlen hres
          go_wp2_with fail
          refine (within_any _ _ _ _).mono ?_
          rintro e w' ⟨rfl, rfl⟩
          rw [hw]
          go_wp2_with fail
          refine bodyPost_ret (v := .tuple #[.slice none 0 0, .bool false]) (by simp [results, Tryz.results17, go_sem]) rfl ?_
          rw [HRES.out]
          exact ⟨_, _, rfl, own_nil _ _, Below.refl _ _⟩
      · obtain rfl : k = s.size := by omega
        have hgood : ∀ b ∈ s.data.toList, 32 ≤ b.toNat ∧ b.toNat ≤ 126 := by have h0 := hG.out; rw [List.take_of_length_le (by omega)] at h0; exact h0
        have CF := fun (v : World) (hv : LaidP v) => iFields s v (by omega) (fun j b hb => by have := hgood b (List.mem_of_getElem? hb); omega) hv
        obtain ⟨ws, hws⟩ : ∃ ws, ws = fields s.data.toList := ⟨_, rfl⟩
        rw [← hws] at CF
        have hne : ¬ (s.size : Int) < s.size := by omega
        by_cases h24 : 24 < ws.length
        · have hres : sfL s.data.toList = none := sfL_many (by rw [← hws]; exact h24)
          have HRES := Lib.hid hres
          have h24i : (24 : Int) < ws.length := by omega
          clear hres hgood hws hG hlen hk hlt
          go_wp2_with fail
          refine (CF _ hT).mono ?_
          rintro e w' ⟨rfl, rfl⟩
          clear CF
          go_wp2_with fail
          refine bodyPost_ret (v := .tuple #[.slice none 0 0, .bool false]) (by simp [results, Tryz.results17, go_sem]) rfl ?_
          rw [HRES.out]
          exact ⟨_, _, rfl, own_nil _ _, (by (repeat (first | (with_reducible exact Below.refl _ _) | (with_reducible assumption) | (with_reducible refine Below.drew ?_) | (with_reducible refine below_drewN ?_ _) | ((with_reducible refine Below.setCell ?_ ?_ _); rotate_left; focus (first | (simp; done) | omega | (simp; omega))) | ((with_reducible refine Below.alloc ?_ ?_ _); rotate_left; focus (first | exact Nat.le_refl _ | omega | (simp; done) | (simp; omega))))))⟩
        · have hres : sfL s.data.toList = some ws := by rw [sfL_ok (by omega) hgood (by rw [← hws]; omega), hws]
          have HRES := Lib.hid hres
          have h24i : ¬ (24 : Int) < ws.length := by omega
          have hm : ws.length ≤ maxLen := by unfold maxLen; omega
          clear hres hgood hws hG hlen hk hlt
          go_wp2_with fail
          refine (CF _ hT).mono ?_
          rintro e w' ⟨rfl, rfl⟩
          clear CF
          have OW := own_words w w.heap.size (Nat.le_refl _) ws hm
          go_wp2_with fail
          refine bodyPost_ret (v := .tuple #[.slice (some ⟨w.heap.size, 0, none⟩) ws.length ws.length, .bool true]) (by simp [results, Tryz.results17, go_sem]) rfl ?_
          rw [HRES.out]
          exact ⟨_, _, rfl, OW, (by (repeat (first | (with_reducible exact Below.refl _ _) | (with_reducible assumption) | (with_reducible refine Below.drew ?_) | (with_reducible refine below_drewN ?_ _) | ((with_reducible refine Below.setCell ?_ ?_ _); rotate_left; focus (first | (simp; done) | omega | (simp; omega))) | ((with_reducible refine Below.alloc ?_ ?_ _); rotate_left; focus (first | exact Nat.le_refl _ | omega | (simp; done) | (simp; omega))))))⟩
end Go.Proofs.YtanpmbiblibgfaaGreatDoor
