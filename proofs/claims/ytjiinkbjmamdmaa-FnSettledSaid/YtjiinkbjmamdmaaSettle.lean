/- SettleBy of the program and of the reference. No conditions. -/
import Derived.Test.YtjiinkbjmamdmaaNum
import Derived.Test.YtjiinkbjmamdmaaSettleL
namespace Go.Proofs.Ytjiinkbjmamdmaa
open Go.RowKit

set_option maxHeartbeats 400000 in
theorem l13Left_any (bal rate months x : Int) (w : World) (h0 : 0 ≤ bal) (h1 : bal ≤ 1000000) (h2 : 0 ≤ rate) (h3 : rate ≤ 500) (h4 : 0 ≤ x) (h5 : x ≤ 2000000) (h6 : 1 ≤ months) (h7 : months ≤ 120) :
    Calls Try.prog 51 #[.int .i64 bal, .int .i64 rate, .int .i64 months, .int .i64 x] w fun e w' => e = .returned (.int .i64 (leftB bal rate x months.toNat)) ∧ w = w' := by
  go_enter Try.func51, Try.ntmps51
  go_wp2
  go_loop [9, 10] (fun b i => ∃ k : Nat, (k : Int) ≤ months ∧ i = .int .i64 k ∧ b = .int .i64 (leftB bal rate x k)) (fun _ i => (months - intOf i).toNat)
  case atStart => exact ⟨0, by omega, rfl, rfl⟩
  case round =>
    obtain ⟨k, hk, rfl, rfl⟩ := hrel
    have hl := leftB_at h0 h1 h2 h3 h4 h5 k (by omega)
    obtain ⟨b, hb⟩ : ∃ b, b = leftB bal rate x k := ⟨_, rfl⟩
    rw [← hb] at hl ⊢
    have hs : leftB bal rate x (k + 1) = stepB rate x b := by rw [hb]; rfl
    have HS := Lib.hid hs
    have HB := Lib.hid hb
    clear hs hb
    obtain ⟨hl1, hl2⟩ := hl
    by_cases hlt : (k : Int) < months
    · by_cases hp : 0 < b
      · have hm := mulDiv_le hp hl2 h2 h3
        have hm2 : 0 ≤ b * rate := Int.mul_nonneg (by omega) h2
        have hm3 : b * rate ≤ 200000000 * 500 := Int.mul_le_mul hl2 h3 h2 (by omega)
        obtain ⟨hm, hm1⟩ := hm
        go_wp2
        go_round
        case rel => exact ⟨k + 1, by omega, by go_num, by rw [HS.out, stepB, if_pos hp]⟩
        case measure => simp [intOf]; omega
      · go_wp2
        go_round
        case rel => exact ⟨k + 1, by omega, by go_num, by rw [HS.out, stepB, if_neg hp]⟩
        case measure => simp [intOf]; omega
    · go_wp2
      go_ret
      exact ⟨ret_int (by rw [HB.out, show k = months.toNat from by omega]), rfl⟩

set_option maxHeartbeats 400000 in
theorem settles_any (bal rate months x : Int) (p q r : Nat) (w : World) (h0 : 0 ≤ bal) (h1 : bal ≤ 1000000) (h2 : 0 ≤ rate) (h3 : rate ≤ 500) (h4 : 0 ≤ x) (h5 : x ≤ 2000000) (h6 : 1 ≤ months) (h7 : months ≤ 120)
    (cb : w.cell? ⟨p, 0, none⟩ = some (.int .i64 bal)) (cm : w.cell? ⟨q, 0, none⟩ = some (.int .i64 months)) (cr : w.cell? ⟨r, 0, none⟩ = some (.int .i64 rate)) :
    Calls Try.prog 52 #[.int .i64 x, .pointer (some ⟨p, 0, none⟩), .pointer (some ⟨q, 0, none⟩), .pointer (some ⟨r, 0, none⟩)] w fun e w' => e = .returned (.bool (settlesB bal rate months.toNat x)) ∧ w = w' := by
  go_enter Try.func52, Try.ntmps52
  go_wp2
  go_loop [6, 9] (fun b i => ∃ k : Nat, (k : Int) ≤ months ∧ i = .int .i64 k ∧ b = .int .i64 (leftB bal rate x k)) (fun _ i => (months - intOf i).toNat)
  case atStart => exact ⟨0, by omega, rfl, rfl⟩
  case round =>
    obtain ⟨k, hk, rfl, rfl⟩ := hrel
    have hl := leftB_at h0 h1 h2 h3 h4 h5 k (by omega)
    obtain ⟨b, hb⟩ : ∃ b, b = leftB bal rate x k := ⟨_, rfl⟩
    rw [← hb] at hl ⊢
    have hs : leftB bal rate x (k + 1) = stepB rate x b := by rw [hb]; rfl
    have HS := Lib.hid hs
    have HB := Lib.hid hb
    clear hs hb
    obtain ⟨hl1, hl2⟩ := hl
    by_cases hlt : (k : Int) < months
    · by_cases hp : 0 < b
      · have hm := mulDiv_le hp hl2 h2 h3
        have hm2 : 0 ≤ b * rate := Int.mul_nonneg (by omega) h2
        have hm3 : b * rate ≤ 200000000 * 500 := Int.mul_le_mul hl2 h3 h2 (by omega)
        obtain ⟨hm, hm1⟩ := hm
        go_wp2
        go_round
        case rel => exact ⟨k + 1, by omega, by go_num, by rw [HS.out, stepB, if_pos hp]⟩
        case measure => simp [intOf]; omega
      · go_wp2
        go_round
        case rel => exact ⟨k + 1, by omega, by go_num, by rw [HS.out, stepB, if_neg hp]⟩
        case measure => simp [intOf]; omega
    · go_wp2
      go_ret
      refine ⟨ret_bool ?_, rfl⟩
      rw [settlesB, HB.out, show k = months.toNat from by omega]

theorem settleL_in {bal rate months : Int} (h : (0 ≤ bal ∧ bal ≤ 1000000) ∧ (0 ≤ rate ∧ rate ≤ 500) ∧ (1 ≤ months ∧ months ≤ 120)) : settleL bal rate months = bsr (settlesB bal rate months.toNat) 0 (2 * bal) := by rw [settleL, if_pos h]
theorem settleL_out {bal rate months : Int} (h : ¬ ((0 ≤ bal ∧ bal ≤ 1000000) ∧ (0 ≤ rate ∧ rate ≤ 500) ∧ (1 ≤ months ∧ months ≤ 120))) : settleL bal rate months = -1 := by rw [settleL, if_neg h]

set_option maxHeartbeats 800000 in
theorem sSettleBy (bal rate months : Int) (w : World) :
    Calls Try.prog 25 #[.int .i64 bal, .int .i64 rate, .int .i64 months] w fun e w' => e = .returned (.int .i64 (settleL bal rate months)) ∧ Below w.heap.size w w' := by
  by_cases h : (0 ≤ bal ∧ bal ≤ 1000000) ∧ (0 ≤ rate ∧ rate ≤ 500) ∧ (1 ≤ months ∧ months ≤ 120)
  · rw [settleL_in h]
    obtain ⟨⟨h0, h1⟩, ⟨h2, h3⟩, h4, h5⟩ := h
    have t1 := inB_t h0 h1
    have t2 := inB_t h2 h3
    have t3 := inB_t h4 h5
    obtain ⟨R, hR⟩ : ∃ R, R = bsr (settlesB bal rate months.toNat) 0 (2 * bal) := ⟨_, rfl⟩
    rw [← hR]
    have HR := Lib.hid hR.symm
    clear hR
    go_enter Try.func25, Try.ntmps25
    go_wp2_with (go_at_call 49; refine (l01In_any _ _ _ _).mono ?_; rintro e w' ⟨rfl, rfl⟩)
    go_loop [7, 8] (fun a b => ∃ lo hi : Int, a = .int .i64 lo ∧ b = .int .i64 hi ∧ 0 ≤ lo ∧ lo ≤ hi ∧ hi ≤ 2 * bal ∧ Hid (bsr (settlesB bal rate months.toNat) lo hi = R)) (fun a b => (intOf b - intOf a).toNat)
    case atStart => exact ⟨0, 2 * bal, rfl, rfl, by omega, by omega, by omega, HR⟩
    case round =>
      obtain ⟨lo, hi, rfl, rfl, g0, g1, g2, HG⟩ := hrel
      clear HR
      by_cases hlt : lo < hi
      · cases hs : settlesB bal rate months.toNat ((lo + hi) / 2)
        · have hn : 0 < leftB bal rate ((lo + hi) / 2) months.toNat := by simpa [settlesB] using hs
          have HS := Lib.hid hs
          clear hs
          go_wp2_with (go_at_call 51; refine (l13Left_any _ _ _ _ _ h0 h1 h2 h3 (by omega) (by omega) h4 h5).mono ?_; rintro e w' ⟨rfl, rfl⟩)
          go_round
          case rel => exact ⟨_, _, rfl, rfl, by omega, by omega, by omega, (bsr_no _ hlt HS.out).symm.trans HG.out⟩
          case measure => simp [intOf]; omega
        · have hn : leftB bal rate ((lo + hi) / 2) months.toNat ≤ 0 := by simpa [settlesB] using hs
          have HS := Lib.hid hs
          clear hs
          go_wp2_with (go_at_call 51; refine (l13Left_any _ _ _ _ _ h0 h1 h2 h3 (by omega) (by omega) h4 h5).mono ?_; rintro e w' ⟨rfl, rfl⟩)
          go_round
          case rel => exact ⟨_, _, rfl, rfl, by omega, by omega, by omega, (bsr_yes _ hlt HS.out).symm.trans HG.out⟩
          case measure => simp [intOf]; omega
      · go_wp2
        go_ret
        exact ⟨ret_int (by rw [← HG.out, bsr_done _ (by omega)]), Below.refl _ _⟩
  · rw [settleL_out h]
    have H := Lib.hid h
    clear h
    go_enter Try.func25, Try.ntmps25
    cases b1 : inB bal 0 1000000
    · go_wp2_with (go_at_call 49; refine (l01In_any _ _ _ _).mono ?_; rintro e w' ⟨rfl, rfl⟩)
      go_ret
      exact ⟨rfl, Below.refl _ _⟩
    · cases b2 : inB rate 0 500
      · go_wp2_with (go_at_call 49; refine (l01In_any _ _ _ _).mono ?_; rintro e w' ⟨rfl, rfl⟩)
        go_ret
        exact ⟨rfl, Below.refl _ _⟩
      · cases b3 : inB months 1 120
        · go_wp2_with (go_at_call 49; refine (l01In_any _ _ _ _).mono ?_; rintro e w' ⟨rfl, rfl⟩)
          go_ret
          exact ⟨rfl, Below.refl _ _⟩
        · exact absurd ⟨inB_iff.1 b1, inB_iff.1 b2, inB_iff.1 b3⟩ H.out

set_option maxHeartbeats 800000 in
theorem iSettleBy (bal rate months : Int) (w : World) :
    Calls Try.prog 26 #[.int .i64 bal, .int .i64 rate, .int .i64 months] w fun e w' => e = .returned (.int .i64 (settleL bal rate months)) ∧ Below w.heap.size w w' := by
  by_cases h : (0 ≤ bal ∧ bal ≤ 1000000) ∧ (0 ≤ rate ∧ rate ≤ 500) ∧ (1 ≤ months ∧ months ≤ 120)
  · rw [settleL_in h]
    obtain ⟨⟨h0, h1⟩, ⟨h2, h3⟩, h4, h5⟩ := h
    have t1 := inB_t h0 h1
    have t2 := inB_t h2 h3
    have t3 := inB_t h4 h5
    obtain ⟨R, hR⟩ : ∃ R, R = bsr (settlesB bal rate months.toNat) 0 (2 * bal) := ⟨_, rfl⟩
    rw [← hR]
    have HR := Lib.hid hR.symm
    clear hR
    go_enter Try.func26, Try.ntmps26
    go_wp2_with (go_at_call 50; refine (within_any _ _ _ _).mono ?_; rintro e w' ⟨rfl, rfl⟩)
    go_quiet (fail)
    go_wp2_with fail
    go_loop [8, 9] (fun a b => ∃ lo hi : Int, a = .int .i64 lo ∧ b = .int .i64 hi ∧ 0 ≤ lo ∧ lo ≤ hi ∧ hi ≤ 2 * bal ∧ Hid (bsr (settlesB bal rate months.toNat) lo hi = R)) (fun a b => (intOf b - intOf a).toNat)
    case atStart => exact ⟨0, 2 * bal, rfl, rfl, by omega, by omega, by omega, HR⟩
    case round =>
      obtain ⟨lo, hi, rfl, rfl, g0, g1, g2, HG⟩ := hrel
      clear HR
      by_cases hlt : lo < hi
      · cases hs : settlesB bal rate months.toNat ((lo + hi) / 2)
        · have HS := Lib.hid hs
          go_wp2_with fail
          refine (settles_any bal rate months _ w.heap.size (w.heap.size + 1 + 1) (w.heap.size + 1) _ h0 h1 h2 h3 (by omega) (by omega) h4 h5 (by simp [go_sem]) (by simp [go_sem]) (by simp [go_sem])).mono ?_
          rintro e w' ⟨rfl, rfl⟩
          go_wp2
          go_round
          case rel => exact ⟨_, _, rfl, rfl, by omega, by omega, by omega, (bsr_no _ hlt HS.out).symm.trans HG.out⟩
          case measure => simp [intOf]; omega
        · have HS := Lib.hid hs
          go_wp2_with fail
          refine (settles_any bal rate months _ w.heap.size (w.heap.size + 1 + 1) (w.heap.size + 1) _ h0 h1 h2 h3 (by omega) (by omega) h4 h5 (by simp [go_sem]) (by simp [go_sem]) (by simp [go_sem])).mono ?_
          rintro e w' ⟨rfl, rfl⟩
          go_wp2
          go_round
          case rel => exact ⟨_, _, rfl, rfl, by omega, by omega, by omega, (bsr_yes _ hlt HS.out).symm.trans HG.out⟩
          case measure => simp [intOf]; omega
      · go_wp2
        go_ret
        exact ⟨ret_int (by rw [← HG.out, bsr_done _ (by omega)]), below_drewN ((((Below.refl _ _).alloc (Nat.le_refl _) _).alloc (by simp) _).alloc (by simp; omega) _) _⟩
  · rw [settleL_out h]
    have H := Lib.hid h
    clear h
    go_enter Try.func26, Try.ntmps26
    cases b1 : inB bal 0 1000000
    · go_wp2_with (go_at_call 50; refine (within_any _ _ _ _).mono ?_; rintro e w' ⟨rfl, rfl⟩)
      go_ret
      exact ⟨rfl, (((Below.refl _ _).alloc (Nat.le_refl _) _).alloc (by simp) _).alloc (by simp; omega) _⟩
    · cases b2 : inB rate 0 500
      · go_wp2_with (go_at_call 50; refine (within_any _ _ _ _).mono ?_; rintro e w' ⟨rfl, rfl⟩)
        go_ret
        exact ⟨rfl, (((Below.refl _ _).alloc (Nat.le_refl _) _).alloc (by simp) _).alloc (by simp; omega) _⟩
      · cases b3 : inB months 1 120
        · go_wp2_with (go_at_call 50; refine (within_any _ _ _ _).mono ?_; rintro e w' ⟨rfl, rfl⟩)
          go_ret
          exact ⟨rfl, (((Below.refl _ _).alloc (Nat.le_refl _) _).alloc (by simp) _).alloc (by simp; omega) _⟩
        · exact absurd ⟨inB_iff.1 b1, inB_iff.1 b2, inB_iff.1 b3⟩ H.out

set_option maxHeartbeats 400000 in
theorem walkSettleBy (bal rate months : Int) (w : World) :
    Calls Try.prog 6 #[.int .i64 bal, .int .i64 rate, .int .i64 months] w fun e w' => e = .returned (.bool true) ∧ Below w.heap.size w w' := by
  go_enter Try.func6, Try.ntmps6
  go_wp2_with fail
  refine (sSettleBy _ _ _ _).mono ?_
  rintro e w1 ⟨rfl, hb1⟩
  go_wp2_with fail
  refine (iSettleBy _ _ _ _).mono ?_
  rintro e w2 ⟨rfl, hb2⟩
  go_wp2_with fail
  go_ret
  exact ⟨rfl, hb1.trans (hb2.mono hb1.size)⟩
end Go.Proofs.Ytjiinkbjmamdmaa
