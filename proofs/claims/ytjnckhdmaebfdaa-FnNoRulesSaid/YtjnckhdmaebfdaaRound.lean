/- Rounding, of the program. No conditions but those on the bounds of numbers. -/
import Derived.Test.YtjnckhdmaebfdaaFrac2
import Derived.Test.YtjnckhdmaebfdaaRoundL
namespace Go.Proofs.Ytjnckhdmaebfdaa
open Go.RowKit

set_option maxHeartbeats 800000 in
theorem iFloorDiv (n d : Int) (w : World) (h1 : -1000000000000 ≤ n) (h2 : n ≤ 1000000000000) (h3 : 1 ≤ d) (h4 : d ≤ 1000000) :
    Calls Try.prog 94 #[.int .i64 n, .int .i64 d] w fun e w' => e = .returned (.int .i64 (n / d)) ∧ w = w' := by
  have hf := floor_tdiv n d (by omega)
  have ha := tdiv_abs n d
  obtain ⟨ha1, ha2⟩ := ha
  have hb1 : -1000000000000 ≤ n.tdiv d := by omega
  have hb2 : n.tdiv d ≤ 1000000000000 := by omega
  have h0 : (d == 0) = false := by simp; omega
  clear ha1 ha2
  by_cases hn : 0 ≤ n
  · have hq : 0 ≤ n % d := Int.emod_nonneg n (by omega)
    clear hf hb1 hb2
    go_enter Try.func94, Try.ntmps94
    go_wp2
    go_ret
    exact ⟨rfl, rfl⟩
  · by_cases hm : n.tmod d < 0
    · rw [if_pos hm] at hf
      have HF := Lib.hid hf
      clear hf
      go_enter Try.func94, Try.ntmps94
      go_wp2
      go_ret
      exact ⟨ret_int (by rw [HF.out]), rfl⟩
    · rw [if_neg hm] at hf
      have HF := Lib.hid hf
      clear hf
      go_enter Try.func94, Try.ntmps94
      go_wp2
      go_ret
      exact ⟨ret_int (by rw [HF.out]; omega), rfl⟩

set_option maxHeartbeats 800000 in
theorem iRoundFrac (n d mode : Int) (w : World) :
    Calls Try.prog 76 #[.agg #[.int .i64 n, .int .i64 d], .int .i64 mode] w fun e w' => e = .returned (.tuple #[.int .i64 (zN (roundL n d mode)), .bool (zB (roundL n d mode))]) ∧ Below w.heap.size w w' := by
  cases t1 : fracOkL (n, d)
  · have e0 : roundL n d mode = none := by rw [roundL, if_neg (by simp [t1])]
    rw [e0]
    clear e0
    go_enter Try.func76, Try.ntmps76
    go_wp2_with fail
    refine (iFracOk _ _ _).mono ?_
    rintro e w1 ⟨rfl, hb1⟩
    obtain ⟨hc1, hf1⟩ := keepc hb1
    have hz1a : w.heap.size < w1.heap.size := (by have := hb1.size; first | omega | (simp at this; omega))
    have hB1 : Below w.heap.size w w1 := (by refine Below.trans ?_ (hb1.mono (by first | omega | (simp; done) | (simp; omega))); (repeat (first | (with_reducible exact Below.refl _ _) | (with_reducible assumption) | (with_reducible refine Below.drew ?_) | (with_reducible refine below_drewN ?_ _) | ((with_reducible refine Below.setCell ?_ ?_ _); rotate_left; focus (first | (simp; done) | omega | (simp; omega))) | ((with_reducible refine Below.alloc ?_ ?_ _); rotate_left; focus (first | exact Nat.le_refl _ | omega | (simp; done) | (simp; omega))))))
    go_wp2_with fail
    go_ret2
    exact ⟨rfl, (by (repeat (first | (with_reducible exact Below.refl _ _) | (with_reducible assumption) | (with_reducible refine Below.drew ?_) | (with_reducible refine below_drewN ?_ _) | ((with_reducible refine Below.setCell ?_ ?_ _); rotate_left; focus (first | (simp; done) | omega | (simp; omega))) | ((with_reducible refine Below.alloc ?_ ?_ _); rotate_left; focus (first | exact Nat.le_refl _ | omega | (simp; done) | (simp; omega))))))⟩
  · cases t2 : inB mode 1 4
    · have e0 : roundL n d mode = none := by rw [roundL, if_neg (by simp [t1, t2])]
      rw [e0]
      clear e0
      go_enter Try.func76, Try.ntmps76
      go_wp2_with fail
      refine (iFracOk _ _ _).mono ?_
      rintro e w1 ⟨rfl, hb1⟩
      obtain ⟨hc1, hf1⟩ := keepc hb1
      have hz1a : w.heap.size < w1.heap.size := (by have := hb1.size; first | omega | (simp at this; omega))
      have hB1 : Below w.heap.size w w1 := (by refine Below.trans ?_ (hb1.mono (by first | omega | (simp; done) | (simp; omega))); (repeat (first | (with_reducible exact Below.refl _ _) | (with_reducible assumption) | (with_reducible refine Below.drew ?_) | (with_reducible refine below_drewN ?_ _) | ((with_reducible refine Below.setCell ?_ ?_ _); rotate_left; focus (first | (simp; done) | omega | (simp; omega))) | ((with_reducible refine Below.alloc ?_ ?_ _); rotate_left; focus (first | exact Nat.le_refl _ | omega | (simp; done) | (simp; omega))))))
      go_wp2_with fail
      refine (within_any _ _ _ _).mono ?_
      rintro e w' ⟨rfl, rfl⟩
      go_wp2_with fail
      go_ret2
      exact ⟨rfl, (by (repeat (first | (with_reducible exact Below.refl _ _) | (with_reducible assumption) | (with_reducible refine Below.drew ?_) | (with_reducible refine below_drewN ?_ _) | ((with_reducible refine Below.setCell ?_ ?_ _); rotate_left; focus (first | (simp; done) | omega | (simp; omega))) | ((with_reducible refine Below.alloc ?_ ?_ _); rotate_left; focus (first | exact Nat.le_refl _ | omega | (simp; done) | (simp; omega))))))⟩
    · have hg := fracOkL_iff.1 t1
      obtain ⟨⟨g1, g2⟩, ⟨g3, g4⟩, -⟩ := hg
      have hi := inB_iff.1 t2
      obtain ⟨r, hr⟩ : ∃ r, r = roundL n d mode := ⟨_, rfl⟩
      rw [← hr]
      have hv : r = some (if upB mode (n / d) (n - n / d * d) d = true then n / d + 1 else n / d) := by rw [hr, roundL, if_pos (by simp [t1, t2])]
      clear hr
      obtain ⟨q, hq⟩ : ∃ q, q = n / d := ⟨_, rfl⟩
      have hrb := rest_bd n d (by omega)
      have hab := tdiv_abs n d
      have hft := floor_tdiv n d (by omega)
      have hql : -1000000000001 ≤ q ∧ q ≤ 1000000000000 := by rw [hq, hft]; split <;> omega
      clear hab hft
      rw [← hq] at hv hrb
      have HQ := Lib.hid hq
      clear hq
      obtain ⟨hql1, hql2⟩ := hql
      obtain ⟨hrb1, hrb2⟩ := hrb
      obtain ⟨m, hm⟩ : ∃ m, m = q * d := ⟨_, rfl⟩
      rw [← hm] at hrb1 hrb2 hv
      have HM := Lib.hid hm
      clear hm
      have h4 : mode = 1 ∨ mode = 2 ∨ mode = 3 ∨ mode = 4 := by omega
      clear hi
      rcases h4 with rfl | rfl | rfl | rfl
      · have HV := Lib.hid (show r = some (q) by rw [hv]; simp [upB])
        clear hv
        go_enter Try.func76, Try.ntmps76
        go_wp2_with fail
        refine (iFracOk _ _ _).mono ?_
        rintro e w1 ⟨rfl, hb1⟩
        obtain ⟨hc1, hf1⟩ := keepc hb1
        have hz1a : w.heap.size < w1.heap.size := (by have := hb1.size; first | omega | (simp at this; omega))
        have hB1 : Below w.heap.size w w1 := (by refine Below.trans ?_ (hb1.mono (by first | omega | (simp; done) | (simp; omega))); (repeat (first | (with_reducible exact Below.refl _ _) | (with_reducible assumption) | (with_reducible refine Below.drew ?_) | (with_reducible refine below_drewN ?_ _) | ((with_reducible refine Below.setCell ?_ ?_ _); rotate_left; focus (first | (simp; done) | omega | (simp; omega))) | ((with_reducible refine Below.alloc ?_ ?_ _); rotate_left; focus (first | exact Nat.le_refl _ | omega | (simp; done) | (simp; omega))))))
        go_wp2_with fail
        refine (within_any _ _ _ _).mono ?_
        rintro e w' ⟨rfl, rfl⟩
        go_wp2_with fail
        refine (iFloorDiv _ _ _ (by omega) (by omega) (by omega) (by omega)).mono ?_
        rintro e w' ⟨rfl, rfl⟩
        rw [← HQ.out]
        have wm : q * d = m := HM.out.symm
        go_wp2_with fail
        go_ret2
        exact ⟨by rw [HV.out]; rfl, (by (repeat (first | (with_reducible exact Below.refl _ _) | (with_reducible assumption) | (with_reducible refine Below.drew ?_) | (with_reducible refine below_drewN ?_ _) | ((with_reducible refine Below.setCell ?_ ?_ _); rotate_left; focus (first | (simp; done) | omega | (simp; omega))) | ((with_reducible refine Below.alloc ?_ ?_ _); rotate_left; focus (first | exact Nat.le_refl _ | omega | (simp; done) | (simp; omega))))))⟩
      · by_cases k1 : 0 < n - m
        · have HV := Lib.hid (show r = some (q + 1) by rw [hv]; simp [upB]; intro _; omega)
          clear hv
          go_enter Try.func76, Try.ntmps76
          go_wp2_with fail
          refine (iFracOk _ _ _).mono ?_
          rintro e w1 ⟨rfl, hb1⟩
          obtain ⟨hc1, hf1⟩ := keepc hb1
          have hz1a : w.heap.size < w1.heap.size := (by have := hb1.size; first | omega | (simp at this; omega))
          have hB1 : Below w.heap.size w w1 := (by refine Below.trans ?_ (hb1.mono (by first | omega | (simp; done) | (simp; omega))); (repeat (first | (with_reducible exact Below.refl _ _) | (with_reducible assumption) | (with_reducible refine Below.drew ?_) | (with_reducible refine below_drewN ?_ _) | ((with_reducible refine Below.setCell ?_ ?_ _); rotate_left; focus (first | (simp; done) | omega | (simp; omega))) | ((with_reducible refine Below.alloc ?_ ?_ _); rotate_left; focus (first | exact Nat.le_refl _ | omega | (simp; done) | (simp; omega))))))
          go_wp2_with fail
          refine (within_any _ _ _ _).mono ?_
          rintro e w' ⟨rfl, rfl⟩
          go_wp2_with fail
          refine (iFloorDiv _ _ _ (by omega) (by omega) (by omega) (by omega)).mono ?_
          rintro e w' ⟨rfl, rfl⟩
          rw [← HQ.out]
          have wm : q * d = m := HM.out.symm
          go_wp2_with fail
          go_ret2
          exact ⟨by rw [HV.out]; rfl, (by (repeat (first | (with_reducible exact Below.refl _ _) | (with_reducible assumption) | (with_reducible refine Below.drew ?_) | (with_reducible refine below_drewN ?_ _) | ((with_reducible refine Below.setCell ?_ ?_ _); rotate_left; focus (first | (simp; done) | omega | (simp; omega))) | ((with_reducible refine Below.alloc ?_ ?_ _); rotate_left; focus (first | exact Nat.le_refl _ | omega | (simp; done) | (simp; omega))))))⟩
        · have HV := Lib.hid (show r = some (q) by rw [hv]; simp [upB]; intro _; omega)
          clear hv
          go_enter Try.func76, Try.ntmps76
          go_wp2_with fail
          refine (iFracOk _ _ _).mono ?_
          rintro e w1 ⟨rfl, hb1⟩
          obtain ⟨hc1, hf1⟩ := keepc hb1
          have hz1a : w.heap.size < w1.heap.size := (by have := hb1.size; first | omega | (simp at this; omega))
          have hB1 : Below w.heap.size w w1 := (by refine Below.trans ?_ (hb1.mono (by first | omega | (simp; done) | (simp; omega))); (repeat (first | (with_reducible exact Below.refl _ _) | (with_reducible assumption) | (with_reducible refine Below.drew ?_) | (with_reducible refine below_drewN ?_ _) | ((with_reducible refine Below.setCell ?_ ?_ _); rotate_left; focus (first | (simp; done) | omega | (simp; omega))) | ((with_reducible refine Below.alloc ?_ ?_ _); rotate_left; focus (first | exact Nat.le_refl _ | omega | (simp; done) | (simp; omega))))))
          go_wp2_with fail
          refine (within_any _ _ _ _).mono ?_
          rintro e w' ⟨rfl, rfl⟩
          go_wp2_with fail
          refine (iFloorDiv _ _ _ (by omega) (by omega) (by omega) (by omega)).mono ?_
          rintro e w' ⟨rfl, rfl⟩
          rw [← HQ.out]
          have wm : q * d = m := HM.out.symm
          go_wp2_with fail
          go_ret2
          exact ⟨by rw [HV.out]; rfl, (by (repeat (first | (with_reducible exact Below.refl _ _) | (with_reducible assumption) | (with_reducible refine Below.drew ?_) | (with_reducible refine below_drewN ?_ _) | ((with_reducible refine Below.setCell ?_ ?_ _); rotate_left; focus (first | (simp; done) | omega | (simp; omega))) | ((with_reducible refine Below.alloc ?_ ?_ _); rotate_left; focus (first | exact Nat.le_refl _ | omega | (simp; done) | (simp; omega))))))⟩
      · by_cases k1 : d ≤ 2 * (n - m)
        · have HV := Lib.hid (show r = some (q + 1) by rw [hv]; simp [upB, k1])
          clear hv
          go_enter Try.func76, Try.ntmps76
          go_wp2_with fail
          refine (iFracOk _ _ _).mono ?_
          rintro e w1 ⟨rfl, hb1⟩
          obtain ⟨hc1, hf1⟩ := keepc hb1
          have hz1a : w.heap.size < w1.heap.size := (by have := hb1.size; first | omega | (simp at this; omega))
          have hB1 : Below w.heap.size w w1 := (by refine Below.trans ?_ (hb1.mono (by first | omega | (simp; done) | (simp; omega))); (repeat (first | (with_reducible exact Below.refl _ _) | (with_reducible assumption) | (with_reducible refine Below.drew ?_) | (with_reducible refine below_drewN ?_ _) | ((with_reducible refine Below.setCell ?_ ?_ _); rotate_left; focus (first | (simp; done) | omega | (simp; omega))) | ((with_reducible refine Below.alloc ?_ ?_ _); rotate_left; focus (first | exact Nat.le_refl _ | omega | (simp; done) | (simp; omega))))))
          go_wp2_with fail
          refine (within_any _ _ _ _).mono ?_
          rintro e w' ⟨rfl, rfl⟩
          go_wp2_with fail
          refine (iFloorDiv _ _ _ (by omega) (by omega) (by omega) (by omega)).mono ?_
          rintro e w' ⟨rfl, rfl⟩
          rw [← HQ.out]
          have wm : q * d = m := HM.out.symm
          go_wp2_with fail
          go_ret2
          exact ⟨by rw [HV.out]; rfl, (by (repeat (first | (with_reducible exact Below.refl _ _) | (with_reducible assumption) | (with_reducible refine Below.drew ?_) | (with_reducible refine below_drewN ?_ _) | ((with_reducible refine Below.setCell ?_ ?_ _); rotate_left; focus (first | (simp; done) | omega | (simp; omega))) | ((with_reducible refine Below.alloc ?_ ?_ _); rotate_left; focus (first | exact Nat.le_refl _ | omega | (simp; done) | (simp; omega))))))⟩
        · have HV := Lib.hid (show r = some (q) by rw [hv]; simp [upB, k1])
          clear hv
          go_enter Try.func76, Try.ntmps76
          go_wp2_with fail
          refine (iFracOk _ _ _).mono ?_
          rintro e w1 ⟨rfl, hb1⟩
          obtain ⟨hc1, hf1⟩ := keepc hb1
          have hz1a : w.heap.size < w1.heap.size := (by have := hb1.size; first | omega | (simp at this; omega))
          have hB1 : Below w.heap.size w w1 := (by refine Below.trans ?_ (hb1.mono (by first | omega | (simp; done) | (simp; omega))); (repeat (first | (with_reducible exact Below.refl _ _) | (with_reducible assumption) | (with_reducible refine Below.drew ?_) | (with_reducible refine below_drewN ?_ _) | ((with_reducible refine Below.setCell ?_ ?_ _); rotate_left; focus (first | (simp; done) | omega | (simp; omega))) | ((with_reducible refine Below.alloc ?_ ?_ _); rotate_left; focus (first | exact Nat.le_refl _ | omega | (simp; done) | (simp; omega))))))
          go_wp2_with fail
          refine (within_any _ _ _ _).mono ?_
          rintro e w' ⟨rfl, rfl⟩
          go_wp2_with fail
          refine (iFloorDiv _ _ _ (by omega) (by omega) (by omega) (by omega)).mono ?_
          rintro e w' ⟨rfl, rfl⟩
          rw [← HQ.out]
          have wm : q * d = m := HM.out.symm
          go_wp2_with fail
          go_ret2
          exact ⟨by rw [HV.out]; rfl, (by (repeat (first | (with_reducible exact Below.refl _ _) | (with_reducible assumption) | (with_reducible refine Below.drew ?_) | (with_reducible refine below_drewN ?_ _) | ((with_reducible refine Below.setCell ?_ ?_ _); rotate_left; focus (first | (simp; done) | omega | (simp; omega))) | ((with_reducible refine Below.alloc ?_ ?_ _); rotate_left; focus (first | exact Nat.le_refl _ | omega | (simp; done) | (simp; omega))))))⟩
      · by_cases k1 : d < 2 * (n - m)
        · have HV := Lib.hid (show r = some (q + 1) by rw [hv]; simp [upB, k1])
          clear hv
          go_enter Try.func76, Try.ntmps76
          go_wp2_with fail
          refine (iFracOk _ _ _).mono ?_
          rintro e w1 ⟨rfl, hb1⟩
          obtain ⟨hc1, hf1⟩ := keepc hb1
          have hz1a : w.heap.size < w1.heap.size := (by have := hb1.size; first | omega | (simp at this; omega))
          have hB1 : Below w.heap.size w w1 := (by refine Below.trans ?_ (hb1.mono (by first | omega | (simp; done) | (simp; omega))); (repeat (first | (with_reducible exact Below.refl _ _) | (with_reducible assumption) | (with_reducible refine Below.drew ?_) | (with_reducible refine below_drewN ?_ _) | ((with_reducible refine Below.setCell ?_ ?_ _); rotate_left; focus (first | (simp; done) | omega | (simp; omega))) | ((with_reducible refine Below.alloc ?_ ?_ _); rotate_left; focus (first | exact Nat.le_refl _ | omega | (simp; done) | (simp; omega))))))
          go_wp2_with fail
          refine (within_any _ _ _ _).mono ?_
          rintro e w' ⟨rfl, rfl⟩
          go_wp2_with fail
          refine (iFloorDiv _ _ _ (by omega) (by omega) (by omega) (by omega)).mono ?_
          rintro e w' ⟨rfl, rfl⟩
          rw [← HQ.out]
          have wm : q * d = m := HM.out.symm
          go_wp2_with fail
          go_ret2
          exact ⟨by rw [HV.out]; rfl, (by (repeat (first | (with_reducible exact Below.refl _ _) | (with_reducible assumption) | (with_reducible refine Below.drew ?_) | (with_reducible refine below_drewN ?_ _) | ((with_reducible refine Below.setCell ?_ ?_ _); rotate_left; focus (first | (simp; done) | omega | (simp; omega))) | ((with_reducible refine Below.alloc ?_ ?_ _); rotate_left; focus (first | exact Nat.le_refl _ | omega | (simp; done) | (simp; omega))))))⟩
        · cases k2 : (2 * (n - m) == d)
          · have HV := Lib.hid (show r = some (q) by rw [hv]; simp [upB, k1, k2])
            clear hv
            go_enter Try.func76, Try.ntmps76
            go_wp2_with fail
            refine (iFracOk _ _ _).mono ?_
            rintro e w1 ⟨rfl, hb1⟩
            obtain ⟨hc1, hf1⟩ := keepc hb1
            have hz1a : w.heap.size < w1.heap.size := (by have := hb1.size; first | omega | (simp at this; omega))
            have hB1 : Below w.heap.size w w1 := (by refine Below.trans ?_ (hb1.mono (by first | omega | (simp; done) | (simp; omega))); (repeat (first | (with_reducible exact Below.refl _ _) | (with_reducible assumption) | (with_reducible refine Below.drew ?_) | (with_reducible refine below_drewN ?_ _) | ((with_reducible refine Below.setCell ?_ ?_ _); rotate_left; focus (first | (simp; done) | omega | (simp; omega))) | ((with_reducible refine Below.alloc ?_ ?_ _); rotate_left; focus (first | exact Nat.le_refl _ | omega | (simp; done) | (simp; omega))))))
            go_wp2_with fail
            refine (within_any _ _ _ _).mono ?_
            rintro e w' ⟨rfl, rfl⟩
            go_wp2_with fail
            refine (iFloorDiv _ _ _ (by omega) (by omega) (by omega) (by omega)).mono ?_
            rintro e w' ⟨rfl, rfl⟩
            rw [← HQ.out]
            have wm : q * d = m := HM.out.symm
            go_wp2_with fail
            go_ret2
            exact ⟨by rw [HV.out]; rfl, (by (repeat (first | (with_reducible exact Below.refl _ _) | (with_reducible assumption) | (with_reducible refine Below.drew ?_) | (with_reducible refine below_drewN ?_ _) | ((with_reducible refine Below.setCell ?_ ?_ _); rotate_left; focus (first | (simp; done) | omega | (simp; omega))) | ((with_reducible refine Below.alloc ?_ ?_ _); rotate_left; focus (first | exact Nat.le_refl _ | omega | (simp; done) | (simp; omega))))))⟩
          · have k4 := tmod2 q
            cases k3 : (q % 2 != 0)
            · rw [k3] at k4
              have HV := Lib.hid (show r = some (q) by rw [hv]; simp [upB, k1, k2, k3])
              clear hv
              go_enter Try.func76, Try.ntmps76
              go_wp2_with fail
              refine (iFracOk _ _ _).mono ?_
              rintro e w1 ⟨rfl, hb1⟩
              obtain ⟨hc1, hf1⟩ := keepc hb1
              have hz1a : w.heap.size < w1.heap.size := (by have := hb1.size; first | omega | (simp at this; omega))
              have hB1 : Below w.heap.size w w1 := (by refine Below.trans ?_ (hb1.mono (by first | omega | (simp; done) | (simp; omega))); (repeat (first | (with_reducible exact Below.refl _ _) | (with_reducible assumption) | (with_reducible refine Below.drew ?_) | (with_reducible refine below_drewN ?_ _) | ((with_reducible refine Below.setCell ?_ ?_ _); rotate_left; focus (first | (simp; done) | omega | (simp; omega))) | ((with_reducible refine Below.alloc ?_ ?_ _); rotate_left; focus (first | exact Nat.le_refl _ | omega | (simp; done) | (simp; omega))))))
              go_wp2_with fail
              refine (within_any _ _ _ _).mono ?_
              rintro e w' ⟨rfl, rfl⟩
              go_wp2_with fail
              refine (iFloorDiv _ _ _ (by omega) (by omega) (by omega) (by omega)).mono ?_
              rintro e w' ⟨rfl, rfl⟩
              rw [← HQ.out]
              have wm : q * d = m := HM.out.symm
              go_wp2_with fail
              go_ret2
              exact ⟨by rw [HV.out]; rfl, (by (repeat (first | (with_reducible exact Below.refl _ _) | (with_reducible assumption) | (with_reducible refine Below.drew ?_) | (with_reducible refine below_drewN ?_ _) | ((with_reducible refine Below.setCell ?_ ?_ _); rotate_left; focus (first | (simp; done) | omega | (simp; omega))) | ((with_reducible refine Below.alloc ?_ ?_ _); rotate_left; focus (first | exact Nat.le_refl _ | omega | (simp; done) | (simp; omega))))))⟩
            · rw [k3] at k4
              have HV := Lib.hid (show r = some (q + 1) by rw [hv]; simp [upB, k1, k2, k3])
              clear hv
              go_enter Try.func76, Try.ntmps76
              go_wp2_with fail
              refine (iFracOk _ _ _).mono ?_
              rintro e w1 ⟨rfl, hb1⟩
              obtain ⟨hc1, hf1⟩ := keepc hb1
              have hz1a : w.heap.size < w1.heap.size := (by have := hb1.size; first | omega | (simp at this; omega))
              have hB1 : Below w.heap.size w w1 := (by refine Below.trans ?_ (hb1.mono (by first | omega | (simp; done) | (simp; omega))); (repeat (first | (with_reducible exact Below.refl _ _) | (with_reducible assumption) | (with_reducible refine Below.drew ?_) | (with_reducible refine below_drewN ?_ _) | ((with_reducible refine Below.setCell ?_ ?_ _); rotate_left; focus (first | (simp; done) | omega | (simp; omega))) | ((with_reducible refine Below.alloc ?_ ?_ _); rotate_left; focus (first | exact Nat.le_refl _ | omega | (simp; done) | (simp; omega))))))
              go_wp2_with fail
              refine (within_any _ _ _ _).mono ?_
              rintro e w' ⟨rfl, rfl⟩
              go_wp2_with fail
              refine (iFloorDiv _ _ _ (by omega) (by omega) (by omega) (by omega)).mono ?_
              rintro e w' ⟨rfl, rfl⟩
              rw [← HQ.out]
              have wm : q * d = m := HM.out.symm
              go_wp2_with fail
              go_ret2
              exact ⟨by rw [HV.out]; rfl, (by (repeat (first | (with_reducible exact Below.refl _ _) | (with_reducible assumption) | (with_reducible refine Below.drew ?_) | (with_reducible refine below_drewN ?_ _) | ((with_reducible refine Below.setCell ?_ ?_ _); rotate_left; focus (first | (simp; done) | omega | (simp; omega))) | ((with_reducible refine Below.alloc ?_ ?_ _); rotate_left; focus (first | exact Nat.le_refl _ | omega | (simp; done) | (simp; omega))))))⟩
end Go.Proofs.Ytjnckhdmaebfdaa
