/- With a constant index, revalued pay is the sum of the pay. No conditions. -/
import Derived.Test.YtondmakaednpdaaDrawPay
namespace Go.Proofs.Ytondmakaednpdaa
open Go.RowKit

def paySum (L : Nat → Fa) (n : Nat) : Nat → Int
  | 0 => 0
  | k + 1 => paySum L n k + (valFrom L 1 (k : Int) 99 n).getD 0
def oneP (_ : Nat) : Po := ⟨0, 0, 10000⟩
theorem index_one {m : Int} (hm : 0 ≤ m) : indexL 1 oneP m 99 = some 10000 := by
  have h : poHit (oneP 0) m 99 = true := by simp [poHit, oneP, hm]
  have e : ixBest oneP m 99 1 = some 0 := by simp only [ixBest, h, Bool.and_self, if_true]
  rw [indexL, e]
  rfl
theorem paySum_bd {n : Nat} {L : Nat → Fa} (h : payS n L) : ∀ k : Nat, k ≤ 60 → 0 ≤ paySum L n k ∧ paySum L n k ≤ 199900 * (k : Int)
  | 0, _ => by simp [paySum]
  | k + 1, hk => by
    have ih := paySum_bd h k (by omega)
    obtain ⟨v, hv, h1, h2⟩ := h.val (m := (k : Int)) (known := 99) (by omega) (by omega) (by omega)
    rw [paySum, hv]
    simp
    omega
theorem rv_one {n : Nat} {L : Nat → Fa} (h : payS n L) : ∀ k : Nat, k ≤ 30 → rvSum n L 1 oneP 0 30 99 k = paySum L n k
  | 0, _ => rfl
  | k + 1, hk => by
    obtain ⟨v, hv, h1, h2⟩ := h.val (m := (k : Int)) (known := 99) (by omega) (by omega) (by omega)
    rw [rvSum, rv_one h k (by omega), paySum, rvOne, Int.zero_add, hv, index_one (by omega), index_one (by omega), rvOf, if_pos (by omega), Int.mul_tdiv_cancel _ (by omega)]
    rfl
theorem reval_one {n : Nat} {L : Nat → Fa} (h : payS n L) : revalL n L 1 oneP 0 30 99 = paySum L n 30 := by
  have h1 : seOk 1 oneP = true := by decide
  have h2 : (endB 0 && endB 30) = true := by decide
  rw [revalL, if_pos (by rw [h.ok, h1, h2]; rfl)]
  exact rv_one h 30 (by omega)
theorem reval_none (n : Nat) (L : Nat → Fa) (P : Nat → Po) : revalL n L 0 P 0 30 99 = 0 := by
  rw [revalL]
  split
  · exact rvSum_no rfl _
  · rfl

set_option maxRecDepth 4000 in
set_option maxHeartbeats 3200000 in
theorem walkRevalued (A : Option Addr) (n c : Nat) (w : World) (hb : Bys w w.heap.size A n) :
    Calls Try.prog 5 #[.slice A n c] w fun e w' => e = .returned (.bool true) ∧ Below w.heap.size w w' := by
  have hn := hb.1
  by_cases hbig : (1048576 : Int) < n
  · have hd : decide ((1048576 : Int) < n) = true := by simpa using hbig
    go_enter Try.func5, Try.ntmps5
    go_wp2_with fail
    refine (lBig _ _ _ _ (by omega)).mono ?_
    rintro e w' ⟨rfl, rfl⟩
    go_wp2_with fail
    go_ret
    exact ⟨rfl, Below.refl _ _⟩
  · have hbg : decide ((1048576 : Int) < n) = false := by simpa using hbig
    go_enter Try.func5, Try.ntmps5
    go_wp2_with fail
    refine (lBig _ _ _ _ (by omega)).mono ?_
    rintro e w' ⟨rfl, rfl⟩
    go_wp2_with fail
    refine (sDrawPay _ _ _ _ hb).mono ?_
    rintro e w1 ⟨C, D, m0, q0, cC, cD, L, rfl, hpay, rd, hb1⟩
    have hok := hpay.ok
    have hs1 := hb1.size
    have hbx : Below w1.heap.size w1 ((((w1.alloc (.cells #[.slice C m0 cC] 26)).alloc (.cells #[.slice D q0 cD] 29)).alloc (.cells #[.int .i64 0, .int .i64 0, .int .i64 10000] 45)).alloc (.cells #[.slice (some ⟨w1.heap.size + 2, 0, none⟩) 1 1] 29)) := (by (repeat (first | (with_reducible exact Below.refl _ _) | (with_reducible assumption) | (with_reducible refine Below.drew ?_) | (with_reducible refine below_drewN ?_ _) | ((with_reducible refine Below.setCell ?_ ?_ _); rotate_left; focus (first | (simp; done) | omega | (simp; omega))) | ((with_reducible refine Below.alloc ?_ ?_ _); rotate_left; focus (first | exact Nat.le_refl _ | omega | (simp; done) | (simp; omega))))))
    go_wp2_with fail
    go_loopw [6, 7] (fun s i wr => ∃ k : Nat, k ≤ 30 ∧ i = .int .i64 k ∧ s = .int .i64 (paySum L m0 k) ∧ wr.cell? ⟨w1.heap.size, 0, none⟩ = some (.slice C m0 cC) ∧ wr.cell? ⟨w1.heap.size + 3, 0, none⟩ = some (.slice (some ⟨w1.heap.size + 2, 0, none⟩) 1 1) ∧ RdPo wr wr.heap.size (some ⟨w1.heap.size + 2, 0, none⟩) 1 oneP ∧ w1.heap.size + 3 < wr.heap.size ∧ Below w1.heap.size w1 wr) (fun _ i _ => 30 - (intOf i).toNat)
    case atStart =>
      refine ⟨0, by omega, rfl, rfl, by simp [go_sem], by simp [go_sem], ⟨by omega, fun i hi => ?_⟩, by simp, hbx⟩
      obtain rfl : i = 0 := by omega
      exact ⟨w1.heap.size + 2, 0, rfl, by simp, by simp [go_sem, oneP], by simp [go_sem, oneP], by simp [go_sem, oneP]⟩
    case round =>
      obtain ⟨k, hk, rfl, rfl, c0, c3, hx, hz, hbr⟩ := hrel
      have hsr := hbr.size
      have rdr := (rd.below hbr).more hsr
      have hbd := paySum_bd hpay k (by omega)
      by_cases hlt : (k : Int) < 30
      · obtain ⟨v, hv, v1, v2⟩ := hpay.val (m := (k : Int)) (known := 99) (by omega) (by omega) (by omega)
        have VA := sValueAt wr C m0 cC L 1 (k : Int) 99 rdr
        rw [hv] at VA
        have hst : paySum L m0 (k + 1) = paySum L m0 k + v := by rw [paySum, hv]; rfl
        obtain ⟨S, hS⟩ : ∃ S, S = paySum L m0 k := ⟨_, rfl⟩
        rw [← hS] at hst hbd ⊢
        clear hS hv
        have HST := Lib.hid hst
        clear hst
        have m1 : IntKind.i64.wrap (S + v) = S + v := IntWalk.i64_in _ ⟨by omega, by omega⟩
        go_wp2_with fail
        refine VA.mono ?_
        rintro e w5 ⟨rfl, hb5⟩
        clear VA
        obtain ⟨hc5, -⟩ := keepc hb5
        have hs5 := hb5.size
        replace c0 : w5.cell? ⟨w1.heap.size, 0, none⟩ = some (.slice C m0 cC) := by rw [hc5 _ _ (by omega)]; exact c0
        replace c3 : w5.cell? ⟨w1.heap.size + 3, 0, none⟩ = some (.slice (some ⟨w1.heap.size + 2, 0, none⟩) 1 1) := by rw [hc5 _ _ (by omega)]; exact c3
        replace hx := (hx.below hb5).more hs5
        have hB5 := hbr.trans (hb5.mono hsr)
        have hz5 : w1.heap.size + 3 < w5.heap.size := by omega
        clear hc5 hb5
        go_wp2_with fail
        go_roundw
        case rel => exact ⟨k + 1, by omega, by go_num, by rw [HST.out], c0, c3, hx, hz5, hB5⟩
        case measure => simp [intOf]; omega
      · obtain rfl : k = 30 := by omega
        have R1 := fun (s : World) (hs : RdFa s s.heap.size C m0 L) (hx : RdPo s s.heap.size (some ⟨w1.heap.size + 2, 0, none⟩) 1 oneP) => iRevaluedPay s C m0 cC L _ 1 1 oneP 0 30 99 hs hx
        have R2 := fun (s : World) (hs : RdFa s s.heap.size C m0 L) => iRevaluedPay s C m0 cC L none 0 0 oneP 0 30 99 hs ⟨by omega, fun i hi => by omega⟩
        simp only [reval_one hpay] at R1
        simp only [reval_none] at R2
        obtain ⟨S, hS⟩ : ∃ S, S = paySum L m0 30 := ⟨_, rfl⟩
        rw [← hS] at R1 hbd ⊢
        clear hS
        go_wp2_with fail
        refine (R1 _ rdr hx).mono ?_
        rintro e w5 ⟨rfl, hb5⟩
        clear R1
        obtain ⟨hc5, -⟩ := keepc hb5
        have hs5 := hb5.size
        replace c0 : w5.cell? ⟨w1.heap.size, 0, none⟩ = some (.slice C m0 cC) := by rw [hc5 _ _ (by omega)]; exact c0
        have rd5 := (rdr.below hb5).more hs5
        have hB5 := hbr.trans (hb5.mono hsr)
        clear hc5 hb5
        go_wp2_with fail
        refine (R2 _ rd5).mono ?_
        rintro e w6 ⟨rfl, hb6⟩
        have hB6 := hB5.trans (hb6.mono hB5.size)
        go_wp2_with fail
        go_ret
        exact ⟨ret_bool (by simp), hb1.trans (hB6.mono hs1)⟩
end Go.Proofs.Ytondmakaednpdaa
