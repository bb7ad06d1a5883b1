/- The average pay lies between the least and the greatest pay, and the best one is not below it. No conditions. -/
import Derived.Test.YtondmakaednpdaaPaysL
import Derived.Test.YtondmakaednpdaaFinal
namespace Go.Proofs.Ytondmakaednpdaa
open Go.RowKit

set_option maxRecDepth 4000 in
set_option maxHeartbeats 3200000 in
theorem walkPays (A : Option Addr) (n c : Nat) (w : World) (hb : Bys w w.heap.size A n) :
    Calls Try.prog 8 #[.slice A n c] w fun e w' => e = .returned (.bool true) ∧ Below w.heap.size w w' := by
  have hn := hb.1
  by_cases hbig : (1048576 : Int) < n
  · have hd : decide ((1048576 : Int) < n) = true := by simpa using hbig
    go_enter Try.func8, Try.ntmps8
    go_wp2_with fail
    refine (lBig _ _ _ _ (by omega)).mono ?_
    rintro e w' ⟨rfl, rfl⟩
    go_wp2_with fail
    go_ret
    exact ⟨rfl, Below.refl _ _⟩
  · have hbg : decide ((1048576 : Int) < n) = false := by simpa using hbig
    go_enter Try.func8, Try.ntmps8
    go_wp2_with fail
    refine (lBig _ _ _ _ (by omega)).mono ?_
    rintro e w' ⟨rfl, rfl⟩
    go_wp2_with fail
    refine (sDrawPay _ _ _ _ hb).mono ?_
    rintro e w1 ⟨C, D, m0, q0, cC, cD, L, rfl, hpay, rd, hb1⟩
    have hok := hpay.ok
    have hs1 := hb1.size
    have hbx : Below w1.heap.size w1 ((w1.alloc (.cells #[.slice C m0 cC] 26)).alloc (.cells #[.slice D q0 cD] 29)) := (by (repeat (first | (with_reducible exact Below.refl _ _) | (with_reducible assumption) | (with_reducible refine Below.drew ?_) | (with_reducible refine below_drewN ?_ _) | ((with_reducible refine Below.setCell ?_ ?_ _); rotate_left; focus (first | (simp; done) | omega | (simp; omega))) | ((with_reducible refine Below.alloc ?_ ?_ _); rotate_left; focus (first | exact Nat.le_refl _ | omega | (simp; done) | (simp; omega))))))
    have pS : Whole ((w1.alloc (.cells #[.slice C m0 cC] 26)).alloc (.cells #[.slice D q0 cD] 29)) w1.heap.size 26 #[.slice C m0 cC] := (Whole.new w1 26 #[.slice C m0 cC]).alloc _
    have rd1 := (rd.below hbx).more hbx.size
    have hB1 : Below w.heap.size w _ := hb1.trans (hbx.mono hs1)
    obtain ⟨⟨xn, xd⟩, ⟨bn, bd⟩, at0, v0, q1, q2, q3, q4, q5, q6, q7, q8, q9⟩ := pays_law hpay
    have C1 := fun (s : World) (hs : RdFa s s.heap.size C m0 L) => iAveragePay s C m0 cC L 24 36 99 hs
    have C2 := fun (s : World) (hs : RdFa s s.heap.size C m0 L) => iBestPay s C m0 cC L 0 36 12 99 hs
    have C3 := fun (s : World) (hs : RdFa s s.heap.size C m0 L) => iFinalPay s C m0 cC L 36 99 hs
    have C4 := fun (s : World) (hs : RdFa s s.heap.size C m0 L) => sValueAt s C m0 cC L 1 35 99 hs
    have C5 := fun (s : World) => sFracCmp xn xd (lowF m0 L 12) 1 s
    have C6 := fun (s : World) => sFracCmp xn xd (highF m0 L 12) 1 s
    have C7 := fun (s : World) => sFracCmp bn bd xn xd s
    rw [q1] at C1
    rw [q2] at C2
    rw [q3] at C3
    rw [q4] at C4
    simp only [vOpt, oN_some, oD_some, oB_some] at C1
    simp only [vBest, bN, bD, bM, Option.isSome_some] at C2
    simp only [Option.getD_some, Option.isSome_some] at C3 C4
    generalize cmpL (xn, xd) (lowF m0 L 12, 1) = r1 at *
    generalize cmpL (xn, xd) (highF m0 L 12, 1) = r2 at *
    generalize cmpL (bn, bd) (xn, xd) = r3 at *
    have CV := fun (s : World) (k : Nat) (hs : RdFa s s.heap.size C m0 L) => sValueAt s C m0 cC L 1 (24 + (k : Int)) 99 hs
    have LS := lowF_succ m0 L
    have HS := highF_succ m0 L
    obtain ⟨lo, hlo⟩ : ∃ lo, lo = lowF m0 L := ⟨_, rfl⟩
    obtain ⟨hi, hhi⟩ : ∃ hi, hi = highF m0 L := ⟨_, rfl⟩
    have L0 : lo 0 = 1000000000 := by rw [hlo]; rfl
    have H0 : hi 0 = 0 := by rw [hhi]; rfl
    rw [← hlo] at LS C5
    rw [← hhi] at HS C6
    have LSH := Lib.hid LS
    have HSH := Lib.hid HS
    have L0H := Lib.hid L0
    have H0H := Lib.hid H0
    clear q1 q2 q3 q4 hpay hok hbx rd hb1 hs1 LS HS L0 H0 hlo hhi hb
    obtain ⟨u1, hu1⟩ : ∃ u, u = ((w1.alloc (.cells #[.slice C m0 cC] 26)).alloc (.cells #[.slice D q0 cD] 29)) := ⟨_, rfl⟩
    rw [← hu1] at pS rd1 hB1
    obtain ⟨b1, hbq1⟩ : ∃ b, b = w1.heap.size := ⟨_, rfl⟩
    rw [← hbq1] at pS
    go_upto_region 4 with fail
    rw [← hu1]
    rw [← hbq1]
    clear hu1 hbq1
    have pSq0 : u1.cell? ⟨b1, 0, none⟩ = some (.slice C m0 cC) := pS.cell 0
    have pSz := pS.lt
    go_wp2_with fail
    refine (C1 _ rd1).mono ?_
    rintro e w2 ⟨rfl, hb2⟩
    clear pSq0 pSz
    replace pS := (pS.below hb2 pS.lt).alloc (.cells #[.int .i64 xn, .int .i64 xd] 48)
    have hx2 : Below u1.heap.size u1 (w2.alloc (.cells #[.int .i64 xn, .int .i64 xd] 48)) := hb2.alloc hb2.size _
    have hB2 := hB1.trans (hx2.mono hB1.size)
    have rd2 := (rd1.below hx2).more hx2.size
    have pA : Whole (w2.alloc (.cells #[.int .i64 xn, .int .i64 xd] 48)) w2.heap.size 48 #[.int .i64 xn, .int .i64 xd] := Whole.new _ _ _
    clear hb2 hx2 C1 rd1 hB1
    obtain ⟨u2, hu2⟩ : ∃ u, u = (w2.alloc (.cells #[.int .i64 xn, .int .i64 xd] 48)) := ⟨_, rfl⟩
    obtain ⟨b2, hbq2⟩ : ∃ b, b = w2.heap.size := ⟨_, rfl⟩
    rw [← hu2] at pS pA hB2 rd2
    rw [← hbq2] at pA
    go_upto_region 5 with fail
    rw [← hu2]
    rw [← hbq2]
    clear hu2 hbq2
    have pSq0 : u2.cell? ⟨b1, 0, none⟩ = some (.slice C m0 cC) := pS.cell 0
    have pSz := pS.lt
    have pAq0 : u2.cell? ⟨b2, 0, none⟩ = some (.int .i64 xn) := pA.cell 0
    have pAq1 : u2.cell? ⟨b2, 1, none⟩ = some (.int .i64 xd) := pA.cell 1
    have pAz := pA.lt
    go_wp2_with fail
    refine (C2 _ rd2).mono ?_
    rintro e w3 ⟨rfl, hb3⟩
    clear pSq0 pAq0 pAq1 pSz pAz
    replace pS := (pS.below hb3 pS.lt).alloc (.cells #[.int .i64 bn, .int .i64 bd] 48)
    replace pA := (pA.below hb3 pA.lt).alloc (.cells #[.int .i64 bn, .int .i64 bd] 48)
    have hx3 : Below u2.heap.size u2 (w3.alloc (.cells #[.int .i64 bn, .int .i64 bd] 48)) := hb3.alloc hb3.size _
    have hB3 := hB2.trans (hx3.mono hB2.size)
    have rd3 := (rd2.below hx3).more hx3.size
    have pB : Whole (w3.alloc (.cells #[.int .i64 bn, .int .i64 bd] 48)) w3.heap.size 48 #[.int .i64 bn, .int .i64 bd] := Whole.new _ _ _
    clear hb3 hx3 C2 rd2 hB2
    obtain ⟨u3, hu3⟩ : ∃ u, u = (w3.alloc (.cells #[.int .i64 bn, .int .i64 bd] 48)) := ⟨_, rfl⟩
    obtain ⟨b3, hbq3⟩ : ∃ b, b = w3.heap.size := ⟨_, rfl⟩
    rw [← hu3] at pS pA pB hB3 rd3
    rw [← hbq3] at pB
    go_upto_region 6 with fail
    rw [← hu3]
    rw [← hbq3]
    clear hu3 hbq3
    have pSq0 : u3.cell? ⟨b1, 0, none⟩ = some (.slice C m0 cC) := pS.cell 0
    have pSz := pS.lt
    have pAq0 : u3.cell? ⟨b2, 0, none⟩ = some (.int .i64 xn) := pA.cell 0
    have pAq1 : u3.cell? ⟨b2, 1, none⟩ = some (.int .i64 xd) := pA.cell 1
    have pAz := pA.lt
    have pBq0 : u3.cell? ⟨b3, 0, none⟩ = some (.int .i64 bn) := pB.cell 0
    have pBq1 : u3.cell? ⟨b3, 1, none⟩ = some (.int .i64 bd) := pB.cell 1
    have pBz := pB.lt
    go_wp2_with fail
    refine (C3 _ rd3).mono ?_
    rintro e w4 ⟨rfl, hb4⟩
    clear pSq0 pAq0 pAq1 pBq0 pBq1 pSz pAz pBz
    replace pS := pS.below hb4 pS.lt
    replace pA := pA.below hb4 pA.lt
    replace pB := pB.below hb4 pB.lt
    have hB4 := hB3.trans (hb4.mono hB3.size)
    have rd4 := (rd3.below hb4).more hb4.size
    clear hb4 rd3 hB3
    clear C3
    have pSq0 : w4.cell? ⟨b1, 0, none⟩ = some (.slice C m0 cC) := pS.cell 0
    have pSz := pS.lt
    have pAq0 : w4.cell? ⟨b2, 0, none⟩ = some (.int .i64 xn) := pA.cell 0
    have pAq1 : w4.cell? ⟨b2, 1, none⟩ = some (.int .i64 xd) := pA.cell 1
    have pAz := pA.lt
    have pBq0 : w4.cell? ⟨b3, 0, none⟩ = some (.int .i64 bn) := pB.cell 0
    have pBq1 : w4.cell? ⟨b3, 1, none⟩ = some (.int .i64 bd) := pB.cell 1
    have pBz := pB.lt
    go_wp2_with fail
    go_loopw [12, 13, 14] (fun s h i wr => ∃ k : Nat, k ≤ 12 ∧ i = .int .i64 (24 + (k : Int)) ∧ s = .int .i64 (lo k) ∧ h = .int .i64 (hi k) ∧ Whole wr b1 26 #[.slice C m0 cC] ∧ Whole wr b2 48 #[.int .i64 xn, .int .i64 xd] ∧ Whole wr b3 48 #[.int .i64 bn, .int .i64 bd] ∧ RdFa wr wr.heap.size C m0 L ∧ Below w.heap.size w wr) (fun _ _ i _ => (36 - intOf i).toNat)
    case atStart => exact ⟨0, by omega, rfl, by rw [L0H.out], by rw [H0H.out], pS, pA, pB, rd4, hB4⟩
    case round =>
      clear pSq0 pAq0 pAq1 pBq0 pBq1 pSz pAz pBz pS pA pB rd4 hB4
      obtain ⟨k, hk, rfl, rfl, rfl, pS, pA, pB, rdr, hbr⟩ := hrel
      have hS := LSH.out k
      have hT := HSH.out k
      by_cases hlt : k < 12
      · have hlt2 : 24 + (k : Int) < 36 := by omega
        have w1k : IntKind.i64.wrap (24 + (k : Int) + 1) = 24 + (k : Int) + 1 := IntWalk.i64_in _ ⟨by omega, by omega⟩
        have HSS := Lib.hid hS
        have HTT := Lib.hid hT
        clear hS hT
        have pSq0 : wr.cell? ⟨b1, 0, none⟩ = some (.slice C m0 cC) := pS.cell 0
        have pSz := pS.lt
        have pAq0 : wr.cell? ⟨b2, 0, none⟩ = some (.int .i64 xn) := pA.cell 0
        have pAq1 : wr.cell? ⟨b2, 1, none⟩ = some (.int .i64 xd) := pA.cell 1
        have pAz := pA.lt
        have pBq0 : wr.cell? ⟨b3, 0, none⟩ = some (.int .i64 bn) := pB.cell 0
        have pBq1 : wr.cell? ⟨b3, 1, none⟩ = some (.int .i64 bd) := pB.cell 1
        have pBz := pB.lt
        go_wp2_with fail
        refine (CV _ k rdr).mono ?_
        rintro e w5 ⟨rfl, hb5⟩
        clear pSq0 pAq0 pAq1 pBq0 pBq1 pSz pAz pBz
        replace pS := pS.below hb5 pS.lt
        replace pA := pA.below hb5 pA.lt
        replace pB := pB.below hb5 pB.lt
        have hB5 := hbr.trans (hb5.mono hbr.size)
        have rd5 := (rdr.below hb5).more hb5.size
        clear hb5 rdr hbr
        generalize (valFrom L 1 (24 + (k : Int)) 99 m0).getD 0 = vk at *
        go_wp2_with fail
        go_roundw
        case rel => exact ⟨k + 1, by omega, by push_cast; go_num, by rw [HSS.out]; refine congrArg (Value.int .i64) ?_; split <;> omega, by rw [HTT.out]; refine congrArg (Value.int .i64) ?_; split <;> omega, pS, pA, pB, rd5, hB5⟩
        case measure => simp [intOf]; omega
      · obtain rfl : k = 12 := by omega
        clear hS hT
        have pSq0 : wr.cell? ⟨b1, 0, none⟩ = some (.slice C m0 cC) := pS.cell 0
        have pSz := pS.lt
        have pAq0 : wr.cell? ⟨b2, 0, none⟩ = some (.int .i64 xn) := pA.cell 0
        have pAq1 : wr.cell? ⟨b2, 1, none⟩ = some (.int .i64 xd) := pA.cell 1
        have pAz := pA.lt
        have pBq0 : wr.cell? ⟨b3, 0, none⟩ = some (.int .i64 bn) := pB.cell 0
        have pBq1 : wr.cell? ⟨b3, 1, none⟩ = some (.int .i64 bd) := pB.cell 1
        have pBz := pB.lt
        go_wp2_with fail
        refine (C4 _ rdr).mono ?_
        rintro e w6 ⟨rfl, hb6⟩
        clear pSq0 pAq0 pAq1 pBq0 pBq1 pSz pAz pBz
        replace pS := pS.below hb6 pS.lt
        replace pA := pA.below hb6 pA.lt
        replace pB := pB.below hb6 pB.lt
        have hB6 := hbr.trans (hb6.mono hbr.size)
        have rd6 := (rdr.below hb6).more hb6.size
        clear hb6 rdr hbr
        clear C4
        generalize lo 12 = lw at *
        generalize hi 12 = hg at *
        have pSq0 : w6.cell? ⟨b1, 0, none⟩ = some (.slice C m0 cC) := pS.cell 0
        have pSz := pS.lt
        have pAq0 : w6.cell? ⟨b2, 0, none⟩ = some (.int .i64 xn) := pA.cell 0
        have pAq1 : w6.cell? ⟨b2, 1, none⟩ = some (.int .i64 xd) := pA.cell 1
        have pAz := pA.lt
        have pBq0 : w6.cell? ⟨b3, 0, none⟩ = some (.int .i64 bn) := pB.cell 0
        have pBq1 : w6.cell? ⟨b3, 1, none⟩ = some (.int .i64 bd) := pB.cell 1
        have pBz := pB.lt
        go_wp2_with fail
        refine (C5 _).mono ?_
        rintro e w7 ⟨rfl, hb7⟩
        clear pSq0 pAq0 pAq1 pBq0 pBq1 pSz pAz pBz
        replace pS := pS.below (hb7.mono (by simp)) pS.lt
        replace pA := pA.below (hb7.mono (by simp)) pA.lt
        replace pB := pB.below (hb7.mono (by simp)) pB.lt
        have hB7 := hB6.trans (hb7.mono hB6.size)
        clear hB6 rd6 hb7
        have pSq0 : w7.cell? ⟨b1, 0, none⟩ = some (.slice C m0 cC) := pS.cell 0
        have pSz := pS.lt
        have pAq0 : w7.cell? ⟨b2, 0, none⟩ = some (.int .i64 xn) := pA.cell 0
        have pAq1 : w7.cell? ⟨b2, 1, none⟩ = some (.int .i64 xd) := pA.cell 1
        have pAz := pA.lt
        have pBq0 : w7.cell? ⟨b3, 0, none⟩ = some (.int .i64 bn) := pB.cell 0
        have pBq1 : w7.cell? ⟨b3, 1, none⟩ = some (.int .i64 bd) := pB.cell 1
        have pBz := pB.lt
        go_wp2_with fail
        refine (C6 _).mono ?_
        rintro e w8 ⟨rfl, hb8⟩
        clear pSq0 pAq0 pAq1 pBq0 pBq1 pSz pAz pBz
        replace pS := pS.below hb8 pS.lt
        replace pA := pA.below hb8 pA.lt
        replace pB := pB.below hb8 pB.lt
        have hB8 := hB7.trans (hb8.mono hB7.size)
        clear hB7 hb8
        have pSq0 : w8.cell? ⟨b1, 0, none⟩ = some (.slice C m0 cC) := pS.cell 0
        have pSz := pS.lt
        have pAq0 : w8.cell? ⟨b2, 0, none⟩ = some (.int .i64 xn) := pA.cell 0
        have pAq1 : w8.cell? ⟨b2, 1, none⟩ = some (.int .i64 xd) := pA.cell 1
        have pAz := pA.lt
        have pBq0 : w8.cell? ⟨b3, 0, none⟩ = some (.int .i64 bn) := pB.cell 0
        have pBq1 : w8.cell? ⟨b3, 1, none⟩ = some (.int .i64 bd) := pB.cell 1
        have pBz := pB.lt
        go_wp2_with fail
        refine (C7 _).mono ?_
        rintro e w9 ⟨rfl, hb9⟩
        have hB9 := hB8.trans (hb9.mono hB8.size)
        go_wp2_with fail
        go_ret
        exact ⟨ret_bool (by simp), hB9⟩
end Go.Proofs.Ytondmakaednpdaa
