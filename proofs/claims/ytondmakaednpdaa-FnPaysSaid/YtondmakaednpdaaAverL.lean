/- An average over two adjacent ranges of equal length is the mean of both averages. No conditions. -/
import Derived.Test.YtondmakaednpdaaDrawPay
import Derived.Test.YtondmakaednpdaaAvg
import Derived.Test.YtondmakaednpdaaSSum
import Derived.Test.YtondmakaednpdaaFracM
namespace Go.Proofs.Ytondmakaednpdaa
open Go.RowKit

theorem Bys.more' {w : World} {B B' n : Nat} {A : Option Addr} (h : Bys w B A n) (hB : B ≤ B') : Bys w B' A n :=
  ⟨h.1, fun k hk => by
    obtain ⟨b, off, z, e, hb, hc⟩ := h.2 k hk
    exact ⟨b, off, z, e, by omega, hc⟩⟩
theorem payS.cnt {n : Nat} {L : Nat → Fa} (h : payS n L) {a : Int} (ha : 0 ≤ a) : ∀ k : Nat, a + (k : Int) ≤ 60 → avC (payF L n 99) a k = (k : Int)
  | 0, _ => rfl
  | k + 1, hk => by
    obtain ⟨v, hv, -⟩ := h.val (m := a + (k : Int)) (known := 99) (by omega) (by omega) (by omega)
    rw [avC, h.cnt ha k (by omega), payF, hv]
    simp
theorem payS.tot {n : Nat} {L : Nat → Fa} (h : payS n L) {a : Int} (ha : 0 ≤ a) : ∀ k : Nat, a + (k : Int) ≤ 60 → 0 ≤ avS (payF L n 99) a k ∧ avS (payF L n 99) a k ≤ 199900 * (k : Int)
  | 0, _ => by simp [avS]
  | k + 1, hk => by
    obtain ⟨v, hv, h1, h2⟩ := h.val (m := a + (k : Int)) (known := 99) (by omega) (by omega) (by omega)
    have ih := h.tot ha k (by omega)
    rw [avS, payF, hv]
    simp
    omega
theorem avS_split (f : Int → Option Int) (a : Int) (j : Nat) : ∀ k : Nat, avS f a (j + k) = avS f a j + avS f (a + (j : Int)) k
  | 0 => by simp [avS]
  | k + 1 => by
    rw [← Nat.add_assoc, avS, avS_split f a j k, avS, show a + ((j + k : Nat) : Int) = a + (j : Int) + (k : Int) by omega]
    omega
theorem payS.avg {n : Nat} {L : Nat → Fa} (h : payS n L) {a : Int} {k : Nat} (ha : 0 ≤ a) (hk : 0 < k) (hk2 : a + (k : Int) ≤ 60) : payAvgL n L a (a + (k : Int)) 99 = redL (avS (payF L n 99) a k) (k : Int) := by
  have e1 : endB a = true := inB_t (by omega) (by omega)
  have e2 : endB (a + (k : Int)) = true := inB_t (by omega) (by omega)
  rw [payAvgL, if_pos (by rw [h.ok, e1, e2]; rfl), avgL, show (a + (k : Int) - a).toNat = k by omega, h.cnt ha k hk2, if_neg (by omega)]
/-- Two fractions and their sum: u over v is s over n. -/
theorem sum_over {s t n x1 y1 x2 y2 u v : Int} (hy1 : y1 ≠ 0) (hy2 : y2 ≠ 0) (h1 : s * y1 = x1 * n) (h2 : t * y2 = x2 * n) (h3 : (x1 * y2 + x2 * y1) * v = u * (y1 * y2)) : u * n = (s + t) * v := by
  have hy : y1 * y2 ≠ 0 := Int.mul_ne_zero hy1 hy2
  refine Int.eq_of_mul_eq_mul_right hy ?_
  have e1 : u * n * (y1 * y2) = u * (y1 * y2) * n := by ac_rfl
  have e2 : (x1 * y2 + x2 * y1) * v * n = x1 * n * (y2 * v) + x2 * n * (y1 * v) := by
    rw [Int.add_mul, Int.add_mul]
    congr 1 <;> ac_rfl
  have e3 : (s + t) * v * (y1 * y2) = s * y1 * (y2 * v) + t * y2 * (y1 * v) := by
    rw [Int.add_mul, Int.add_mul]
    congr 1 <;> ac_rfl
  rw [e1, ← h3, e2, ← h1, ← h2, e3]
theorem same_over {a u v p q n : Int} (hn : n ≠ 0) (h1 : u * n = a * v) (h2 : p * n = a * q) : u * q = p * v := by
  refine Int.eq_of_mul_eq_mul_right hn ?_
  have e1 : u * q * n = u * n * q := by ac_rfl
  have e2 : p * v * n = p * n * v := by ac_rfl
  rw [e1, e2, h1, h2]
  ac_rfl
/-- The mean of two averages. -/
theorem mean_law {s t n : Int} (hn : 1 ≤ n) (hn2 : n ≤ 12) (hs : 0 ≤ s) (hs2 : s ≤ 2400000) (ht : 0 ≤ t) (ht2 : t ≤ 2400000) :
    ∃ a b c x : Fr, redL s n = some a ∧ redL t n = some b ∧ redL (s + t) (2 * n) = some c ∧ addL a b = some x ∧ addL c c = some x := by
  obtain ⟨x1, y1, e1, k1, f1, g1, g1b, q1⟩ := redL_parts (n := s) (d := n) hn (by omega) (by omega) (by omega)
  obtain ⟨x2, y2, e2, k2, f2, g2, g2b, q2⟩ := redL_parts (n := t) (d := n) hn (by omega) (by omega) (by omega)
  obtain ⟨x3, y3, e3, k3, f3, g3, g3b, q3⟩ := redL_parts (n := s + t) (d := 2 * n) (by omega) (by omega) (by omega) (by omega)
  have m1 := mul_abs (A := 2400000) (B := 12) (a := x1) (c := y2) (by omega) (by omega) (by omega) (by omega)
  have m2 := mul_abs (A := 2400000) (B := 12) (a := x2) (c := y1) (by omega) (by omega) (by omega) (by omega)
  have m3 := mul_pos1 (A := 12) (B := 12) g1 (show y1 ≤ 12 by omega) g2 (show y2 ≤ 12 by omega)
  have m4 := mul_abs (A := 4800000) (B := 24) (a := x3) (c := y3) (by omega) (by omega) (by omega) (by omega)
  have m5 := mul_pos1 (A := 24) (B := 24) g3 (show y3 ≤ 24 by omega) g3 (show y3 ≤ 24 by omega)
  obtain ⟨u, v, e4, k4, f4, g4, -, -⟩ := redL_parts (n := x1 * y2 + x2 * y1) (d := y1 * y2) m3.1 (by omega) (by omega) (by omega)
  obtain ⟨p, q, e5, k5, f5, g5, -, -⟩ := redL_parts (n := x3 * y3 + x3 * y3) (d := y3 * y3) m5.1 (by omega) (by omega) (by omega)
  have h1 : u * n = (s + t) * v := sum_over (by omega) (by omega) f1 f2 f4
  have h2 : p * (2 * n) = (s + t + (s + t)) * q := sum_over (by omega) (by omega) f3 f3 f5
  have h3 : p * n = (s + t) * q := by
    have e6 : p * (2 * n) = 2 * (p * n) := by ac_rfl
    have e7 : (s + t + (s + t)) * q = 2 * ((s + t) * q) := by rw [Int.add_mul]; omega
    omega
  have h4 : ((u, v) : Fr) = (p, q) := frac_eq k4 k5 (same_over (show n ≠ 0 by omega) h1 h3)
  refine ⟨_, _, _, (u, v), e1, e2, e3, ?_, ?_⟩
  · rw [addL, k1, k2]; exact e4
  · rw [addL, k3, h4]; exact e5

set_option maxRecDepth 4000 in
set_option maxHeartbeats 3200000 in
theorem walkAverages (A : Option Addr) (n c : Nat) (w : World) (hb : Bys w w.heap.size A n) :
    Calls Try.prog 6 #[.slice A n c] w fun e w' => e = .returned (.bool true) ∧ Below w.heap.size w w' := by
  have hn := hb.1
  by_cases hbig : (1048576 : Int) < n
  · have hd : decide ((1048576 : Int) < n) = true := by simpa using hbig
    go_enter Try.func6, Try.ntmps6
    go_wp2_with fail
    refine (lBig _ _ _ _ (by omega)).mono ?_
    rintro e w' ⟨rfl, rfl⟩
    go_wp2_with fail
    go_ret
    exact ⟨rfl, Below.refl _ _⟩
  · have hbg : decide ((1048576 : Int) < n) = false := by simpa using hbig
    go_enter Try.func6, Try.ntmps6
    go_wp2_with fail
    refine (lBig _ _ _ _ (by omega)).mono ?_
    rintro e w' ⟨rfl, rfl⟩
    go_wp2_with fail
    refine (sDrawPay _ _ _ _ hb).mono ?_
    rintro e w1 ⟨C, D, m0, q0, cC, cD, L, rfl, hpay, rd, hb1⟩
    have hok := hpay.ok
    have hs1 := hb1.size
    have hbx : Below w1.heap.size w1 ((w1.alloc (.cells #[.slice C m0 cC] 26)).alloc (.cells #[.slice D q0 cD] 29)) := (by (repeat (first | (with_reducible exact Below.refl _ _) | (with_reducible assumption) | (with_reducible refine Below.drew ?_) | (with_reducible refine below_drewN ?_ _) | ((with_reducible refine Below.setCell ?_ ?_ _); rotate_left; focus (first | (simp; done) | omega | (simp; omega))) | ((with_reducible refine Below.alloc ?_ ?_ _); rotate_left; focus (first | exact Nat.le_refl _ | omega | (simp; done) | (simp; omega))))))
    go_wp2_with fail
    refine (sPlacesAt _ _ _ _ (Bys.more' (hb.below (hb1.trans (hbx.mono hs1))) (by simp; omega))).mono ?_
    rintro e w2 ⟨g, cap, f, rfl, hg0, hg1, hp, hb2⟩
    obtain ⟨hc2, -⟩ := keepc hb2
    have hs2 := hb2.size
    simp at hs2
    have pS : Whole w2 w1.heap.size 26 #[.slice C m0 cC] := ((Whole.new w1 26 #[.slice C m0 cC]).alloc _).below hb2 (by simp; omega)
    have hbb := hbx.trans (hb2.mono (by simp; omega))
    have rd2 := (rd.below hbb).more hbb.size
    have hB2 : Below w.heap.size w w2 := hb1.trans (hbb.mono hs1)
    clear rd hbx hbb hc2 hb1 hb2
    obtain ⟨p0, x0a, x0b⟩ := hp 0 (by omega)
    clear hp
    generalize f 0 = x0 at *
    have y0 := Int.emod_nonneg x0 (show (12 : Int) ≠ 0 by omega)
    have y1 := Int.emod_lt_of_pos x0 (show (0 : Int) < 12 by omega)
    have y2 : x0.tmod 12 = x0 % 12 := Int.tmod_eq_emod_of_nonneg x0a
    obtain ⟨m, hm⟩ : ∃ m, m = x0 % 12 := ⟨_, rfl⟩
    rw [← hm] at y0 y1 y2
    clear hm
    obtain ⟨N, hN⟩ : ∃ N : Nat, (N : Int) = 1 + m := ⟨(1 + m).toNat, by omega⟩
    obtain ⟨ra, rb, rc, rx, ea, eb, ec, ex, ey⟩ := mean_law (s := avS (payF L m0 99) 5 N) (t := avS (payF L m0 99) (5 + (N : Int)) N) (n := 1 + m) (by omega) (by omega) (hpay.tot (by omega) N (by omega)).1 (by have := (hpay.tot (a := 5) (by omega) N (by omega)).2; omega) (hpay.tot (by omega) N (by omega)).1 (by have := (hpay.tot (a := 5 + (N : Int)) (by omega) N (by omega)).2; omega)
    have A1 := hpay.avg (a := 5) (k := N) (by omega) (by omega) (by omega)
    have A2 := hpay.avg (a := 5 + (N : Int)) (k := N) (by omega) (by omega) (by omega)
    have A3 := hpay.avg (a := 5) (k := N + N) (by omega) (by omega) (by omega)
    rw [avS_split] at A3
    rw [hN, ea] at A1
    rw [hN] at A2
    rw [hN] at eb
    rw [eb] at A2
    rw [hN] at ec A3
    rw [show ((N + N : Nat) : Int) = 2 * (1 + m) by omega, ec] at A3
    rw [show 5 + (1 + m) + (1 + m) = 5 + 2 * (1 + m) by omega] at A2
    have C1 := fun (s : World) (hs : RdFa s s.heap.size C m0 L) => iAveragePay s C m0 cC L 5 (5 + (1 + m)) 99 hs
    have C2 := fun (s : World) (hs : RdFa s s.heap.size C m0 L) => iAveragePay s C m0 cC L (5 + (1 + m)) (5 + 2 * (1 + m)) 99 hs
    have C3 := fun (s : World) (hs : RdFa s s.heap.size C m0 L) => iAveragePay s C m0 cC L 5 (5 + 2 * (1 + m)) 99 hs
    rw [A1] at C1
    rw [A2] at C2
    rw [A3] at C3
    obtain ⟨an, ad⟩ := ra
    obtain ⟨bn, bd⟩ := rb
    obtain ⟨cn, cd⟩ := rc
    obtain ⟨xn, xd⟩ := rx
    have C4 := fun (s : World) => sFracAdd an ad bn bd s
    have C5 := fun (s : World) => sFracAdd cn cd cn cd s
    rw [ex] at C4
    rw [ey] at C5
    clear A1 A2 A3 ea eb ec ex ey hpay hok hN
    simp only [vOpt, oN_some, oD_some, oB_some] at C1 C2 C3 C4 C5
    have e1 : IntKind.i64.wrap (1 + m) = 1 + m := IntWalk.i64_in _ ⟨by omega, by omega⟩
    have e2 : IntKind.i64.wrap (5 + (1 + m)) = 5 + (1 + m) := IntWalk.i64_in _ ⟨by omega, by omega⟩
    have e3 : IntKind.i64.wrap (2 * (1 + m)) = 2 * (1 + m) := IntWalk.i64_in _ ⟨by omega, by omega⟩
    have e4 : IntKind.i64.wrap (5 + 2 * (1 + m)) = 5 + 2 * (1 + m) := IntWalk.i64_in _ ⟨by omega, by omega⟩
    have pSq0 : w2.cell? ⟨w1.heap.size, 0, none⟩ = some (.slice C m0 cC) := pS.cell 0
    have pSz := pS.lt
    go_wp2_with fail
    refine (C1 _ rd2).mono ?_
    rintro e w3 ⟨rfl, hb3⟩
    clear pSq0 pSz
    replace pS := (pS.below hb3 pS.lt).alloc (.cells #[.int .i64 an, .int .i64 ad] 48)
    have hx3 : Below w2.heap.size w2 (w3.alloc (.cells #[.int .i64 an, .int .i64 ad] 48)) := hb3.alloc hb3.size _
    have hB3 := hB2.trans (hx3.mono hB2.size)
    have rd3 := (rd2.below hx3).more hx3.size
    have pA : Whole (w3.alloc (.cells #[.int .i64 an, .int .i64 ad] 48)) w3.heap.size 48 #[.int .i64 an, .int .i64 ad] := Whole.new _ _ _
    clear hb3 hx3 C1 rd2 hB2
    obtain ⟨u3, hu3⟩ : ∃ u, u = (w3.alloc (.cells #[.int .i64 an, .int .i64 ad] 48)) := ⟨_, rfl⟩
    obtain ⟨b3, hbq3⟩ : ∃ b, b = w3.heap.size := ⟨_, rfl⟩
    rw [← hu3] at pS pA hB3 rd3
    rw [← hbq3] at pA
    go_upto_region 7 with fail
    rw [← hu3]
    rw [← hbq3]
    clear hu3 hbq3
    have pSq0 : u3.cell? ⟨w1.heap.size, 0, none⟩ = some (.slice C m0 cC) := pS.cell 0
    have pSz := pS.lt
    have pAq0 : u3.cell? ⟨b3, 0, none⟩ = some (.int .i64 an) := pA.cell 0
    have pAq1 : u3.cell? ⟨b3, 1, none⟩ = some (.int .i64 ad) := pA.cell 1
    have pAz := pA.lt
    go_wp2_with fail
    refine (C2 _ rd3).mono ?_
    rintro e w4 ⟨rfl, hb4⟩
    clear pSq0 pAq0 pAq1 pSz pAz
    replace pS := (pS.below hb4 pS.lt).alloc (.cells #[.int .i64 bn, .int .i64 bd] 48)
    replace pA := (pA.below hb4 pA.lt).alloc (.cells #[.int .i64 bn, .int .i64 bd] 48)
    have hx4 : Below u3.heap.size u3 (w4.alloc (.cells #[.int .i64 bn, .int .i64 bd] 48)) := hb4.alloc hb4.size _
    have hB4 := hB3.trans (hx4.mono hB3.size)
    have rd4 := (rd3.below hx4).more hx4.size
    have pBB : Whole (w4.alloc (.cells #[.int .i64 bn, .int .i64 bd] 48)) w4.heap.size 48 #[.int .i64 bn, .int .i64 bd] := Whole.new _ _ _
    clear hb4 hx4 C2 rd3 hB3
    obtain ⟨u4, hu4⟩ : ∃ u, u = (w4.alloc (.cells #[.int .i64 bn, .int .i64 bd] 48)) := ⟨_, rfl⟩
    obtain ⟨b4, hbq4⟩ : ∃ b, b = w4.heap.size := ⟨_, rfl⟩
    rw [← hu4] at pS pA pBB hB4 rd4
    rw [← hbq4] at pBB
    go_upto_region 8 with fail
    rw [← hu4]
    rw [← hbq4]
    clear hu4 hbq4
    have pSq0 : u4.cell? ⟨w1.heap.size, 0, none⟩ = some (.slice C m0 cC) := pS.cell 0
    have pSz := pS.lt
    have pAq0 : u4.cell? ⟨b3, 0, none⟩ = some (.int .i64 an) := pA.cell 0
    have pAq1 : u4.cell? ⟨b3, 1, none⟩ = some (.int .i64 ad) := pA.cell 1
    have pAz := pA.lt
    have pBBq0 : u4.cell? ⟨b4, 0, none⟩ = some (.int .i64 bn) := pBB.cell 0
    have pBBq1 : u4.cell? ⟨b4, 1, none⟩ = some (.int .i64 bd) := pBB.cell 1
    have pBBz := pBB.lt
    go_wp2_with fail
    refine (C3 _ rd4).mono ?_
    rintro e w5 ⟨rfl, hb5⟩
    clear pSq0 pAq0 pAq1 pBBq0 pBBq1 pSz pAz pBBz
    replace pS := (pS.below hb5 pS.lt).alloc (.cells #[.int .i64 cn, .int .i64 cd] 48)
    replace pA := (pA.below hb5 pA.lt).alloc (.cells #[.int .i64 cn, .int .i64 cd] 48)
    replace pBB := (pBB.below hb5 pBB.lt).alloc (.cells #[.int .i64 cn, .int .i64 cd] 48)
    have hx5 : Below u4.heap.size u4 (w5.alloc (.cells #[.int .i64 cn, .int .i64 cd] 48)) := hb5.alloc hb5.size _
    have hB5 := hB4.trans (hx5.mono hB4.size)
    have rd5 := (rd4.below hx5).more hx5.size
    have pC : Whole (w5.alloc (.cells #[.int .i64 cn, .int .i64 cd] 48)) w5.heap.size 48 #[.int .i64 cn, .int .i64 cd] := Whole.new _ _ _
    clear hb5 hx5 C3 rd4 hB4
    obtain ⟨u5, hu5⟩ : ∃ u, u = (w5.alloc (.cells #[.int .i64 cn, .int .i64 cd] 48)) := ⟨_, rfl⟩
    obtain ⟨b5, hbq5⟩ : ∃ b, b = w5.heap.size := ⟨_, rfl⟩
    rw [← hu5] at pS pA pBB pC hB5 rd5
    rw [← hbq5] at pC
    go_upto_region 9 with fail
    rw [← hu5]
    rw [← hbq5]
    clear hu5 hbq5
    have pSq0 : u5.cell? ⟨w1.heap.size, 0, none⟩ = some (.slice C m0 cC) := pS.cell 0
    have pSz := pS.lt
    have pAq0 : u5.cell? ⟨b3, 0, none⟩ = some (.int .i64 an) := pA.cell 0
    have pAq1 : u5.cell? ⟨b3, 1, none⟩ = some (.int .i64 ad) := pA.cell 1
    have pAz := pA.lt
    have pBBq0 : u5.cell? ⟨b4, 0, none⟩ = some (.int .i64 bn) := pBB.cell 0
    have pBBq1 : u5.cell? ⟨b4, 1, none⟩ = some (.int .i64 bd) := pBB.cell 1
    have pBBz := pBB.lt
    have pCq0 : u5.cell? ⟨b5, 0, none⟩ = some (.int .i64 cn) := pC.cell 0
    have pCq1 : u5.cell? ⟨b5, 1, none⟩ = some (.int .i64 cd) := pC.cell 1
    have pCz := pC.lt
    go_wp2_with fail
    refine (C4 _).mono ?_
    rintro e w6 ⟨rfl, hb6⟩
    clear pSq0 pAq0 pAq1 pBBq0 pBBq1 pCq0 pCq1 pSz pAz pBBz pCz
    replace pS := (pS.below hb6 pS.lt).alloc (.cells #[.int .i64 xn, .int .i64 xd] 48)
    replace pA := (pA.below hb6 pA.lt).alloc (.cells #[.int .i64 xn, .int .i64 xd] 48)
    replace pBB := (pBB.below hb6 pBB.lt).alloc (.cells #[.int .i64 xn, .int .i64 xd] 48)
    replace pC := (pC.below hb6 pC.lt).alloc (.cells #[.int .i64 xn, .int .i64 xd] 48)
    have hx6 : Below u5.heap.size u5 (w6.alloc (.cells #[.int .i64 xn, .int .i64 xd] 48)) := hb6.alloc hb6.size _
    have hB6 := hB5.trans (hx6.mono hB5.size)
    have rd6 := (rd5.below hx6).more hx6.size
    have pX : Whole (w6.alloc (.cells #[.int .i64 xn, .int .i64 xd] 48)) w6.heap.size 48 #[.int .i64 xn, .int .i64 xd] := Whole.new _ _ _
    clear hb6 hx6 C4 rd5 hB5
    obtain ⟨u6, hu6⟩ : ∃ u, u = (w6.alloc (.cells #[.int .i64 xn, .int .i64 xd] 48)) := ⟨_, rfl⟩
    obtain ⟨b6, hbq6⟩ : ∃ b, b = w6.heap.size := ⟨_, rfl⟩
    rw [← hu6] at pS pA pBB pC pX hB6 rd6
    rw [← hbq6] at pX
    go_upto_region 10 with fail
    rw [← hu6]
    rw [← hbq6]
    clear hu6 hbq6
    have pSq0 : u6.cell? ⟨w1.heap.size, 0, none⟩ = some (.slice C m0 cC) := pS.cell 0
    have pSz := pS.lt
    have pAq0 : u6.cell? ⟨b3, 0, none⟩ = some (.int .i64 an) := pA.cell 0
    have pAq1 : u6.cell? ⟨b3, 1, none⟩ = some (.int .i64 ad) := pA.cell 1
    have pAz := pA.lt
    have pBBq0 : u6.cell? ⟨b4, 0, none⟩ = some (.int .i64 bn) := pBB.cell 0
    have pBBq1 : u6.cell? ⟨b4, 1, none⟩ = some (.int .i64 bd) := pBB.cell 1
    have pBBz := pBB.lt
    have pCq0 : u6.cell? ⟨b5, 0, none⟩ = some (.int .i64 cn) := pC.cell 0
    have pCq1 : u6.cell? ⟨b5, 1, none⟩ = some (.int .i64 cd) := pC.cell 1
    have pCz := pC.lt
    have pXq0 : u6.cell? ⟨b6, 0, none⟩ = some (.int .i64 xn) := pX.cell 0
    have pXq1 : u6.cell? ⟨b6, 1, none⟩ = some (.int .i64 xd) := pX.cell 1
    have pXz := pX.lt
    go_wp2_with fail
    refine (C5 _).mono ?_
    rintro e w7 ⟨rfl, hb7⟩
    clear pSq0 pAq0 pAq1 pBBq0 pBBq1 pCq0 pCq1 pXq0 pXq1 pSz pAz pBBz pCz pXz
    replace pS := (pS.below hb7 pS.lt).alloc (.cells #[.int .i64 xn, .int .i64 xd] 48)
    replace pA := (pA.below hb7 pA.lt).alloc (.cells #[.int .i64 xn, .int .i64 xd] 48)
    replace pBB := (pBB.below hb7 pBB.lt).alloc (.cells #[.int .i64 xn, .int .i64 xd] 48)
    replace pC := (pC.below hb7 pC.lt).alloc (.cells #[.int .i64 xn, .int .i64 xd] 48)
    replace pX := (pX.below hb7 pX.lt).alloc (.cells #[.int .i64 xn, .int .i64 xd] 48)
    have hx7 : Below u6.heap.size u6 (w7.alloc (.cells #[.int .i64 xn, .int .i64 xd] 48)) := hb7.alloc hb7.size _
    have hB7 := hB6.trans (hx7.mono hB6.size)
    have rd7 := (rd6.below hx7).more hx7.size
    have pY : Whole (w7.alloc (.cells #[.int .i64 xn, .int .i64 xd] 48)) w7.heap.size 48 #[.int .i64 xn, .int .i64 xd] := Whole.new _ _ _
    clear hb7 hx7 C5 rd6 hB6
    obtain ⟨u7, hu7⟩ : ∃ u, u = (w7.alloc (.cells #[.int .i64 xn, .int .i64 xd] 48)) := ⟨_, rfl⟩
    obtain ⟨b7, hbq7⟩ : ∃ b, b = w7.heap.size := ⟨_, rfl⟩
    rw [← hu7] at pS pA pBB pC pX pY hB7 rd7
    rw [← hbq7] at pY
    go_upto_region 11 with fail
    rw [← hu7]
    rw [← hbq7]
    clear hu7 hbq7
    have pSq0 : u7.cell? ⟨w1.heap.size, 0, none⟩ = some (.slice C m0 cC) := pS.cell 0
    have pSz := pS.lt
    have pAq0 : u7.cell? ⟨b3, 0, none⟩ = some (.int .i64 an) := pA.cell 0
    have pAq1 : u7.cell? ⟨b3, 1, none⟩ = some (.int .i64 ad) := pA.cell 1
    have pAz := pA.lt
    have pBBq0 : u7.cell? ⟨b4, 0, none⟩ = some (.int .i64 bn) := pBB.cell 0
    have pBBq1 : u7.cell? ⟨b4, 1, none⟩ = some (.int .i64 bd) := pBB.cell 1
    have pBBz := pBB.lt
    have pCq0 : u7.cell? ⟨b5, 0, none⟩ = some (.int .i64 cn) := pC.cell 0
    have pCq1 : u7.cell? ⟨b5, 1, none⟩ = some (.int .i64 cd) := pC.cell 1
    have pCz := pC.lt
    have pXq0 : u7.cell? ⟨b6, 0, none⟩ = some (.int .i64 xn) := pX.cell 0
    have pXq1 : u7.cell? ⟨b6, 1, none⟩ = some (.int .i64 xd) := pX.cell 1
    have pXz := pX.lt
    have pYq0 : u7.cell? ⟨b7, 0, none⟩ = some (.int .i64 xn) := pY.cell 0
    have pYq1 : u7.cell? ⟨b7, 1, none⟩ = some (.int .i64 xd) := pY.cell 1
    have pYz := pY.lt
    go_wp2_with fail
    go_ret
    exact ⟨ret_bool (by simp), hB7⟩
end Go.Proofs.Ytondmakaednpdaa
