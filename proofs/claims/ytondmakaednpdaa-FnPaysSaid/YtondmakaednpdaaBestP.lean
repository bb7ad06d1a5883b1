/- BestPay of the program and of the reference. No conditions. -/
import Derived.Test.YtondmakaednpdaaFCmp
import Derived.Test.YtondmakaednpdaaAvg
namespace Go.Proofs.Ytondmakaednpdaa
open Go.RowKit

def bestStep (v : Option Fr) (q : Option (Fr × Int)) (m : Int) : Option (Fr × Int) :=
  match v with
  | none => q
  | some x => match q with
    | none => some (x, m)
    | some (y, j) => if 0 < cmpL x y then some (x, m) else some (y, j)
/-- The best average of the windows of n months from a on, after k windows: the fraction and its month. -/
def bestF (f : Int → Option Int) (a n : Int) : Nat → Option (Fr × Int)
  | 0 => none
  | k + 1 => bestStep (avgL f (a + (k : Int)) (a + (k : Int) + n)) (bestF f a n k) (a + (k : Int))
def bN (r : Option (Fr × Int)) : Int := match r with | none => 0 | some (x, _) => x.1
def bD (r : Option (Fr × Int)) : Int := match r with | none => 0 | some (x, _) => x.2
def bM (r : Option (Fr × Int)) : Int := match r with | none => 0 | some (_, m) => m
def bestL (n : Nat) (L : Nat → Fa) (a b len known : Int) : Option (Fr × Int) := if ((stOk n L && (endB a && endB b)) && inB len 1 60) = true then bestF (payF L n known) a len (b - len + 1 - a).toNat else none
abbrev vBest (r : Option (Fr × Int)) : Value := .tuple #[.agg #[.int .i64 (bN r), .int .i64 (bD r)], .int .i64 (bM r), .bool r.isSome]

theorem grown_two (w : World) (g : Nat) (u v : Value) : w.grownBy ((w.setCell ⟨g, 0, none⟩ u).setCell ⟨g, 1, none⟩ v) (some g) := grown_setCell (grown_setCell (grown_refl w (some g)) rfl u) rfl v
theorem Whole.new2 {w : World} {t : TypeId} {cs : Array Value} {g : Nat} (hg : g = w.heap.size) : Whole (w.alloc (.cells cs t)) g t cs := by subst hg; exact Whole.new w t cs
theorem payD.two {w : World} {b N g : Nat} {f : Int → Option Int} (h : payD w b N f) (hb : b ≠ g) (u v : Value) : payD ((w.setCell ⟨g, 0, none⟩ u).setCell ⟨g, 1, none⟩ v) b N f := h.kept (grown_two w g u v) (fun e => hb (by injection e))

set_option maxRecDepth 4000 in
set_option maxHeartbeats 6400000 in
theorem iBestPay (w : World) (A : Option Addr) (n c : Nat) (L : Nat → Fa) (a b len known : Int) (h : RdFa w w.heap.size A n L) :
    Calls Try.prog 25 #[.agg #[.slice A n c], .int .i64 a, .int .i64 b, .int .i64 len, .int .i64 known] w fun e w' => e = .returned (vBest (bestL n L a b len known)) ∧ Below w.heap.size w w' := by
  have hbb : Below w.heap.size w ((w.alloc (.cells #[.slice A n c] 26)).alloc (.cells #[.int .i64 0, .int .i64 0] 48)) := (by (repeat (first | (with_reducible exact Below.refl _ _) | (with_reducible assumption) | (with_reducible refine Below.drew ?_) | (with_reducible refine below_drewN ?_ _) | ((with_reducible refine Below.setCell ?_ ?_ _); rotate_left; focus (first | (simp; done) | omega | (simp; omega))) | ((with_reducible refine Below.alloc ?_ ?_ _); rotate_left; focus (first | exact Nat.le_refl _ | omega | (simp; done) | (simp; omega))))))
  obtain ⟨v, hv⟩ : ∃ v, v = bestL n L a b len known := ⟨_, rfl⟩
  rw [← hv]
  cases hok : stOk n L
  · have e0 : v = none := by rw [hv, bestL, if_neg (by simp [hok])]
    rw [e0]
    clear e0 hv v
    go_enter Try.func25, Try.ntmps25
    go_wp2_with fail
    refine (iStoreOk _ A n c L ((h.below hbb).more (by simp; omega))).mono ?_
    rintro e w1 ⟨rfl, hb1⟩
    rw [hok]
    obtain ⟨hc1, hf1⟩ := keepc hb1
    have b0 : w1.cell? ⟨w.heap.size, 0, none⟩ = some (.slice A n c) := by rw [hc1 _ _ (by simp <;> omega)]; simp [go_sem]
    have hz1 : w.heap.size + 1 < w1.heap.size := by have := hb1.size; simp at this; omega
    have hz1a : w.heap.size < w1.heap.size := by omega
    have hB1 := hbb.trans (hb1.mono (by simp <;> omega))
    have c0 : w1.cell? ⟨w.heap.size + 1, 0, none⟩ = some (.int .i64 0) := by rw [hc1 _ _ (by simp <;> omega)]; simp [go_sem]
    have c1 : w1.cell? ⟨w.heap.size + 1, 1, none⟩ = some (.int .i64 0) := by rw [hc1 _ _ (by simp <;> omega)]; simp [go_sem]
    have f0 : w1.frozen? ⟨w.heap.size + 1, 0, none⟩ = false := by rw [hf1 _ _ (by simp <;> omega)]; simp [go_sem]
    have f1 : w1.frozen? ⟨w.heap.size + 1, 1, none⟩ = false := by rw [hf1 _ _ (by simp <;> omega)]; simp [go_sem]
    have pA1 : Whole w1 w.heap.size 26 #[.slice A n c] := Whole.below (by repeat (first | (with_reducible exact Whole.new _ _ _) | exact (Whole.new _ _ _).alloc _ | exact ((Whole.new _ _ _).alloc _).alloc _)) hb1 (by simp <;> omega)
    have pR1 : Whole w1 (w.heap.size + 1) 48 #[.int .i64 0, .int .i64 0] := Whole.below (by first | (refine Whole.new2 ?_; simp; done) | (refine Whole.alloc ?_ _; refine Whole.new2 ?_; simp; done)) hb1 (by simp <;> omega)
    clear hc1 hf1 hb1
    go_wp2_with (first | (go_at_call 37; refine (isEnd_any _ _).mono ?_; rintro e w' ⟨rfl, rfl⟩) | (go_at_call 51; refine (within_any _ _ _ _).mono ?_; rintro e w' ⟨rfl, rfl⟩))
    refine bodyPost_ret (v := vBest none) ?_ rfl ⟨rfl, ?_⟩
    · simp [results, Try.results25, go_sem, bN, bD, bM, c0, c1]
    · (repeat (first | (with_reducible exact Below.refl _ _) | (with_reducible assumption) | (with_reducible refine Below.drew ?_) | (with_reducible refine below_drewN ?_ _) | ((with_reducible refine Below.setCell ?_ ?_ _); rotate_left; focus (first | (simp; done) | omega | (simp; omega))) | ((with_reducible refine Below.alloc ?_ ?_ _); rotate_left; focus (first | exact Nat.le_refl _ | omega | (simp; done) | (simp; omega)))))
  · cases h1 : endB a
    · have e0 : v = none := by rw [hv, bestL, if_neg (by simp [hok, h1])]
      rw [e0]
      clear e0 hv v
      go_enter Try.func25, Try.ntmps25
      go_wp2_with fail
      refine (iStoreOk _ A n c L ((h.below hbb).more (by simp; omega))).mono ?_
      rintro e w1 ⟨rfl, hb1⟩
      rw [hok]
      obtain ⟨hc1, hf1⟩ := keepc hb1
      have b0 : w1.cell? ⟨w.heap.size, 0, none⟩ = some (.slice A n c) := by rw [hc1 _ _ (by simp <;> omega)]; simp [go_sem]
      have hz1 : w.heap.size + 1 < w1.heap.size := by have := hb1.size; simp at this; omega
      have hz1a : w.heap.size < w1.heap.size := by omega
      have hB1 := hbb.trans (hb1.mono (by simp <;> omega))
      have c0 : w1.cell? ⟨w.heap.size + 1, 0, none⟩ = some (.int .i64 0) := by rw [hc1 _ _ (by simp <;> omega)]; simp [go_sem]
      have c1 : w1.cell? ⟨w.heap.size + 1, 1, none⟩ = some (.int .i64 0) := by rw [hc1 _ _ (by simp <;> omega)]; simp [go_sem]
      have f0 : w1.frozen? ⟨w.heap.size + 1, 0, none⟩ = false := by rw [hf1 _ _ (by simp <;> omega)]; simp [go_sem]
      have f1 : w1.frozen? ⟨w.heap.size + 1, 1, none⟩ = false := by rw [hf1 _ _ (by simp <;> omega)]; simp [go_sem]
      have pA1 : Whole w1 w.heap.size 26 #[.slice A n c] := Whole.below (by repeat (first | (with_reducible exact Whole.new _ _ _) | exact (Whole.new _ _ _).alloc _ | exact ((Whole.new _ _ _).alloc _).alloc _)) hb1 (by simp <;> omega)
      have pR1 : Whole w1 (w.heap.size + 1) 48 #[.int .i64 0, .int .i64 0] := Whole.below (by first | (refine Whole.new2 ?_; simp; done) | (refine Whole.alloc ?_ _; refine Whole.new2 ?_; simp; done)) hb1 (by simp <;> omega)
      clear hc1 hf1 hb1
      go_wp2_with (first | (go_at_call 37; refine (isEnd_any _ _).mono ?_; rintro e w' ⟨rfl, rfl⟩) | (go_at_call 51; refine (within_any _ _ _ _).mono ?_; rintro e w' ⟨rfl, rfl⟩))
      refine bodyPost_ret (v := vBest none) ?_ rfl ⟨rfl, ?_⟩
      · simp [results, Try.results25, go_sem, bN, bD, bM, c0, c1]
      · (repeat (first | (with_reducible exact Below.refl _ _) | (with_reducible assumption) | (with_reducible refine Below.drew ?_) | (with_reducible refine below_drewN ?_ _) | ((with_reducible refine Below.setCell ?_ ?_ _); rotate_left; focus (first | (simp; done) | omega | (simp; omega))) | ((with_reducible refine Below.alloc ?_ ?_ _); rotate_left; focus (first | exact Nat.le_refl _ | omega | (simp; done) | (simp; omega)))))
    · cases h2 : endB b
      · have e0 : v = none := by rw [hv, bestL, if_neg (by simp [hok, h1, h2])]
        rw [e0]
        clear e0 hv v
        go_enter Try.func25, Try.ntmps25
        go_wp2_with fail
        refine (iStoreOk _ A n c L ((h.below hbb).more (by simp; omega))).mono ?_
        rintro e w1 ⟨rfl, hb1⟩
        rw [hok]
        obtain ⟨hc1, hf1⟩ := keepc hb1
        have b0 : w1.cell? ⟨w.heap.size, 0, none⟩ = some (.slice A n c) := by rw [hc1 _ _ (by simp <;> omega)]; simp [go_sem]
        have hz1 : w.heap.size + 1 < w1.heap.size := by have := hb1.size; simp at this; omega
        have hz1a : w.heap.size < w1.heap.size := by omega
        have hB1 := hbb.trans (hb1.mono (by simp <;> omega))
        have c0 : w1.cell? ⟨w.heap.size + 1, 0, none⟩ = some (.int .i64 0) := by rw [hc1 _ _ (by simp <;> omega)]; simp [go_sem]
        have c1 : w1.cell? ⟨w.heap.size + 1, 1, none⟩ = some (.int .i64 0) := by rw [hc1 _ _ (by simp <;> omega)]; simp [go_sem]
        have f0 : w1.frozen? ⟨w.heap.size + 1, 0, none⟩ = false := by rw [hf1 _ _ (by simp <;> omega)]; simp [go_sem]
        have f1 : w1.frozen? ⟨w.heap.size + 1, 1, none⟩ = false := by rw [hf1 _ _ (by simp <;> omega)]; simp [go_sem]
        have pA1 : Whole w1 w.heap.size 26 #[.slice A n c] := Whole.below (by repeat (first | (with_reducible exact Whole.new _ _ _) | exact (Whole.new _ _ _).alloc _ | exact ((Whole.new _ _ _).alloc _).alloc _)) hb1 (by simp <;> omega)
        have pR1 : Whole w1 (w.heap.size + 1) 48 #[.int .i64 0, .int .i64 0] := Whole.below (by first | (refine Whole.new2 ?_; simp; done) | (refine Whole.alloc ?_ _; refine Whole.new2 ?_; simp; done)) hb1 (by simp <;> omega)
        clear hc1 hf1 hb1
        go_wp2_with (first | (go_at_call 37; refine (isEnd_any _ _).mono ?_; rintro e w' ⟨rfl, rfl⟩) | (go_at_call 51; refine (within_any _ _ _ _).mono ?_; rintro e w' ⟨rfl, rfl⟩))
        refine bodyPost_ret (v := vBest none) ?_ rfl ⟨rfl, ?_⟩
        · simp [results, Try.results25, go_sem, bN, bD, bM, c0, c1]
        · (repeat (first | (with_reducible exact Below.refl _ _) | (with_reducible assumption) | (with_reducible refine Below.drew ?_) | (with_reducible refine below_drewN ?_ _) | ((with_reducible refine Below.setCell ?_ ?_ _); rotate_left; focus (first | (simp; done) | omega | (simp; omega))) | ((with_reducible refine Below.alloc ?_ ?_ _); rotate_left; focus (first | exact Nat.le_refl _ | omega | (simp; done) | (simp; omega)))))
      · cases h3 : inB len 1 60
        · have e0 : v = none := by rw [hv, bestL, if_neg (by simp [hok, h1, h2, h3])]
          rw [e0]
          clear e0 hv v
          go_enter Try.func25, Try.ntmps25
          go_wp2_with fail
          refine (iStoreOk _ A n c L ((h.below hbb).more (by simp; omega))).mono ?_
          rintro e w1 ⟨rfl, hb1⟩
          rw [hok]
          obtain ⟨hc1, hf1⟩ := keepc hb1
          have b0 : w1.cell? ⟨w.heap.size, 0, none⟩ = some (.slice A n c) := by rw [hc1 _ _ (by simp <;> omega)]; simp [go_sem]
          have hz1 : w.heap.size + 1 < w1.heap.size := by have := hb1.size; simp at this; omega
          have hz1a : w.heap.size < w1.heap.size := by omega
          have hB1 := hbb.trans (hb1.mono (by simp <;> omega))
          have c0 : w1.cell? ⟨w.heap.size + 1, 0, none⟩ = some (.int .i64 0) := by rw [hc1 _ _ (by simp <;> omega)]; simp [go_sem]
          have c1 : w1.cell? ⟨w.heap.size + 1, 1, none⟩ = some (.int .i64 0) := by rw [hc1 _ _ (by simp <;> omega)]; simp [go_sem]
          have f0 : w1.frozen? ⟨w.heap.size + 1, 0, none⟩ = false := by rw [hf1 _ _ (by simp <;> omega)]; simp [go_sem]
          have f1 : w1.frozen? ⟨w.heap.size + 1, 1, none⟩ = false := by rw [hf1 _ _ (by simp <;> omega)]; simp [go_sem]
          have pA1 : Whole w1 w.heap.size 26 #[.slice A n c] := Whole.below (by repeat (first | (with_reducible exact Whole.new _ _ _) | exact (Whole.new _ _ _).alloc _ | exact ((Whole.new _ _ _).alloc _).alloc _)) hb1 (by simp <;> omega)
          have pR1 : Whole w1 (w.heap.size + 1) 48 #[.int .i64 0, .int .i64 0] := Whole.below (by first | (refine Whole.new2 ?_; simp; done) | (refine Whole.alloc ?_ _; refine Whole.new2 ?_; simp; done)) hb1 (by simp <;> omega)
          clear hc1 hf1 hb1
          go_wp2_with (first | (go_at_call 37; refine (isEnd_any _ _).mono ?_; rintro e w' ⟨rfl, rfl⟩) | (go_at_call 51; refine (within_any _ _ _ _).mono ?_; rintro e w' ⟨rfl, rfl⟩))
          refine bodyPost_ret (v := vBest none) ?_ rfl ⟨rfl, ?_⟩
          · simp [results, Try.results25, go_sem, bN, bD, bM, c0, c1]
          · (repeat (first | (with_reducible exact Below.refl _ _) | (with_reducible assumption) | (with_reducible refine Below.drew ?_) | (with_reducible refine below_drewN ?_ _) | ((with_reducible refine Below.setCell ?_ ?_ _); rotate_left; focus (first | (simp; done) | omega | (simp; omega))) | ((with_reducible refine Below.alloc ?_ ?_ _); rotate_left; focus (first | exact Nat.le_refl _ | omega | (simp; done) | (simp; omega)))))
        · have e0 : v = bestF (payF L n known) a len (b - len + 1 - a).toNat := by rw [hv, bestL, if_pos (by simp only [hok, h1, h2, h3, Bool.and_true])]
          clear hv
          have ha := inB_iff.1 h1
          have hb := inB_iff.1 h2
          have hl := inB_iff.1 h3
          obtain ⟨ha1, ha2⟩ := ha
          obtain ⟨hbx1, hbx2⟩ := hb
          obtain ⟨hl1, hl2⟩ := hl
          obtain ⟨N1, hN1⟩ : ∃ N1, N1 = (b - len + 1 - a).toNat := ⟨_, rfl⟩
          rw [← hN1] at e0
          have HE := Lib.hid e0
          clear e0
          have HOK := Lib.hid hok
          have hf := payF_bd HOK.out known
          have HF := Lib.hid hf
          clear hf
          go_enter Try.func25, Try.ntmps25
          go_wp2_with fail
          refine (iStoreOk _ A n c L ((h.below hbb).more (by simp; omega))).mono ?_
          rintro e w1 ⟨rfl, hb1⟩
          rw [hok]
          obtain ⟨hc1, hf1⟩ := keepc hb1
          have b0 : w1.cell? ⟨w.heap.size, 0, none⟩ = some (.slice A n c) := by rw [hc1 _ _ (by simp <;> omega)]; simp [go_sem]
          have hz1 : w.heap.size + 1 < w1.heap.size := by have := hb1.size; simp at this; omega
          have hz1a : w.heap.size < w1.heap.size := by omega
          have hB1 := hbb.trans (hb1.mono (by simp <;> omega))
          have c0 : w1.cell? ⟨w.heap.size + 1, 0, none⟩ = some (.int .i64 0) := by rw [hc1 _ _ (by simp <;> omega)]; simp [go_sem]
          have c1 : w1.cell? ⟨w.heap.size + 1, 1, none⟩ = some (.int .i64 0) := by rw [hc1 _ _ (by simp <;> omega)]; simp [go_sem]
          have f0 : w1.frozen? ⟨w.heap.size + 1, 0, none⟩ = false := by rw [hf1 _ _ (by simp <;> omega)]; simp [go_sem]
          have f1 : w1.frozen? ⟨w.heap.size + 1, 1, none⟩ = false := by rw [hf1 _ _ (by simp <;> omega)]; simp [go_sem]
          have pA1 : Whole w1 w.heap.size 26 #[.slice A n c] := Whole.below (by repeat (first | (with_reducible exact Whole.new _ _ _) | exact (Whole.new _ _ _).alloc _ | exact ((Whole.new _ _ _).alloc _).alloc _)) hb1 (by simp <;> omega)
          have pR1 : Whole w1 (w.heap.size + 1) 48 #[.int .i64 0, .int .i64 0] := Whole.below (by first | (refine Whole.new2 ?_; simp; done) | (refine Whole.alloc ?_ _; refine Whole.new2 ?_; simp; done)) hb1 (by simp <;> omega)
          clear hc1 hf1 hb1
          go_wp2_with (first | (go_at_call 37; refine (isEnd_any _ _).mono ?_; rintro e w' ⟨rfl, rfl⟩) | (go_at_call 51; refine (within_any _ _ _ _).mono ?_; rintro e w' ⟨rfl, rfl⟩))
          refine (iPayOf w1 A n c L known ((h.below hB1).more hB1.size) HOK.out).mono ?_
          rintro e w2 ⟨bm, rfl, hD, hb2⟩
          have hl2b := hD.lt
          have hs2 := hb2.size
          have hB2 := hB1.trans (hb2.mono hB1.size)
          have D2 := hD.alloc (.cells #[.int .i64 0, .int .i64 0] 48)
          have hBw : Below w.heap.size w (w2.alloc (.cells #[.int .i64 0, .int .i64 0] 48)) := hB2.alloc hB2.size _
          have nRB : w.heap.size + 1 ≠ w2.heap.size := by have := pR1.lt; omega
          have nMB : bm ≠ w2.heap.size := by omega
          have hBB : w.heap.size ≤ w2.heap.size := hB2.size
          clear b0 hz1 hz1a c0 c1 f0 f1 hB1 hD hB2
          have pB : Whole (w2.alloc (.cells #[.int .i64 0, .int .i64 0] 48)) w2.heap.size 48 #[.int .i64 0, .int .i64 0] := Whole.new _ _ _
          have pR : Whole (w2.alloc (.cells #[.int .i64 0, .int .i64 0] 48)) (w.heap.size + 1) 48 #[.int .i64 0, .int .i64 0] := (pR1.below hb2 pR1.lt).alloc _
          clear hb2 pR1
          go_wp2_with fail
          go_loopw [15, 16, 17] (fun q s i wr => ∃ k : Nat, k ≤ N1 ∧ i = .int .i64 (a + (k : Int)) ∧ q = .int .i64 (bM (bestF (payF L n known) a len k)) ∧ s = .bool (bestF (payF L n known) a len k).isSome ∧ Whole wr (w2.heap.size) 48 #[.int .i64 (bN (bestF (payF L n known) a len k)), .int .i64 (bD (bestF (payF L n known) a len k))] ∧ Whole wr (w.heap.size + 1) 48 #[.int .i64 0, .int .i64 0] ∧ payD wr bm 3600 (fun m => if 0 ≤ m ∧ m < 3600 then payF L n known m else none) ∧ Below w.heap.size w wr) (fun _ _ i _ => (b - len + 1 - intOf i).toNat)
          case atStart => exact ⟨0, by omega, by simp, rfl, rfl, pB, pR, D2, hBw⟩
          case round =>
            clear pB pR D2
            obtain ⟨k, hk, rfl, rfl, rfl, pB, pR, hE, hbr⟩ := hrel
            have hs1 := hbr.size
            by_cases hlt : a + (k : Int) + len ≤ b
            · obtain ⟨m, hm⟩ : ∃ m : Int, m = a + (k : Int) := ⟨_, rfl⟩
              obtain ⟨Q, hQ⟩ : ∃ Q, Q = bestF (payF L n known) a len k := ⟨_, rfl⟩
              obtain ⟨V, hV⟩ : ∃ V, V = avgL (payF L n known) m (m + len) := ⟨_, rfl⟩
              have hst : bestF (payF L n known) a len (k + 1) = bestStep V Q m := by rw [bestF, hV, hQ, hm]
              rw [← hm] at hlt ⊢
              rw [← hQ] at pB ⊢
              have HM := Lib.hid (show m + 1 = a + ((k + 1 : Nat) : Int) by omega)
              have hm0 : 0 ≤ m := by omega
              have hm1 : m + len ≤ 3600 := by omega
              have hk2 : k + 1 ≤ N1 := by omega
              have mw1 : IntKind.i64.wrap (m + len) = m + len := IntWalk.i64_in _ ⟨by omega, by omega⟩
              have mw2 : IntKind.i64.wrap (m + 1) = m + 1 := IntWalk.i64_in _ ⟨by omega, by omega⟩
              have AV := iAverageOf wr bm 3600 (payF L n known) _ m (m + len) hE (fun m k1 k2 => if_pos ⟨k1, k2⟩) HF.out hm0 (by omega) hm1
              rw [← hV] at AV
              clear hm hQ hV
              cases V with
              | none =>
                have HST := Lib.hid (show bestF (payF L n known) a len (k + 1) = Q from hst)
                clear hst
                go_wp2_with fail
                refine AV.mono ?_
                rintro e w5 ⟨rfl, hb5⟩
                clear AV
                replace pB : Whole w5 (w2.heap.size) 48 #[.int .i64 (bN Q), .int .i64 (bD Q)] := pB.below hb5 pB.lt
                replace pR := pR.below hb5 pR.lt
                replace hE := hE.below hb5
                have hB5 := hbr.trans (hb5.mono hs1)
                have hs5 := hb5.size
                clear hb5
                have cB0 : w5.cell? ⟨w2.heap.size, 0, none⟩ = some (.int .i64 (bN Q)) := pB.cell 0
                have cB1 : w5.cell? ⟨w2.heap.size, 1, none⟩ = some (.int .i64 (bD Q)) := pB.cell 1
                have fB0 := pB.free 0
                have fB1 := pB.free 1
                have zB := pB.lt
                have zR := pR.lt
                have nB := Nat.ne_of_lt zB
                go_wp2_with fail
                go_roundw
                case rel => exact ⟨k + 1, hk2, by rw [← HM.out], by rw [HST.out]; first | done | rfl, by rw [HST.out]; first | done | rfl, by rw [HST.out]; exact pB.alloc _, pR.alloc _, hE.alloc _, hB5.alloc hB5.size _⟩
                case measure => simp only [intOf]; omega
              | some x =>
                obtain ⟨xn, xd⟩ := x
                cases Q with
                | none =>
                  have HST := Lib.hid (show bestF (payF L n known) a len (k + 1) = some ((xn, xd), m) from hst)
                  clear hst
                  go_wp2_with fail
                  refine AV.mono ?_
                  rintro e w5 ⟨rfl, hb5⟩
                  clear AV
                  replace pB : Whole w5 (w2.heap.size) 48 #[.int .i64 0, .int .i64 0] := pB.below hb5 pB.lt
                  replace pR := pR.below hb5 pR.lt
                  replace hE := hE.below hb5
                  have hB5 := hbr.trans (hb5.mono hs1)
                  have hs5 := hb5.size
                  clear hb5
                  have cB0 : w5.cell? ⟨w2.heap.size, 0, none⟩ = some (.int .i64 0) := pB.cell 0
                  have cB1 : w5.cell? ⟨w2.heap.size, 1, none⟩ = some (.int .i64 0) := pB.cell 1
                  have fB0 := pB.free 0
                  have fB1 := pB.free 1
                  have zB := pB.lt
                  have zR := pR.lt
                  have nB := Nat.ne_of_lt zB
                  go_wp2_with fail
                  go_roundw
                  case rel => exact ⟨k + 1, hk2, by rw [← HM.out], by rw [HST.out]; first | done | rfl, by rw [HST.out]; first | done | rfl, by rw [HST.out]; exact ((pB.put 0 (.int .i64 xn)).put 1 (.int .i64 xd)).alloc _, ((pR.far (p := ⟨w2.heap.size, 0, none⟩) nRB _).far (p := ⟨w2.heap.size, 1, none⟩) nRB _).alloc _, (hE.two nMB _ _).alloc _, ((hB5.setCell hBB _).setCell hBB _).alloc (by have := hB5.size; simp; omega) _⟩
                  case measure => simp only [intOf]; omega
                | some y =>
                  obtain ⟨⟨yn, yd⟩, ym⟩ := y
                  have hst2 : bestF (payF L n known) a len (k + 1) = if 0 < cmpL (xn, xd) (yn, yd) then some ((xn, xd), m) else some ((yn, yd), ym) := hst
                  clear hst
                  have FC := fun (u : World) => iFracCmp xn xd yn yd u
                  obtain ⟨Z, hZ⟩ : ∃ Z, Z = cmpL (xn, xd) (yn, yd) := ⟨_, rfl⟩
                  rw [← hZ] at hst2
                  simp only [← hZ] at FC
                  clear hZ
                  by_cases hpos : 0 < Z
                  · rw [if_pos hpos] at hst2
                    have HST := Lib.hid hst2
                    clear hst2
                    go_wp2_with fail
                    refine AV.mono ?_
                    rintro e w5 ⟨rfl, hb5⟩
                    clear AV
                    replace pB : Whole w5 (w2.heap.size) 48 #[.int .i64 yn, .int .i64 yd] := pB.below hb5 pB.lt
                    replace pR := pR.below hb5 pR.lt
                    replace hE := hE.below hb5
                    have hB5 := hbr.trans (hb5.mono hs1)
                    have hs5 := hb5.size
                    clear hb5
                    have cB0 : w5.cell? ⟨w2.heap.size, 0, none⟩ = some (.int .i64 yn) := pB.cell 0
                    have cB1 : w5.cell? ⟨w2.heap.size, 1, none⟩ = some (.int .i64 yd) := pB.cell 1
                    have fB0 := pB.free 0
                    have fB1 := pB.free 1
                    have zB := pB.lt
                    have zR := pR.lt
                    have nB := Nat.ne_of_lt zB
                    go_wp2_with fail
                    refine (FC _).mono ?_
                    rintro e w6 ⟨rfl, hb6⟩
                    clear FC cB0 cB1 fB0 fB1 nB
                    have hbx5 : Below w5.heap.size w5 (w5.alloc (.cells #[.int .i64 xn, .int .i64 xd] 48)) := (Below.refl _ _).alloc (Nat.le_refl _) _
                    have x0 : w6.cell? ⟨w5.heap.size, 0, none⟩ = some (.int .i64 xn) := by rw [(keepc hb6).1 _ _ (by simp)]; simp [go_sem, oN_some]
                    have x1 : w6.cell? ⟨w5.heap.size, 1, none⟩ = some (.int .i64 xd) := by rw [(keepc hb6).1 _ _ (by simp)]; simp [go_sem, oD_some]
                    have hbb6 := hbx5.trans (hb6.mono (by simp))
                    have hz6 : w5.heap.size < w6.heap.size := by have := hb6.size; simp at this; omega
                    clear hb6 hbx5
                    replace pB := pB.below hbb6 pB.lt
                    replace pR := pR.below hbb6 pR.lt
                    replace hE := hE.below hbb6
                    have hB6 := hB5.trans (hbb6.mono hB5.size)
                    clear hbb6 zB zR
                    have cB0 : w6.cell? ⟨w2.heap.size, 0, none⟩ = some (.int .i64 yn) := pB.cell 0
                    have cB1 : w6.cell? ⟨w2.heap.size, 1, none⟩ = some (.int .i64 yd) := pB.cell 1
                    have fB0 := pB.free 0
                    have fB1 := pB.free 1
                    have zB := pB.lt
                    have zR := pR.lt
                    go_wp2_with fail
                    go_roundw
                    case rel => exact ⟨k + 1, hk2, by rw [← HM.out], by rw [HST.out]; first | done | rfl, by rw [HST.out]; first | done | rfl, by rw [HST.out]; exact ((pB.put 0 (.int .i64 xn)).put 1 (.int .i64 xd)), ((pR.far (p := ⟨w2.heap.size, 0, none⟩) nRB _).far (p := ⟨w2.heap.size, 1, none⟩) nRB _), (hE.two nMB _ _), (hB6.setCell hBB _).setCell hBB _⟩
                    case measure => simp only [intOf]; omega
                  · rw [if_neg hpos] at hst2
                    have HST := Lib.hid hst2
                    clear hst2
                    go_wp2_with fail
                    refine AV.mono ?_
                    rintro e w5 ⟨rfl, hb5⟩
                    clear AV
                    replace pB : Whole w5 (w2.heap.size) 48 #[.int .i64 yn, .int .i64 yd] := pB.below hb5 pB.lt
                    replace pR := pR.below hb5 pR.lt
                    replace hE := hE.below hb5
                    have hB5 := hbr.trans (hb5.mono hs1)
                    have hs5 := hb5.size
                    clear hb5
                    have cB0 : w5.cell? ⟨w2.heap.size, 0, none⟩ = some (.int .i64 yn) := pB.cell 0
                    have cB1 : w5.cell? ⟨w2.heap.size, 1, none⟩ = some (.int .i64 yd) := pB.cell 1
                    have fB0 := pB.free 0
                    have fB1 := pB.free 1
                    have zB := pB.lt
                    have zR := pR.lt
                    have nB := Nat.ne_of_lt zB
                    go_wp2_with fail
                    refine (FC _).mono ?_
                    rintro e w6 ⟨rfl, hb6⟩
                    clear FC cB0 cB1 fB0 fB1 nB
                    have hbx5 : Below w5.heap.size w5 (w5.alloc (.cells #[.int .i64 xn, .int .i64 xd] 48)) := (Below.refl _ _).alloc (Nat.le_refl _) _
                    have x0 : w6.cell? ⟨w5.heap.size, 0, none⟩ = some (.int .i64 xn) := by rw [(keepc hb6).1 _ _ (by simp)]; simp [go_sem, oN_some]
                    have x1 : w6.cell? ⟨w5.heap.size, 1, none⟩ = some (.int .i64 xd) := by rw [(keepc hb6).1 _ _ (by simp)]; simp [go_sem, oD_some]
                    have hbb6 := hbx5.trans (hb6.mono (by simp))
                    have hz6 : w5.heap.size < w6.heap.size := by have := hb6.size; simp at this; omega
                    clear hb6 hbx5
                    replace pB := pB.below hbb6 pB.lt
                    replace pR := pR.below hbb6 pR.lt
                    replace hE := hE.below hbb6
                    have hB6 := hB5.trans (hbb6.mono hB5.size)
                    clear hbb6 zB zR
                    have cB0 : w6.cell? ⟨w2.heap.size, 0, none⟩ = some (.int .i64 yn) := pB.cell 0
                    have cB1 : w6.cell? ⟨w2.heap.size, 1, none⟩ = some (.int .i64 yd) := pB.cell 1
                    have fB0 := pB.free 0
                    have fB1 := pB.free 1
                    have zB := pB.lt
                    have zR := pR.lt
                    go_wp2_with fail
                    go_roundw
                    case rel => exact ⟨k + 1, hk2, by rw [← HM.out], by rw [HST.out]; first | done | rfl, by rw [HST.out]; first | done | rfl, by rw [HST.out]; exact pB, pR, hE, hB6⟩
                    case measure => simp only [intOf]; omega
            · obtain rfl : k = N1 := by omega
              obtain ⟨y, hy⟩ : ∃ y : Int, y = a + (k : Int) := ⟨_, rfl⟩
              have hyb : 0 ≤ y ∧ y ≤ 3601 := by omega
              rw [← hy] at hlt ⊢
              clear hy
              have HV := Lib.hid HE.out.symm
              clear HE
              obtain ⟨Q, hQ⟩ : ∃ Q, Q = bestF (payF L n known) a len k := ⟨_, rfl⟩
              rw [← hQ] at pB ⊢
              have HQ := Lib.hid (hQ.trans HV.out)
              clear hQ HV
              have mw1 : IntKind.i64.wrap (y + len) = y + len := IntWalk.i64_in _ ⟨by omega, by omega⟩
              have cB0 : wr.cell? ⟨w2.heap.size, 0, none⟩ = some (.int .i64 (bN Q)) := pB.cell 0
              have cB1 : wr.cell? ⟨w2.heap.size, 1, none⟩ = some (.int .i64 (bD Q)) := pB.cell 1
              have c0 : wr.cell? ⟨w.heap.size + 1, 0, none⟩ = some (.int .i64 0) := pR.cell 0
              have c1 : wr.cell? ⟨w.heap.size + 1, 1, none⟩ = some (.int .i64 0) := pR.cell 1
              have f0 := pR.free 0
              have f1 := pR.free 1
              have zR := pR.lt
              clear pB pR hE HF HOK
              go_wp2_with fail
              refine bodyPost_ret (v := vBest Q) ?_ rfl ⟨by rw [HQ.out], ?_⟩
              · simp [results, Try.results25, go_sem, c0, c1]
              · (repeat (first | (with_reducible exact Below.refl _ _) | (with_reducible assumption) | (with_reducible refine Below.drew ?_) | (with_reducible refine below_drewN ?_ _) | ((with_reducible refine Below.setCell ?_ ?_ _); rotate_left; focus (first | (simp; done) | omega | (simp; omega))) | ((with_reducible refine Below.alloc ?_ ?_ _); rotate_left; focus (first | exact Nat.le_refl _ | omega | (simp; done) | (simp; omega)))))

set_option maxRecDepth 4000 in
set_option maxHeartbeats 6400000 in
theorem sBestPay (w : World) (A : Option Addr) (n c : Nat) (L : Nat → Fa) (a b len known : Int) (h : RdFa w w.heap.size A n L) :
    Calls Try.prog 31 #[.agg #[.slice A n c], .int .i64 a, .int .i64 b, .int .i64 len, .int .i64 known] w fun e w' => e = .returned (vBest (bestL n L a b len known)) ∧ Below w.heap.size w w' := by
  have hbb : Below w.heap.size w (((w.alloc (.cells #[.slice A n c] 26)).alloc (.cells #[.int .i64 0, .int .i64 0] 48)).alloc (.cells #[.int .i64 0, .int .i64 0] 48)) := (by (repeat (first | (with_reducible exact Below.refl _ _) | (with_reducible assumption) | (with_reducible refine Below.drew ?_) | (with_reducible refine below_drewN ?_ _) | ((with_reducible refine Below.setCell ?_ ?_ _); rotate_left; focus (first | (simp; done) | omega | (simp; omega))) | ((with_reducible refine Below.alloc ?_ ?_ _); rotate_left; focus (first | exact Nat.le_refl _ | omega | (simp; done) | (simp; omega))))))
  obtain ⟨v, hv⟩ : ∃ v, v = bestL n L a b len known := ⟨_, rfl⟩
  rw [← hv]
  cases hrg : (stOk n L && (endB a && endB b))
  · have e0 : v = none := by rw [hv, bestL, if_neg (by rw [hrg]; simp)]
    rw [e0]
    clear e0 hv v
    go_enter Try.func31, Try.ntmps31
    go_wp2_with fail
    refine (sRange _ A n c L a b ((h.below hbb).more (by simp; omega))).mono ?_
    rintro e w1 ⟨rfl, hb1⟩
    rw [hrg]
    obtain ⟨hc1, hf1⟩ := keepc hb1
    have b0 : w1.cell? ⟨w.heap.size, 0, none⟩ = some (.slice A n c) := by rw [hc1 _ _ (by simp <;> omega)]; simp [go_sem]
    have hz1 : w.heap.size + 1 + 1 < w1.heap.size := by have := hb1.size; simp at this; omega
    have hz1a : w.heap.size < w1.heap.size := by omega
    have hB1 := hbb.trans (hb1.mono (by simp <;> omega))
    have c0 : w1.cell? ⟨w.heap.size + 1, 0, none⟩ = some (.int .i64 0) := by rw [hc1 _ _ (by simp <;> omega)]; simp [go_sem]
    have c1 : w1.cell? ⟨w.heap.size + 1, 1, none⟩ = some (.int .i64 0) := by rw [hc1 _ _ (by simp <;> omega)]; simp [go_sem]
    have f0 : w1.frozen? ⟨w.heap.size + 1, 0, none⟩ = false := by rw [hf1 _ _ (by simp <;> omega)]; simp [go_sem]
    have f1 : w1.frozen? ⟨w.heap.size + 1, 1, none⟩ = false := by rw [hf1 _ _ (by simp <;> omega)]; simp [go_sem]
    have d0 : w1.cell? ⟨w.heap.size + 1 + 1, 0, none⟩ = some (.int .i64 0) := by rw [hc1 _ _ (by simp <;> omega)]; simp [go_sem]
    have d1 : w1.cell? ⟨w.heap.size + 1 + 1, 1, none⟩ = some (.int .i64 0) := by rw [hc1 _ _ (by simp <;> omega)]; simp [go_sem]
    have g0 : w1.frozen? ⟨w.heap.size + 1 + 1, 0, none⟩ = false := by rw [hf1 _ _ (by simp <;> omega)]; simp [go_sem]
    have g1 : w1.frozen? ⟨w.heap.size + 1 + 1, 1, none⟩ = false := by rw [hf1 _ _ (by simp <;> omega)]; simp [go_sem]
    have pA1 : Whole w1 w.heap.size 26 #[.slice A n c] := Whole.below (by repeat (first | (with_reducible exact Whole.new _ _ _) | exact (Whole.new _ _ _).alloc _ | exact ((Whole.new _ _ _).alloc _).alloc _)) hb1 (by simp <;> omega)
    have pR1 : Whole w1 (w.heap.size + 1) 48 #[.int .i64 0, .int .i64 0] := Whole.below (by first | (refine Whole.new2 ?_; simp; done) | (refine Whole.alloc ?_ _; refine Whole.new2 ?_; simp; done)) hb1 (by simp <;> omega)
    have pB1 : Whole w1 (w.heap.size + 1 + 1) 48 #[.int .i64 0, .int .i64 0] := Whole.below (by refine Whole.new2 ?_; simp; done) hb1 (by simp <;> omega)
    clear hc1 hf1 hb1
    go_wp2_with (go_at_call 59; refine (l01In_any _ _ _ _).mono ?_; rintro e w' ⟨rfl, rfl⟩)
    refine bodyPost_ret (v := vBest none) ?_ rfl ⟨rfl, ?_⟩
    · simp [results, Try.results31, go_sem, bN, bD, bM, c0, c1]
    · (repeat (first | (with_reducible exact Below.refl _ _) | (with_reducible assumption) | (with_reducible refine Below.drew ?_) | (with_reducible refine below_drewN ?_ _) | ((with_reducible refine Below.setCell ?_ ?_ _); rotate_left; focus (first | (simp; done) | omega | (simp; omega))) | ((with_reducible refine Below.alloc ?_ ?_ _); rotate_left; focus (first | exact Nat.le_refl _ | omega | (simp; done) | (simp; omega)))))
  · cases h3 : inB len 1 60
    · have e0 : v = none := by rw [hv, bestL, if_neg (by simp [hrg, h3])]
      rw [e0]
      clear e0 hv v
      go_enter Try.func31, Try.ntmps31
      go_wp2_with fail
      refine (sRange _ A n c L a b ((h.below hbb).more (by simp; omega))).mono ?_
      rintro e w1 ⟨rfl, hb1⟩
      rw [hrg]
      obtain ⟨hc1, hf1⟩ := keepc hb1
      have b0 : w1.cell? ⟨w.heap.size, 0, none⟩ = some (.slice A n c) := by rw [hc1 _ _ (by simp <;> omega)]; simp [go_sem]
      have hz1 : w.heap.size + 1 + 1 < w1.heap.size := by have := hb1.size; simp at this; omega
      have hz1a : w.heap.size < w1.heap.size := by omega
      have hB1 := hbb.trans (hb1.mono (by simp <;> omega))
      have c0 : w1.cell? ⟨w.heap.size + 1, 0, none⟩ = some (.int .i64 0) := by rw [hc1 _ _ (by simp <;> omega)]; simp [go_sem]
      have c1 : w1.cell? ⟨w.heap.size + 1, 1, none⟩ = some (.int .i64 0) := by rw [hc1 _ _ (by simp <;> omega)]; simp [go_sem]
      have f0 : w1.frozen? ⟨w.heap.size + 1, 0, none⟩ = false := by rw [hf1 _ _ (by simp <;> omega)]; simp [go_sem]
      have f1 : w1.frozen? ⟨w.heap.size + 1, 1, none⟩ = false := by rw [hf1 _ _ (by simp <;> omega)]; simp [go_sem]
      have d0 : w1.cell? ⟨w.heap.size + 1 + 1, 0, none⟩ = some (.int .i64 0) := by rw [hc1 _ _ (by simp <;> omega)]; simp [go_sem]
      have d1 : w1.cell? ⟨w.heap.size + 1 + 1, 1, none⟩ = some (.int .i64 0) := by rw [hc1 _ _ (by simp <;> omega)]; simp [go_sem]
      have g0 : w1.frozen? ⟨w.heap.size + 1 + 1, 0, none⟩ = false := by rw [hf1 _ _ (by simp <;> omega)]; simp [go_sem]
      have g1 : w1.frozen? ⟨w.heap.size + 1 + 1, 1, none⟩ = false := by rw [hf1 _ _ (by simp <;> omega)]; simp [go_sem]
      have pA1 : Whole w1 w.heap.size 26 #[.slice A n c] := Whole.below (by repeat (first | (with_reducible exact Whole.new _ _ _) | exact (Whole.new _ _ _).alloc _ | exact ((Whole.new _ _ _).alloc _).alloc _)) hb1 (by simp <;> omega)
      have pR1 : Whole w1 (w.heap.size + 1) 48 #[.int .i64 0, .int .i64 0] := Whole.below (by first | (refine Whole.new2 ?_; simp; done) | (refine Whole.alloc ?_ _; refine Whole.new2 ?_; simp; done)) hb1 (by simp <;> omega)
      have pB1 : Whole w1 (w.heap.size + 1 + 1) 48 #[.int .i64 0, .int .i64 0] := Whole.below (by refine Whole.new2 ?_; simp; done) hb1 (by simp <;> omega)
      clear hc1 hf1 hb1
      go_wp2_with (go_at_call 59; refine (l01In_any _ _ _ _).mono ?_; rintro e w' ⟨rfl, rfl⟩)
      refine bodyPost_ret (v := vBest none) ?_ rfl ⟨rfl, ?_⟩
      · simp [results, Try.results31, go_sem, bN, bD, bM, c0, c1]
      · (repeat (first | (with_reducible exact Below.refl _ _) | (with_reducible assumption) | (with_reducible refine Below.drew ?_) | (with_reducible refine below_drewN ?_ _) | ((with_reducible refine Below.setCell ?_ ?_ _); rotate_left; focus (first | (simp; done) | omega | (simp; omega))) | ((with_reducible refine Below.alloc ?_ ?_ _); rotate_left; focus (first | exact Nat.le_refl _ | omega | (simp; done) | (simp; omega)))))
    · have e0 : v = bestF (payF L n known) a len (b - len + 1 - a).toNat := by rw [hv, bestL, if_pos (by simp only [hrg, h3, Bool.and_true])]
      clear hv
      have hr2 := hrg
      simp only [Bool.and_eq_true] at hr2
      obtain ⟨hok, h1, h2⟩ := hr2
      have ha := inB_iff.1 h1
      have hb := inB_iff.1 h2
      have hl := inB_iff.1 h3
      obtain ⟨ha1, ha2⟩ := ha
      obtain ⟨hbx1, hbx2⟩ := hb
      obtain ⟨hl1, hl2⟩ := hl
      obtain ⟨N1, hN1⟩ : ∃ N1, N1 = (b - len + 1 - a).toNat := ⟨_, rfl⟩
      rw [← hN1] at e0
      have HE := Lib.hid e0
      clear e0
      have HOK := Lib.hid hok
      have hf := payF_bd HOK.out known
      have HF := Lib.hid hf
      clear hf
      go_enter Try.func31, Try.ntmps31
      go_wp2_with fail
      refine (sRange _ A n c L a b ((h.below hbb).more (by simp; omega))).mono ?_
      rintro e w1 ⟨rfl, hb1⟩
      rw [hrg]
      obtain ⟨hc1, hf1⟩ := keepc hb1
      have b0 : w1.cell? ⟨w.heap.size, 0, none⟩ = some (.slice A n c) := by rw [hc1 _ _ (by simp <;> omega)]; simp [go_sem]
      have hz1 : w.heap.size + 1 + 1 < w1.heap.size := by have := hb1.size; simp at this; omega
      have hz1a : w.heap.size < w1.heap.size := by omega
      have hB1 := hbb.trans (hb1.mono (by simp <;> omega))
      have c0 : w1.cell? ⟨w.heap.size + 1, 0, none⟩ = some (.int .i64 0) := by rw [hc1 _ _ (by simp <;> omega)]; simp [go_sem]
      have c1 : w1.cell? ⟨w.heap.size + 1, 1, none⟩ = some (.int .i64 0) := by rw [hc1 _ _ (by simp <;> omega)]; simp [go_sem]
      have f0 : w1.frozen? ⟨w.heap.size + 1, 0, none⟩ = false := by rw [hf1 _ _ (by simp <;> omega)]; simp [go_sem]
      have f1 : w1.frozen? ⟨w.heap.size + 1, 1, none⟩ = false := by rw [hf1 _ _ (by simp <;> omega)]; simp [go_sem]
      have d0 : w1.cell? ⟨w.heap.size + 1 + 1, 0, none⟩ = some (.int .i64 0) := by rw [hc1 _ _ (by simp <;> omega)]; simp [go_sem]
      have d1 : w1.cell? ⟨w.heap.size + 1 + 1, 1, none⟩ = some (.int .i64 0) := by rw [hc1 _ _ (by simp <;> omega)]; simp [go_sem]
      have g0 : w1.frozen? ⟨w.heap.size + 1 + 1, 0, none⟩ = false := by rw [hf1 _ _ (by simp <;> omega)]; simp [go_sem]
      have g1 : w1.frozen? ⟨w.heap.size + 1 + 1, 1, none⟩ = false := by rw [hf1 _ _ (by simp <;> omega)]; simp [go_sem]
      have pA1 : Whole w1 w.heap.size 26 #[.slice A n c] := Whole.below (by repeat (first | (with_reducible exact Whole.new _ _ _) | exact (Whole.new _ _ _).alloc _ | exact ((Whole.new _ _ _).alloc _).alloc _)) hb1 (by simp <;> omega)
      have pR1 : Whole w1 (w.heap.size + 1) 48 #[.int .i64 0, .int .i64 0] := Whole.below (by first | (refine Whole.new2 ?_; simp; done) | (refine Whole.alloc ?_ _; refine Whole.new2 ?_; simp; done)) hb1 (by simp <;> omega)
      have pB1 : Whole w1 (w.heap.size + 1 + 1) 48 #[.int .i64 0, .int .i64 0] := Whole.below (by refine Whole.new2 ?_; simp; done) hb1 (by simp <;> omega)
      clear hc1 hf1 hb1
      go_wp2_with (go_at_call 59; refine (l01In_any _ _ _ _).mono ?_; rintro e w' ⟨rfl, rfl⟩)
      have nRB : w.heap.size + 1 ≠ w.heap.size + 1 + 1 := by omega
      have nMB : w.heap.size ≠ w.heap.size + 1 + 1 := by omega
      have hBB : w.heap.size ≤ w.heap.size + 1 + 1 := by omega
      clear b0 hz1 hz1a c0 c1 f0 f1 d0 d1 g0 g1
      have pB := pB1
      have pR := pR1
      go_loopw [14, 15, 16] (fun q s i wr => ∃ k : Nat, k ≤ N1 ∧ i = .int .i64 (a + (k : Int)) ∧ q = .int .i64 (bM (bestF (payF L n known) a len k)) ∧ s = .bool (bestF (payF L n known) a len k).isSome ∧ Whole wr (w.heap.size + 1 + 1) 48 #[.int .i64 (bN (bestF (payF L n known) a len k)), .int .i64 (bD (bestF (payF L n known) a len k))] ∧ Whole wr (w.heap.size + 1) 48 #[.int .i64 0, .int .i64 0] ∧ Whole wr w.heap.size 26 #[.slice A n c] ∧ Below w.heap.size w wr) (fun _ _ i _ => (b - len + 1 - intOf i).toNat)
      case atStart => exact ⟨0, by omega, by simp, rfl, rfl, pB, pR, pA1, hB1⟩
      case round =>
        clear pB pR pA1
        obtain ⟨k, hk, rfl, rfl, rfl, pB, pR, hE, hbr⟩ := hrel
        have hs1 := hbr.size
        by_cases hlt : a + (k : Int) + len ≤ b
        · obtain ⟨m, hm⟩ : ∃ m : Int, m = a + (k : Int) := ⟨_, rfl⟩
          obtain ⟨Q, hQ⟩ : ∃ Q, Q = bestF (payF L n known) a len k := ⟨_, rfl⟩
          obtain ⟨V, hV⟩ : ∃ V, V = avgL (payF L n known) m (m + len) := ⟨_, rfl⟩
          have hst : bestF (payF L n known) a len (k + 1) = bestStep V Q m := by rw [bestF, hV, hQ, hm]
          rw [← hm] at hlt ⊢
          rw [← hQ] at pB ⊢
          have HM := Lib.hid (show m + 1 = a + ((k + 1 : Nat) : Int) by omega)
          have hm0 : 0 ≤ m := by omega
          have hm1 : m + len ≤ 3600 := by omega
          have hk2 : k + 1 ≤ N1 := by omega
          have mw1 : IntKind.i64.wrap (m + len) = m + len := IntWalk.i64_in _ ⟨by omega, by omega⟩
          have mw2 : IntKind.i64.wrap (m + 1) = m + 1 := IntWalk.i64_in _ ⟨by omega, by omega⟩
          have AV := sL12Average wr A n c L m (m + len) known ((h.below hbr).more hs1) HOK.out hm0 (by omega) hm1
          have cA : wr.cell? ⟨w.heap.size, 0, none⟩ = some (.slice A n c) := hE.cell 0
          rw [← hV] at AV
          clear hm hQ hV
          cases V with
          | none =>
            have HST := Lib.hid (show bestF (payF L n known) a len (k + 1) = Q from hst)
            clear hst
            go_wp2_with fail
            refine AV.mono ?_
            rintro e w5 ⟨rfl, hb5⟩
            clear AV cA
            replace pB : Whole w5 (w.heap.size + 1 + 1) 48 #[.int .i64 (bN Q), .int .i64 (bD Q)] := pB.below hb5 pB.lt
            replace pR := pR.below hb5 pR.lt
            replace hE := hE.below hb5 hE.lt
            have hB5 := hbr.trans (hb5.mono hs1)
            have hs5 := hb5.size
            clear hb5
            have cB0 : w5.cell? ⟨w.heap.size + 1 + 1, 0, none⟩ = some (.int .i64 (bN Q)) := pB.cell 0
            have cB1 : w5.cell? ⟨w.heap.size + 1 + 1, 1, none⟩ = some (.int .i64 (bD Q)) := pB.cell 1
            have fB0 := pB.free 0
            have fB1 := pB.free 1
            have zB := pB.lt
            have zR := pR.lt
            have nB := Nat.ne_of_lt zB
            go_wp2_with fail
            go_roundw
            case rel => exact ⟨k + 1, hk2, by rw [← HM.out], by rw [HST.out]; first | done | rfl, by rw [HST.out]; first | done | rfl, by rw [HST.out]; exact pB.alloc _, pR.alloc _, hE.alloc _, hB5.alloc hB5.size _⟩
            case measure => simp only [intOf]; omega
          | some x =>
            obtain ⟨xn, xd⟩ := x
            cases Q with
            | none =>
              have HST := Lib.hid (show bestF (payF L n known) a len (k + 1) = some ((xn, xd), m) from hst)
              clear hst
              go_wp2_with fail
              refine AV.mono ?_
              rintro e w5 ⟨rfl, hb5⟩
              clear AV cA
              replace pB : Whole w5 (w.heap.size + 1 + 1) 48 #[.int .i64 0, .int .i64 0] := pB.below hb5 pB.lt
              replace pR := pR.below hb5 pR.lt
              replace hE := hE.below hb5 hE.lt
              have hB5 := hbr.trans (hb5.mono hs1)
              have hs5 := hb5.size
              clear hb5
              have cB0 : w5.cell? ⟨w.heap.size + 1 + 1, 0, none⟩ = some (.int .i64 0) := pB.cell 0
              have cB1 : w5.cell? ⟨w.heap.size + 1 + 1, 1, none⟩ = some (.int .i64 0) := pB.cell 1
              have fB0 := pB.free 0
              have fB1 := pB.free 1
              have zB := pB.lt
              have zR := pR.lt
              have nB := Nat.ne_of_lt zB
              go_wp2_with fail
              go_roundw
              case rel => exact ⟨k + 1, hk2, by rw [← HM.out], by rw [HST.out]; first | done | rfl, by rw [HST.out]; first | done | rfl, by rw [HST.out]; exact ((pB.put 0 (.int .i64 xn)).put 1 (.int .i64 xd)).alloc _, ((pR.far (p := ⟨w.heap.size + 1 + 1, 0, none⟩) nRB _).far (p := ⟨w.heap.size + 1 + 1, 1, none⟩) nRB _).alloc _, ((hE.far (p := ⟨w.heap.size + 1 + 1, 0, none⟩) nMB _).far (p := ⟨w.heap.size + 1 + 1, 1, none⟩) nMB _).alloc _, ((hB5.setCell hBB _).setCell hBB _).alloc (by have := hB5.size; simp; omega) _⟩
              case measure => simp only [intOf]; omega
            | some y =>
              obtain ⟨⟨yn, yd⟩, ym⟩ := y
              have hst2 : bestF (payF L n known) a len (k + 1) = if 0 < cmpL (xn, xd) (yn, yd) then some ((xn, xd), m) else some ((yn, yd), ym) := hst
              clear hst
              have FC := fun (u : World) => sFracCmp xn xd yn yd u
              obtain ⟨Z, hZ⟩ : ∃ Z, Z = cmpL (xn, xd) (yn, yd) := ⟨_, rfl⟩
              rw [← hZ] at hst2
              simp only [← hZ] at FC
              clear hZ
              by_cases hpos : 0 < Z
              · rw [if_pos hpos] at hst2
                have HST := Lib.hid hst2
                clear hst2
                go_wp2_with fail
                refine AV.mono ?_
                rintro e w5 ⟨rfl, hb5⟩
                clear AV cA
                replace pB : Whole w5 (w.heap.size + 1 + 1) 48 #[.int .i64 yn, .int .i64 yd] := pB.below hb5 pB.lt
                replace pR := pR.below hb5 pR.lt
                replace hE := hE.below hb5 hE.lt
                have hB5 := hbr.trans (hb5.mono hs1)
                have hs5 := hb5.size
                clear hb5
                have cB0 : w5.cell? ⟨w.heap.size + 1 + 1, 0, none⟩ = some (.int .i64 yn) := pB.cell 0
                have cB1 : w5.cell? ⟨w.heap.size + 1 + 1, 1, none⟩ = some (.int .i64 yd) := pB.cell 1
                have fB0 := pB.free 0
                have fB1 := pB.free 1
                have zB := pB.lt
                have zR := pR.lt
                have nB := Nat.ne_of_lt zB
                go_wp2_with fail
                refine (FC _).mono ?_
                rintro e w6 ⟨rfl, hb6⟩
                clear FC cB0 cB1 fB0 fB1 nB
                have hbx5 : Below w5.heap.size w5 (w5.alloc (.cells #[.int .i64 xn, .int .i64 xd] 48)) := (Below.refl _ _).alloc (Nat.le_refl _) _
                have x0 : w6.cell? ⟨w5.heap.size, 0, none⟩ = some (.int .i64 xn) := by rw [(keepc hb6).1 _ _ (by simp)]; simp [go_sem, oN_some]
                have x1 : w6.cell? ⟨w5.heap.size, 1, none⟩ = some (.int .i64 xd) := by rw [(keepc hb6).1 _ _ (by simp)]; simp [go_sem, oD_some]
                have hbb6 := hbx5.trans (hb6.mono (by simp))
                have hz6 : w5.heap.size < w6.heap.size := by have := hb6.size; simp at this; omega
                clear hb6 hbx5
                replace pB := pB.below hbb6 pB.lt
                replace pR := pR.below hbb6 pR.lt
                replace hE := hE.below hbb6 hE.lt
                have hB6 := hB5.trans (hbb6.mono hB5.size)
                clear hbb6 zB zR
                have cB0 : w6.cell? ⟨w.heap.size + 1 + 1, 0, none⟩ = some (.int .i64 yn) := pB.cell 0
                have cB1 : w6.cell? ⟨w.heap.size + 1 + 1, 1, none⟩ = some (.int .i64 yd) := pB.cell 1
                have fB0 := pB.free 0
                have fB1 := pB.free 1
                have zB := pB.lt
                have zR := pR.lt
                go_wp2_with fail
                go_roundw
                case rel => exact ⟨k + 1, hk2, by rw [← HM.out], by rw [HST.out]; first | done | rfl, by rw [HST.out]; first | done | rfl, by rw [HST.out]; exact ((pB.put 0 (.int .i64 xn)).put 1 (.int .i64 xd)), ((pR.far (p := ⟨w.heap.size + 1 + 1, 0, none⟩) nRB _).far (p := ⟨w.heap.size + 1 + 1, 1, none⟩) nRB _), ((hE.far (p := ⟨w.heap.size + 1 + 1, 0, none⟩) nMB _).far (p := ⟨w.heap.size + 1 + 1, 1, none⟩) nMB _), (hB6.setCell hBB _).setCell hBB _⟩
                case measure => simp only [intOf]; omega
              · rw [if_neg hpos] at hst2
                have HST := Lib.hid hst2
                clear hst2
                go_wp2_with fail
                refine AV.mono ?_
                rintro e w5 ⟨rfl, hb5⟩
                clear AV cA
                replace pB : Whole w5 (w.heap.size + 1 + 1) 48 #[.int .i64 yn, .int .i64 yd] := pB.below hb5 pB.lt
                replace pR := pR.below hb5 pR.lt
                replace hE := hE.below hb5 hE.lt
                have hB5 := hbr.trans (hb5.mono hs1)
                have hs5 := hb5.size
                clear hb5
                have cB0 : w5.cell? ⟨w.heap.size + 1 + 1, 0, none⟩ = some (.int .i64 yn) := pB.cell 0
                have cB1 : w5.cell? ⟨w.heap.size + 1 + 1, 1, none⟩ = some (.int .i64 yd) := pB.cell 1
                have fB0 := pB.free 0
                have fB1 := pB.free 1
                have zB := pB.lt
                have zR := pR.lt
                have nB := Nat.ne_of_lt zB
                go_wp2_with fail
                refine (FC _).mono ?_
                rintro e w6 ⟨rfl, hb6⟩
                clear FC cB0 cB1 fB0 fB1 nB
                have hbx5 : Below w5.heap.size w5 (w5.alloc (.cells #[.int .i64 xn, .int .i64 xd] 48)) := (Below.refl _ _).alloc (Nat.le_refl _) _
                have x0 : w6.cell? ⟨w5.heap.size, 0, none⟩ = some (.int .i64 xn) := by rw [(keepc hb6).1 _ _ (by simp)]; simp [go_sem, oN_some]
                have x1 : w6.cell? ⟨w5.heap.size, 1, none⟩ = some (.int .i64 xd) := by rw [(keepc hb6).1 _ _ (by simp)]; simp [go_sem, oD_some]
                have hbb6 := hbx5.trans (hb6.mono (by simp))
                have hz6 : w5.heap.size < w6.heap.size := by have := hb6.size; simp at this; omega
                clear hb6 hbx5
                replace pB := pB.below hbb6 pB.lt
                replace pR := pR.below hbb6 pR.lt
                replace hE := hE.below hbb6 hE.lt
                have hB6 := hB5.trans (hbb6.mono hB5.size)
                clear hbb6 zB zR
                have cB0 : w6.cell? ⟨w.heap.size + 1 + 1, 0, none⟩ = some (.int .i64 yn) := pB.cell 0
                have cB1 : w6.cell? ⟨w.heap.size + 1 + 1, 1, none⟩ = some (.int .i64 yd) := pB.cell 1
                have fB0 := pB.free 0
                have fB1 := pB.free 1
                have zB := pB.lt
                have zR := pR.lt
                go_wp2_with fail
                go_roundw
                case rel => exact ⟨k + 1, hk2, by rw [← HM.out], by rw [HST.out]; first | done | rfl, by rw [HST.out]; first | done | rfl, by rw [HST.out]; exact pB, pR, hE, hB6⟩
                case measure => simp only [intOf]; omega
        · obtain rfl : k = N1 := by omega
          obtain ⟨y, hy⟩ : ∃ y : Int, y = a + (k : Int) := ⟨_, rfl⟩
          have hyb : 0 ≤ y ∧ y ≤ 3601 := by omega
          rw [← hy] at hlt ⊢
          clear hy
          have HV := Lib.hid HE.out.symm
          clear HE
          obtain ⟨Q, hQ⟩ : ∃ Q, Q = bestF (payF L n known) a len k := ⟨_, rfl⟩
          rw [← hQ] at pB ⊢
          have HQ := Lib.hid (hQ.trans HV.out)
          clear hQ HV
          have mw1 : IntKind.i64.wrap (y + len) = y + len := IntWalk.i64_in _ ⟨by omega, by omega⟩
          have cB0 : wr.cell? ⟨w.heap.size + 1 + 1, 0, none⟩ = some (.int .i64 (bN Q)) := pB.cell 0
          have cB1 : wr.cell? ⟨w.heap.size + 1 + 1, 1, none⟩ = some (.int .i64 (bD Q)) := pB.cell 1
          have c0 : wr.cell? ⟨w.heap.size + 1, 0, none⟩ = some (.int .i64 0) := pR.cell 0
          have c1 : wr.cell? ⟨w.heap.size + 1, 1, none⟩ = some (.int .i64 0) := pR.cell 1
          have f0 := pR.free 0
          have f1 := pR.free 1
          have zR := pR.lt
          clear pB pR hE HF HOK
          go_wp2_with fail
          refine bodyPost_ret (v := vBest Q) ?_ rfl ⟨by rw [HQ.out], ?_⟩
          · simp [results, Try.results31, go_sem, c0, c1]
          · (repeat (first | (with_reducible exact Below.refl _ _) | (with_reducible assumption) | (with_reducible refine Below.drew ?_) | (with_reducible refine below_drewN ?_ _) | ((with_reducible refine Below.setCell ?_ ?_ _); rotate_left; focus (first | (simp; done) | omega | (simp; omega))) | ((with_reducible refine Below.alloc ?_ ?_ _); rotate_left; focus (first | exact Nat.le_refl _ | omega | (simp; done) | (simp; omega)))))
end Go.Proofs.Ytondmakaednpdaa
